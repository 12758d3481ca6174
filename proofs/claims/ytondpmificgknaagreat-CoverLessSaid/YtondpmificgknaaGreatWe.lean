/- A part more of a node, a head more; contract of has. (And what it stands on.) -/
import Derived.Test.YtondpmificgknaaGreatWd
import Derived.Test.YtondpmificgknaaGreatWc
set_option linter.unusedSimpArgs false
set_option linter.unusedVariables false

set_option maxRecDepth 100000
namespace Go.Hk
structure PRc where
 b:Nat
 off:Nat
 cap:Nat
 l:Int
 m:Int
 sz:Nat
 dst:Option Nat
 todo:List DI
def jJ (env:Env) (d:Int):Option Operand->Option Int
 | none=>some d
 | some x=>match CQ env x with
  | some (.imm (.int _ m))=>some m
  | _=>none
def kW (tt:TT) (n:Nat) (env:Env) (todo:List DI):Option PRc :=
 match AS todo ([],[]) with
 | some (_,o,todo')=>match o.guard,o.op with
  | none,.slice t x lo hi none=>match lk tt t,CQ env x,jJ env 0 lo,B1 n o.dst with
   | some { sh:=.sl e,.. },some (.raw (.slice (some ⟨b,off,none⟩) len cap)),some l,true=>match lk tt e,jJ env len hi with
    | some ti,some m=>some ⟨b,off,cap,l,m,ti.size,o.dst,todo'⟩
    | _,_=>none
   | _,_,_,_=>none
  | _,_=>none
 | none=>none
structure PRk where
 e:TypeId
 sz:Nat
 b:Nat
 off:Nat
 len:Nat
 todo:List DI
def kZ (tt:TT) (env:Env) (id:Nat) (todo:List DI):Option PRk :=
 match AS todo ([id],[id]) with
 | some (_,o,todo')=>match o.guard,o.dst,o.op with
  | none,none,.call { callee:=.builtin .clear,args:=⟨[x]⟩,argTypes:=⟨[t]⟩ }=>match lk tt t,CQ env x with
   | some { sh:=.sl e,.. },some (.raw (.slice (some ⟨b,off,none⟩) len _))=>match lk tt e with
    | some ti=>match Nat.blt 0 len,Nat.beq ti.zero.length ti.size with
     | true,true=>some ⟨e,ti.size,b,off,len,todo'⟩
     | _,_=>none
    | none=>none
   | _,_=>none
  | _,_,_=>none
 | none=>none
def TV (A A':Asn) (b off k:Nat):Prop:=∀us I w bs,A.P us I w bs->b∈bs/\∃cur t,w.heap[b]?=some (.cells cur t (0,0))/\off+k<=cur.size /\
 ∀news:List Value,news.length=k->(∀u∈news,u.oneCell'=true)->A'.P us I (w.setRow b (cur.toList.take off++news++cur.toList.drop (off+k)).toArray) bs
section
variable {P:Program} {n:Nat} {F:List Nat} {Q:DQ} {tt:TT} {env env':Env} {st st' st0 st1:St} {ids ids' fr:List Nat} {k todo todo':List DI} {I J:Imm} {μ:Mu} {w:World} {a:Act} {Pn:V->Prop} {d:D} {cx:Prop} {ob:List Prop}
theorem Vs {lo:Option Operand} {d l:Int} (h:jJ env d lo=some l) (hx:∀x,lo=some x->∀d,CQ env x=some d->RepD I μ (a.eval x) d):(lo=none/\l=d)\/∃x k,lo=some x/\a.eval x = .int k l:=by
 unfold jJ at h
 split at h
 ·cases h;exact .inl ⟨rfl,rfl⟩
 ·rename_i x
  split at h
  ·rename_i k m hm;cases h;exact .inr ⟨x,k,rfl,(hx x rfl _ hm).immInv.intInv⟩
  ·cases h
theorem X3 (htt:TTok P tt) {c:PRc} (h:kW tt n env todo=some c) (hc:0<=c.l/\c.l<=c.m/\c.m<=c.cap/\c.l<c.cap)
  (hk:G P n F Q c.todo (Bz c.dst (.raw (.slice (some ⟨c.b,c.off+c.l.toNat*c.sz,none⟩) (c.m.toNat-c.l.toNat) (c.cap-c.l.toNat))) env) st ids):G P n F Q todo env st ids:=by
 unfold kW at h
 split at h
 ·rename_i all o todo' h1
  split at h
  ·rename_i t x lo hi hgd hop
   split at h
   ·rename_i e _ _ _ _ b off len cap l ht hx hlo hd
    split at h
    ·rename_i ti m hti hhi;cases h;simp only at hc hk;refine Bq (fr:=[]) (wr:=[]) (rd:=[]) h1 ?_ hd (λc hc=>by rw [hop] at hc;cases hc) hk;intro I μ st1 ids1 a w hag hst hon;refine ⟨λ_=>?_,λhw=>by rw [A0 hgd] at hw;cases hw⟩;have hops:=AJ hon;rw [hop] at hops;have e1:a.eval x = .slice (some ⟨b,off,none⟩) len cap:=(hops x (by simp [Op.operands]) _ hx).rawInv;obtain ⟨c1,c2,c3,c4⟩:=hc;obtain ⟨l',rfl⟩:∃k:Nat,l=k:=⟨l.toNat,by omega⟩
     obtain ⟨m',rfl⟩:∃k:Nat,m=k:=⟨m.toNat,by omega⟩
     have r1:=Vs (I:=I) (μ:=μ) (a:=a) hlo (λy hy=>hops y (by subst hy;simp [Op.operands]));have r2:=Vs (I:=I) (μ:=μ) (a:=a) hhi (λy hy=>hops y (by subst hy;cases lo <;> simp [Op.operands]));have hb:∀(k:IntKind) (x y:Nat) (c:BoundsCode),x<=y->(Instr.sliceBound (.int k x) y c).run P w = .ok x w:=by
      intro k x y c hxy;simp [Instr.sliceBound,asIntOf,hxy]
     have hl1:l'<=m':=by omega
     have hm1:m'<=cap:=by omega
     have hne:cap≠l':=by omega
     have hrun:(Instr.sliceAt t (.slice (some ⟨b,off,none⟩) len cap) (lo.map a.eval) (hi.map a.eval) none).run P w = .ok (.slice (some ⟨b,off+l'*ti.size,none⟩) (m'-l') (cap-l')) w:=by
      have hadd:(⟨b,off,none⟩:Addr).add (l'*ti.size)=⟨b,off+l'*ti.size,none⟩:=De _ _ _;rcases r1 with ⟨rfl,h1⟩ | ⟨y,k,rfl,h1⟩ <;> rcases r2 with ⟨rfl,h2⟩ | ⟨z,k2,rfl,h2⟩
      all_goals
       simp only [Option.map_none,Option.map_some]
       try rw [h1]
       try rw [h2]
      ·have hl0:l'=0:=by omega
       have hml:m'=len:=by omega
       subst hl0;subst hml;simp [Instr.sliceAt,run_underlying (htt.sh ht),Instr.slice,Instr.sliceBounds,hb _ _ _ _ hm1,(htt e ti hti).sizeOf w,hne,De]
      ·have hl0:l'=0:=by omega
       subst hl0;simp [Instr.sliceAt,run_underlying (htt.sh ht),Instr.slice,Instr.sliceBounds,hb _ _ _ _ hm1,(htt e ti hti).sizeOf w,hne,De]
      ·have hml:m'=len:=by omega
       subst hml;simp [Instr.sliceAt,run_underlying (htt.sh ht),Instr.slice,Instr.sliceBounds,hb _ _ _ _ hl1,hb _ _ _ _ hm1,(htt e ti hti).sizeOf w,hne,De]
      ·simp [Instr.sliceAt,run_underlying (htt.sh ht),Instr.slice,Instr.sliceBounds,hb _ _ _ _ hl1,hb _ _ _ _ hm1,(htt e ti hti).sizeOf w,hne,De]
     have hrun':(execOp a.eval o).run P w = .ok (.value (.slice (some ⟨b,off+l'*ti.size,none⟩) (m'-l') (cap-l'))) w:=by
      simp only [execOp,hop,e1,Option.map_none,Sem.run_bind,hrun,Result.andThen_ok,Sem.run_pure]
     rw [hrun'];exact ⟨I,μ,hst,.raw _ rfl,Mu.le_refl μ,Ext.refl _ _ _ _⟩
    ·cases h
   ·cases h
  ·cases h
 ·cases h
theorem mX (htt:TTok P tt) (id:Nat) {A:Asn} (A':Asn) {c:PRk} (h:kZ tt env id todo=some c) (hl:lk st id=some (some (.hp A))) (hA:TV A A' c.b c.off (c.len*c.sz))
  (hk:G P n F Q c.todo env ((id,some (.hp A'))::st) ids):G P n F Q todo env st ids:=by
 unfold kZ at h
 split at h
 ·rename_i all o todo' h1
  split at h
  ·rename_i x t hgd hdst hop
   split at h
   ·rename_i e _ _ _ _ b off len cap ht hx
    split at h
    ·rename_i ti hti
     split at h
     ·rename_i hlen hz;cases h;simp only at hA hk;have hlen:0<len:=by simpa [Nat.blt_eq] using hlen
      have hk:G P n F Q todo' (Bz o.dst (.undef) env) ([(id,some (.hp A'))]++st) ids:=by rw [hdst];exact hk
      refine Bq (fr:=[]) (wr:=[(id,some (.hp A'))]) (rd:=[id]) h1 ?_ (by simp [B1,hdst]) (λc hc=>by rw [hop] at hc;cases hc) hk;intro I μ st1 ids1 a w hag hst hon;refine ⟨λ_=>?_,λhw=>by rw [A0 hgd] at hw;cases hw⟩;have hops:=AJ hon;rw [hop] at hops;have e1:a.eval x = .slice (some ⟨b,off,none⟩) len cap:=(hops x (by simp [Op.operands,Call.operands]) _ hx).rawInv;have hl1:Aq st1 id (.hp A):=by unfold Aq;rw [hag id (by simp)];exact hl
      obtain ⟨gg,hg',us,bs,rfl,e2⟩:=hst.blk id _ hl1;obtain ⟨k1,cur,bt,k2,k3,k4⟩:=hA us I w bs e2;obtain ⟨inf,z,z1,z2,z3,z4,z5,z6⟩:=(htt e ti hti).info;have hzl:z.cells.size=ti.size:=by
       have:=(z5 (λ_=>none) noMu).1;rw [Nat.eq_of_beq_eq_true hz] at this;simpa using this
      have hnl:(Builtin.zeroCells z.cells len).toList.length=len*ti.size:=by rw [Array.length_toList,size_zeroCells,hzl]
      have hone:∀u∈(Builtin.zeroCells z.cells len).toList,u.oneCell'=true:=by
       intro u hu;simp only [Builtin.zeroCells,Array.toList_map,List.mem_map,Array.toList_range,List.mem_range] at hu;obtain ⟨q,hq,rfl⟩:=hu;have hpos:0<z.cells.size:=by
        rcases Nat.eq_zero_or_pos z.cells.size with h0 | h0
        ·rw [h0] at hq;simp at hq
        ·exact h0
       have hlt:q % z.cells.size<z.cells.size:=Nat.mod_lt _ hpos;rw [getElem!_pos z.cells _ hlt];exact z6 _ (by simp)
      have hst2:=run_storeCells_at P b off bt (Builtin.zeroCells z.cells len).toList 0 cur w k2 (by rw [hnl];simpa using k3) hone;simp only [Nat.add_zero] at hst2;rw [hnl] at hst2;have hrun:(execOp a.eval o).run P w = .ok (.value (.tuple #[])) (w.setRow b (cur.toList.take off++(Builtin.zeroCells z.cells len).toList++cur.toList.drop (off+len*ti.size)).toArray):=by
       obtain ⟨len',rfl⟩:∃l,len=l+1:=⟨len-1,by omega⟩
       simp only [execOp,hop,resolve,invoke,builtin,Sem.run_bind,Sem.run_pure,Result.andThen_ok,List.map_toArray,List.map_cons,List.map_nil,e1];simp [Builtin.clear_,run_underlying (htt.sh ht),zeroValue,typeInfo,z1,z4,hst2]
      rw [hrun];have hnew:BlkRep I μ (w.setRow b (cur.toList.take off++(Builtin.zeroCells z.cells len).toList++cur.toList.drop (off+len*ti.size)).toArray) (MQ us bs) (.hp A'):=⟨us,bs,rfl,k4 _ hnl hone⟩
      obtain ⟨q1,q2⟩:=hst.update (id:=id) (blk:=.hp A) (g:=MQ us bs) (b:=b) hl1 hg' (AL.2 k1) (w':=w.setRow b _) (setRow_size w b _) rfl rfl rfl (λk hk=>setRow_other w b k _ hk) hnew;exact ⟨I,μ,q1,.undef _,Mu.le_refl μ,q2⟩
     ·cases h
    ·cases h
   ·cases h
  ·cases h
 ·cases h
theorem Jx (id t j:Nat) {A:Asn} {e:TypeId} {sz:Nat} (es:List (List V)) {v:Value} (hl:lk st id=some (some (.hp A))) (ht:lk env t=some (.raw v))
  (hA:∀vs I w bs,A.P vs I w bs->∃xs,w.ownsRow 0 e sz v es.length xs/\RepVL I xs es.flatten/\(∀c∈es,c.length=sz)/\(∀c∈es,∀x∈c,V.one x=true)/\0<sz/\∀k,v.ownBlock=some k->k∈bs)
  (h:DGo P n F Q todo ((t,.own j es.length)::env) ((j,some (.row e sz es))::(id,none)::st) ids'):DGo P n F Q todo env st (j::ids'):=by
 refine Ds λI μ a w hc=>?_;obtain ⟨g,hg,vs,bs,rfl,hP⟩:=hc.blk id _ hl;obtain ⟨xs,k1,k2,k3,k4,k5,k6⟩:=hA vs I w bs hP;have hown:∀b,CY v b->v.ownBlock=some b:=λb hb=>by
  rcases k1.2 with ⟨rfl,_⟩ | ⟨g,cap,cur,rfl,_⟩
  ·cases hb
  ·have:g=b:=hb;rw [<- this];rfl
 obtain ⟨q1,q2,q3⟩:=StRep.relay (R:=[id]) (new:=[(j,v,.row e sz es)]) (ids':=ids') hc.toStRep
  (λp hp b hb=>by
   rw [List.mem_singleton.1 hp] at hb;exact ⟨id,_,_,by simp,hl,hg,AL.2 (k6 b (hown b hb))⟩)
  (λp hp q hq b _ _=>by rw [List.mem_singleton.1 hp,List.mem_singleton.1 hq]) (Imm.le_refl I) hc.imm (λb o h=>.inl h)
  (λ_ p hp=>by rw [List.mem_singleton.1 hp];exact ⟨xs,k1,k2,k3,k4,k5⟩)
 refine ⟨I,_,_,_,ids',q2,λt' d hd=>?_,q3,.of_le q1,h⟩;by_cases e':t=t'
 ·subst e';rw [Ap] at hd;cases hd;have hv:=(hc.env t _ ht).rawInv;rw [hv];obtain ⟨ad,cap,rfl⟩:=NG k1;exact .own j es.length ad cap (by simp [E7,lk])
 ·rw [Au _ _ e'] at hd;exact (hc.env t' d hd).mono (Imm.le_refl I) q1
end
end Go.Hk
namespace Go.Hk
open Go.Proofs
def iJ:TT:=nM++[
 (177,⟨.struct [(0,26),(4,150),(7,174),(8,175)],true,9,136,[.imm (.int .i64 0),.imm (.int .i64 0),.imm (.str []),.nils,.imm (.int .i64 0),.imm (.int .i64 0),.imm (.str []),.nils,.nils]⟩),
 (109,⟨.ptr 177,false,1,8,[.imm .nilp]⟩),
 (174,⟨.sl 150,false,1,24,[.nils]⟩),
 (175,⟨.sl 109,false,1,24,[.nils]⟩),
 (107,⟨.struct [(0,35),(4,4)],true,5,64,[.imm (.int .i64 0),.imm (.int .i64 0),.imm (.str []),.nils,.imm (.bool false)]⟩),
 (170,⟨.struct [(0,39),(1,150)],true,4,56,[.nils,.imm (.int .i64 0),.imm (.int .i64 0),.imm (.str [])]⟩),
 (165,⟨.ptr 170,false,1,8,[.imm .nilp]⟩),
 (164,⟨.iface,false,1,16,[.imm .niliface]⟩),
 (111,⟨.sl 164,false,1,24,[.nils]⟩),
 (124,⟨.struct [(0,62)],true,4,56,[.imm (.int .i64 0),.imm (.int .i64 0),.imm (.str []),.nils]⟩),
 (182,⟨.struct [(0,62)],true,4,56,[.imm (.int .i64 0),.imm (.int .i64 0),.imm (.str []),.nils]⟩),
 (68,⟨.struct [(0,3),(1,39),(2,33),(3,66)],true,4,80,[.imm (.int .i64 0),.nils,.nils,.nils]⟩),
 (66,⟨.sl 68,false,1,24,[.nils]⟩),
 (136,⟨.struct [(0,102),(1,3)],true,2,16,[.imm .nilp,.imm (.int .i64 0)]⟩),
 (134,⟨.ptr 136,false,1,8,[.imm .nilp]⟩),
 (122,⟨.struct [(0,26),(4,33),(5,35),(9,120)],true,10,160,[.imm (.int .i64 0),.imm (.int .i64 0),.imm (.str []),.nils,.nils,.imm (.int .i64 0),.imm (.int .i64 0),.imm (.str []),.nils,.nils]⟩),
 (120,⟨.sl 122,false,1,24,[.nils]⟩),
 (46,⟨.struct [(0,4),(1,35)],true,5,64,[.imm (.bool false),.imm (.int .i64 0),.imm (.int .i64 0),.imm (.str []),.nils]⟩),
 (273,⟨.func,false,1,8,[.imm .nilfn]⟩)]
theorem Ak:TTok Tryz.prog iJ:=.of_eq (l:=[4,3,9,186,26,62,183,27,5,24,23,193,184,60,188,192,90,22,190,87,85,36,35,32,33,29,55,101,181,150,221,178,179,39,102,114,250,207,155,177,109,174,175,107,170,165,164,111,124,182,68,66,136,134,122,120,46,273]) (by kernel_rfl)
section
variable {n:Nat} {F:List Nat} {Q:DQ} {env env':Env} {st st':St} {ids ids':List Nat} {k todo:List DI} {ob:List Prop}
theorem md (path:List Pt) (h:run iJ n 300 path todo env st ids [] = .at k env' st' ids' ob) (hob:A9 ob) (hd:G Tryz.prog n F Q k env' st' ids'):DGo Tryz.prog n F Q todo env st ids:=J2 Ak DJ 300 path h hob hd
theorem mg (path:List Pt) (h:run iJ n 300 path todo env st ids [] = .at k env' st' ids' ob) (hob:A9 ob) (hd:G Tryz.prog n F Q k env' st' ids'):G Tryz.prog n F Q todo env st ids:=IK Ak DJ 300 path h hob hd
theorem pC (f:Nat) (h:run iJ n f [] todo env st ids [] = .at k env' st' ids' ob) (hob:A9 ob) (hd:G Tryz.prog n F Q k env' st' ids'):DGo Tryz.prog n F Q todo env st ids:=J2 Ak DJ f [] h hob hd
theorem pB (f:Nat) (h:run iJ n f [] todo env st ids [] = .at k env' st' ids' ob) (hob:A9 ob) (hd:G Tryz.prog n F Q k env' st' ids'):G Tryz.prog n F Q todo env st ids:=IK Ak DJ f [] h hob hd
theorem mi {es:List (List V)} {m:Int} {sz:Nat} {e:TypeId} {g:Option (Bool×Bool)} {ob:List Prop} {t:Nat} {todo':List DI} {c:List V} (h:M7 iJ n env todo=some ⟨es,m,sz,e,g,ob,some t,todo'⟩)
  (hc:Ag g->0<=m/\es[m.toNat]?=some c/\c.length=sz) (hob:A9 ob) (hk:G Tryz.prog n F Q todo' ((t,gD g (.ip e c 0))::env) st ids):G Tryz.prog n F Q todo env st ids:=EG Ak h hc hob hk
end
def AC:Ty->Int
 | .mk f _ _ _=>f
def Cq:Ty->Str
 | .mk _ _ x _=>x
def zT:Ty:=.mk 0 0 [] []
inductive Mi where
 | mk (ty:Ty) (nt:List Ty) (hd:Ty) (ks:List Mi)
def Mi.ty:Mi->Ty
 | .mk t _ _ _=>t
def Mi.nt:Mi->List Ty
 | .mk _ n _ _=>n
def Mi.hd:Mi->Ty
 | .mk _ _ h _=>h
def Mi.ks:Mi->List Mi
 | .mk _ _ _ k=>k
def An (t:Ty):Mi:=.mk t [] zT []
def A3 (ds:List Dt):Ty->List Ty
 | .mk so _ x _=>if so=2 then [.mk 2 0 [] [],.mk 2 1 [] []] else if so=3 then [.mk 3 0 [] []] else if so=8 then (match ds[(AR x 0 ds).toNat]? with
  | some d=>d.cons.map λc=>.mk 4 0 c.name []
  | none=>[]) else []
def BH (l:List Ty) (h:Ty):Bool:=l.any λx=>A6 x h
def AZ (ds:List Dt) (m:Mi) (h:Ty):Mi:=.mk m.ty [] h ((AK ds m.ty (Cq h)).1.map An)
def Ht (ds:List Dt) (m:Mi):List Ty:=(A3 ds m.ty).filter λh=>!BH m.nt h
def Af (ds:List Dt) (m:Mi):Mi:=if AC m.hd≠0 then m else match Ht ds m with
 | [h]=>AZ ds m h
 | _=>m
def A7 (ds:List Dt):Mi->List Int->Ty->Bool->Mi
 | m,[],h,true=>AZ ds m h
 | m,[],h,false=>.mk m.ty (m.nt++[h]) m.hd m.ks
 | m,i::p,h,is=>match (Af ds m).ks[i.toNat]? with
  | some k=>.mk (Af ds m).ty (Af ds m).nt (Af ds m).hd ((Af ds m).ks.set i.toNat (A7 ds k p h is))
  | none=>m
mutual
def Aw (ds:List Dt):Ty->Mi->Int×List Int×Ty
 | .mk f n x ps,m=>if f=1\/f=2 then (1,[],zT) else
  if AC (Af ds m).hd=0/\BH (Af ds m).nt (AO (.mk f n x ps))=false then (2,[],AO (.mk f n x ps)) else
  if AC (Af ds m).hd=0\/A6 (Af ds m).hd (AO (.mk f n x ps))=false then (0,[],zT) else AY ds 0 ps (Af ds m).ks
def AY (ds:List Dt):Int->List Ty->List Mi->Int×List Int×Ty
 | _,[],_=>(1,[],zT)
 | _,_::_,[]=>(1,[],zT)
 | i,p::r,k::ks=>if (Aw ds p k).1=1 then AY ds (i+1) r ks else ((Aw ds p k).1,i::(Aw ds p k).2.1,(Aw ds p k).2.2)
end
def Jf (nt:List Ty):Nat->Int->Ty
 | 0,i=>.mk 1 i [] []
 | f+1,i=>if BH nt (.mk 1 i [] [])=false then .mk 1 i [] [] else if BH nt (.mk 1 (0-i) [] [])=false then .mk 1 (0-i) [] [] else Jf nt f (i+1)
def Da (nt:List Ty):Ty:=Jf nt nt.length 0
def AQ (ds:List Dt) (m:Mi) (h:Ty):Int:=if AC h=4 then AN ds (D7 ds) 1 (AK ds m.ty (Cq h)).1 else 1
def F8:Option (Ty×Int)->Int->Bool
 | none,_=>true
 | some p,n=>decide (n<p.2)
def Dm (ds:List Dt) (m:Mi):Option (Ty×Int)->List Ty->Option (Ty×Int)
 | b,[]=>b
 | b,h::r=>Dm ds m (if 0<AQ ds m h/\BH m.nt h=false/\F8 b (AQ ds m h)=true then some (h,AQ ds m h) else b) r
def AA (ds:List Dt) (m:Mi):Option Ty:=(Dm ds m none (A3 ds m.ty)).map (·.1)
def Bg (g:Mi->Option (Option Ty)):List Mi->Option (Option (List Ty))
 | []=>some (some [])
 | k::r=>match g k with
  | none=>none
  | some none=>some none
  | some (some v)=>match Bg g r with
   | none=>none
   | some none=>some none
   | some (some vs)=>some (some (v::vs))
def Cv:Ty->List Ty->Ty
 | .mk a b c _,l=>.mk a b c l
def AD (ds:List Dt):Nat->Mi->Option (Option Ty)
 | 0,_=>none
 | f+1,m=>if AC m.hd=0 then
   (if AC m.ty=1 then some (some (Da m.nt)) else
   if AC m.ty=4\/AC m.ty=5\/AC m.ty=6\/AC m.ty=7 then some (some (.mk 5 0 [] [])) else
   match AA ds m with
   | none=>some none
   | some h=>(Bg (AD ds f) (AZ ds m h).ks).map (·.map (Cv h)))
  else (Bg (AD ds f) m.ks).map (·.map (Cv m.hd))
def FR (n:Int):Int:=if 0<n then 2*n-1 else -2*n
mutual
def BS (ds:List Dt):Ty->Ty->Int
 | .mk f n x ps,.mk _ n' x' ps'=>if f=1 then FR n-FR n' else if f=2 then n-n' else if f=4 then (if (Cx ds x).2-(Cx ds x').2≠0 then (Cx ds x).2-(Cx ds x').2 else Cc ds ps ps') else 0
def Cc (ds:List Dt):List Ty->List Ty->Int
 | [],_=>0
 | _::_,[]=>0
 | p::r,q::s=>if BS ds p q≠0 then BS ds p q else Cc ds r s
end
def Cm (ds:List Dt) (a b:Ty):Bool:=if Ai a=Ai b then decide (BS ds a b<0) else decide (Ai a<Ai b)
def Hg (ds:List Dt):Option Ty->Option Ty->Option Ty
 | none,b=>b
 | some a,none=>some a
 | some a,some b=>if Cm ds b a then some b else some a
def fA (ds:List Dt) (m:Mi):Option (Option Ty):=AD ds 1000 m
def N7 (ds:List Dt):Option (Option Ty)->Option (Option Ty)->Option (Option Ty)
 | some a,some b=>some (Hg ds a b)
 | _,_=>none
def Cj (ds:List Dt):Nat->Mi->List (Ty×Int)->Option (Option Ty)
 | 0,_,_=>none
 | _+1,m,[]=>fA ds m
 | f+1,m,(p,b)::r=>if (Aw ds p m).1=2 then N7 ds (Cj ds f (A7 ds m (Aw ds p m).2.1 (Aw ds p m).2.2 true) ((p,b)::r)) (Cj ds f (A7 ds m (Aw ds p m).2.1 (Aw ds p m).2.2 false) ((p,b)::r)) else
  if (Aw ds p m).1=b then Cj ds f m r else some none
end Go.Hk
namespace Go.Hk
section
variable {P:Program} {n:Nat} {F:List Nat} {Q:DQ} {tt:TT} {env env':Env} {st st':St} {ids ids':List Nat} {todo:List DI}
end
end Go.Hk
namespace Go.Hk
section
variable {P:Program} {n:Nat} {F:List Nat} {Q:DQ} {tt:TT} {env env':Env} {st st':St} {ids ids':List Nat} {todo:List DI} {d:D} {ob:List Prop}
end
end Go.Hk
namespace Go.Hk
mutual
def unn:V->V
 | .nilsl=>.sl []
 | .agg xs=>.agg (Mp xs)
 | .tup xs=>.tup (Mp xs)
 | .sl es=>.sl (Uk es)
 | .ip t cs off=>.ip t (Mp cs) off
 | .iface t x=>.iface t (unn x)
 | x=>x
def Mp:List V->List V
 | []=>[]
 | x::r=>unn x::Mp r
def Uk:List (List V)->List (List V)
 | []=>[]
 | x::r=>Mp x::Uk r
end
theorem Hc:∀l:List V,Mp l=l.map unn
 | []=>rfl
 | x::r=>by simp [Mp,Hc r]
theorem Pg:∀l:List (List V),Uk l=l.map Mp
 | []=>rfl
 | x::r=>by simp [Uk,Pg r]
theorem RepV.unn {I:Imm} {v:Value} {x:V} (h:RepV I v x):RepV I v (unn x):=by
 have gL:∀{xs:List V} {i:Nat} {y:V},(Mp xs)[i]?=some y->∃z,xs[i]?=some z/\y=Go.Hk.unn z:=by
  intro xs i y hy;rw [Hc,List.getElem?_map] at hy;cases hz:xs[i]? with
  | none=>rw [hz] at hy;cases hy
  | some z=>rw [hz] at hy;cases hy;exact ⟨z,rfl,rfl⟩
 have gLL:∀{es:List (List V)} {i:Nat} {e:List V},(Uk es)[i]?=some e->∃z,es[i]?=some z/\e=Mp z:=by
  intro es i y hy;rw [Pg,List.getElem?_map] at hy;cases hz:es[i]? with
  | none=>rw [hz] at hy;cases hy
  | some z=>rw [hz] at hy;cases hy;exact ⟨z,rfl,rfl⟩
 induction h with
 | agg cs xs hl h1 _ ih=>exact .agg cs _ (by rw [Hc,List.length_map,hl]) h1 λi c y hc hy=>by obtain ⟨z,hz,rfl⟩:=gL hy;exact ih i c z hc hz
 | tup cs xs hl _ ih=>exact .tup cs _ (by rw [Hc,List.length_map,hl]) λi c y hc hy=>by obtain ⟨z,hz,rfl⟩:=gL hy;exact ih i c z hc hz
 | slnil=>exact .slnil
 | sl0 a=>exact .sl0 a
 | nilsl=>exact .slnil
 | sl b o len cap sz es vs hl hc hm hsz hcell _ ih =>
  refine .sl b o len cap sz _ vs (by rw [Pg,List.length_map,hl]) hc hm (λe he=>?_) (λi e j x hi hj=>?_) (λi e j x hi hj=>?_)
  ·obtain ⟨i,hi⟩:=List.getElem?_of_mem he;obtain ⟨z,hz,rfl⟩:=gLL hi;rw [Hc,List.length_map];exact hsz z (List.mem_of_getElem? hz)
  ·obtain ⟨z,hz,rfl⟩:=gLL hi;obtain ⟨y,hy,rfl⟩:=gL hj;exact hcell i z j y hz hy
  ·obtain ⟨z,hz,rfl⟩:=gLL hi;obtain ⟨y,hy,rfl⟩:=gL hj;exact ih i z j y hz hy
 | iface t v x _ ih=>exact .iface t v _ ih
 | ip b o t cs off vs hcell _ ih =>
  refine .ip b o t _ off vs (λj y hj=>?_) (λj y hj=>?_)
  ·obtain ⟨z,hz,rfl⟩:=gL hj;exact hcell j z hz
  ·obtain ⟨z,hz,rfl⟩:=gL hj;exact ih j z hz
 | bool b=>exact .bool b
 | int k n=>exact .int k n
 | str s l hs=>exact .str s l hs
 | niliface=>exact .niliface
 | nilp=>exact .nilp
 | nilmap=>exact .nilmap
 | nilfn=>exact .nilfn
 | fn f=>exact .fn f
 | mapv b es clock kv hI hl hs h1 h2 _ _=>exact .mapv b es clock kv hI hl hs h1 h2
 | clo f first cap xs ys hf hc h1 h2 _ _=>exact .clo f first cap xs ys hf hc h1 h2
def nX:List D->List D->Prop
 | [],[]=>True
 | d::r,d'::r'=>(d=d'\/(d = .nils/\d' = .imm .nilsl))/\nX r r'
 | _,_=>False
theorem PO:∀{ds ds':List D},nX ds ds'->ds.length=ds'.length/\∀(i:Nat) (d':D),ds'[i]?=some d'->∃d,ds[i]?=some d/\(d=d'\/(d = .nils/\d' = .imm .nilsl))
 | [],[],_=>⟨rfl,λi d h=>by simp at h⟩
 | d::r,d'::r',h=>by
  obtain ⟨h1,h2⟩:=PO h.2;refine ⟨by simp [h1],λi x hx=>?_⟩;cases i with
  | zero=>simp at hx;subst hx;exact ⟨d,rfl,h.1⟩
  | succ i=>exact h2 i x (by simpa using hx)
 | [],_::_,h=>h.elim
 | _::_,[],h=>h.elim
theorem jC {I:Imm} {μ:Mu} {vs:List Value} {ds ds':List D} (h:nX ds ds') (hr:RepL I μ vs ds):RepL I μ vs ds':=by
 obtain ⟨h1,h2⟩:=PO h;refine ⟨by rw [hr.1,h1],λi v y hv hy=>?_⟩;obtain ⟨d,k1,k2⟩:=h2 i y hy;have:=hr.2 i v d hv k1;rcases k2 with rfl | ⟨rfl,rfl⟩
 ·exact this
 ·cases this;exact .imm _ _ .nilsl
section
variable {P:Program} {n:Nat} {F:List Nat} {Q:DQ} {tt:TT} {env env':Env} {st st':St} {ids ids':List Nat} {todo:List DI}
theorem gG (k:Nat) {t:TypeId} {sz:Nat} {ds:List D} (ds':List D) (hk:lk st k=some (some (.cells t sz ds))) (hcl:nX ds ds') (h:DGo P n F Q todo env ((k,some (.cells t sz ds'))::st) ids):DGo P n F Q todo env st ids:=by
 refine Ds λI μ a w hc=>?_;obtain ⟨p1,p2⟩:=hc.toStRep.retell (st1:=(k,some (.cells t sz ds'))::st) (λi bb hlb=>by
  rcases Av.1 hlb with ⟨rfl,rfl⟩ | ⟨_,h2⟩
  ·refine ⟨_,hk,λgb hb=>?_⟩;obtain ⟨hs,b,us,e1,e2,e3,e4⟩:=hb;exact ⟨by rw [<- (PO hcl).1,hs],b,us,e1,e2,jC hcl e3,e4⟩
  ·exact ⟨bb,h2,λ_ h=>h⟩)
 exact ⟨I,μ,env,_,ids,p1,hc.env,p2,.refl _ _,h⟩
def pA (j:Nat):List D->List D->Prop
 | [],[]=>True
 | d::r,d'::r'=>(d=d'\/(d = .imm .nilsl/\d' = .own j 0))/\pA j r r'
 | _,_=>False
theorem UR {j:Nat}:∀{ds ds':List D},pA j ds ds'->ds.length=ds'.length/\∀(i:Nat) (d':D),ds'[i]?=some d'->∃d,ds[i]?=some d/\(d=d'\/(d = .imm .nilsl/\d' = .own j 0))
 | [],[],_=>⟨rfl,λi d h=>by simp at h⟩
 | d::r,d'::r',h=>by
  obtain ⟨h1,h2⟩:=UR h.2;refine ⟨by simp [h1],λi x hx=>?_⟩;cases i with
  | zero=>simp at hx;subst hx;exact ⟨d,rfl,h.1⟩
  | succ i=>exact h2 i x (by simpa using hx)
 | [],_::_,h=>h.elim
 | _::_,[],h=>h.elim
theorem VJ (k j:Nat) {e t:TypeId} {sz sz':Nat} {xs:List V} (ds':List D) (hsz:0<sz) (hk:lk st k=some (some (.immb t sz' xs))) (hcl:pA j (xs.map .imm) ds')
  (h:DGo P n F Q todo env ((k,some (.cells t sz' ds'))::(j,some (.row e sz []))::st) ids'):DGo P n F Q todo env st (j::ids'):=by
 refine Ds λI μ a w hc=>?_;obtain ⟨gk,hgk,_⟩:=hc.blk k _ hk;have hjk:j≠k:=λe=>by rw [<- e,hc.idsFree j (by simp)] at hgk;cases hgk
 obtain ⟨q1,q2,q3⟩:=StRep.relay (R:=[]) (new:=[(j,.slice none 0 0,.row e sz [])]) (ids':=ids') hc.toStRep
  (λp hp b hb=>by rw [List.mem_singleton.1 hp] at hb;exact hb.elim)
  (λp hp q hq b _ _=>by rw [List.mem_singleton.1 hp,List.mem_singleton.1 hq]) (Imm.le_refl I) hc.imm (λb o h=>.inl h)
  (λ_ p hp=>by rw [List.mem_singleton.1 hp];exact ⟨[],World.ownsRow_nil w 0 e sz,.nil,by simp,by simp,hsz⟩)
 have hmj:E7 [(j,Value.slice none 0 0,Blk.row e sz [])] μ j=some (.slice none 0 0):=by simp [E7,lk]
 have hk2:Aq ((j,some (.row e sz []))::st) k (.immb t sz' xs):=Av.2 (.inr ⟨hjk.symm,hk⟩);obtain ⟨c1,c2⟩:=UR hcl;obtain ⟨p1,p2⟩:=q2.retell (st1:=(k,some (.cells t sz' ds'))::(j,some (.row e sz []))::st) (λi bb hlb=>by
  rcases Av.1 hlb with ⟨rfl,rfl⟩ | ⟨_,h2⟩
  ·refine ⟨_,hk2,λgb hb=>?_⟩;obtain ⟨hs,b,us,e1,e2,e3,e4⟩:=hb;refine ⟨by rw [<- c1,List.length_map,hs],b,us,e1,e2,⟨by rw [<- c1,List.length_map,e3.1],λi v y hv hy=>?_⟩,e4⟩;obtain ⟨d,y1,y2⟩:=c2 i y hy;rw [List.getElem?_map] at y1;cases hx:xs[i]? with
   | none=>rw [hx] at y1;cases y1
   | some x =>
    rw [hx] at y1;have hr:=e3.2 i v x hv hx;have y1:D.imm x=d:=by simpa using y1
    rcases y2 with rfl | ⟨rfl,rfl⟩
    ·rw [<- y1];exact .imm _ _ hr
    ·cases y1;cases hr;exact .own j 0 none 0 hmj
  ·exact ⟨bb,h2,λ_ h=>h⟩)
 exact ⟨I,_,env,_,ids',p1,λt d hd=>(hc.env t d hd).mono (Imm.le_refl I) q1,q3.trans p2,.of_le q1,h⟩
end
end Go.Hk
namespace Go.Hk
section
variable {P:Program} {n:Nat} {F:List Nat} {Q:DQ} {tt:TT} {env env':Env} {st st':St} {ids ids':List Nat} {todo todo':List DI} {I:Imm} {μ:Mu}
theorem cE {I:Imm} {vs:List Value} {xs:List V} (h:RepVL I vs xs):RepVL I vs (Mp xs):=by
 refine ⟨by rw [h.1];simp [Hc],λi v x hv hx=>?_⟩;rw [Hc,List.getElem?_map] at hx;cases hz:xs[i]? with
 | none=>rw [hz] at hx;cases hx
 | some z=>rw [hz] at hx;cases hx;exact (h.2 i v z hv hz).unn
theorem gE (k:Nat) {t:TypeId} {sz:Nat} {xs:List V} (xs':List V) (hk:lk st k=some (some (.immb t sz xs))) (hcl:Mp xs=xs') (h:DGo P n F Q todo env ((k,some (.immb t sz xs'))::st) ids):DGo P n F Q todo env st ids:=by
 subst hcl;refine Ds λI μ a w hc=>?_;obtain ⟨p1,p2⟩:=hc.toStRep.retell (st1:=(k,some (.immb t sz (Mp xs)))::st) (λi bb hlb=>by
  rcases Av.1 hlb with ⟨rfl,rfl⟩ | ⟨_,h2⟩
  ·refine ⟨_,hk,λgb hb=>?_⟩;obtain ⟨hs,b,us,e1,e2,e3,e4⟩:=hb;exact ⟨by rw [<- hs];simp [Hc],b,us,e1,e2,cE e3,e4⟩
  ·exact ⟨bb,h2,λ_ h=>h⟩)
 exact ⟨I,μ,env,_,ids,p1,hc.env,p2,.refl _ _,h⟩
end
end Go.Hk
namespace Go.Hk
open Go.Proofs
def nD:Ty->List V
 | .mk f n x _=>[.int .i64 f,.int .i64 n,.str x,if f=0 then .sl [] else .nilsl]
def XI (l:List Ty):List (List V):=l.map nD
@[simp] theorem dHds_length (l:List Ty):(XI l).length=l.length:=by simp [XI]
@[simp] theorem dHd_length (h:Ty):(nD h).length=4:=by obtain ⟨a,b,c,d⟩:=h;rfl
theorem lS (a b:List Ty):XI (a++b)=XI a++XI b:=by simp [XI]
def Kj (c:Cd):Ty:=.mk 4 0 c.name []
mutual
def dMi:Mi->List V
 | .mk ty nt hd ks=>dTyc ty++[.sl (XI nt)]++nD hd++[.sl (VT ks)]
def VT:List Mi->List (List V)
 | []=>[]
 | k::r=>dMi k::VT r
end
theorem TJ:∀l:List Mi,VT l=l.map dMi
 | []=>rfl
 | k::r=>by simp [VT,TJ r]
@[simp] theorem dMis_length (l:List Mi):(VT l).length=l.length:=by rw [TJ];simp
@[simp] theorem dMi_length (m:Mi):(dMi m).length=10:=by obtain ⟨⟨a,b,c,d⟩,nt,⟨e,f,g,h⟩,ks⟩:=m;rfl
theorem lQ (a b:List Mi):VT (a++b)=VT a++VT b:=by simp [TJ]
def Pu (t:Ty):Bool:=decide (1<=AC t/\AC t<=8)
theorem Ps {b:Bool} {t:Ty} (h:BM b t=true) (h9:b=true->AC t≠9):Pu t=true:=by
 obtain ⟨s,n,x,ps⟩:=t;simp only [BM,CA,Bool.and_eq_true] at h;have key:=h.2.1;clear h;refine decide_eq_true ?_;simp only [AC] at *;unfold BQ at key
 split at key
 ·omega
 ·split at key
  ·omega
  ·split at key
   ·omega
   ·split at key
    ·omega
    ·split at key
     ·rename_i e;cases b with
      | false=>simp at key
      | true=>exact absurd e (h9 rfl)
     ·cases key
structure OkW (ds:List Dt):Prop where
 okd:OkD ds
 dif:Bm (BT ds)=true
 ndif:Bm (C0 ds)=true
 d4:ds.length<=4
 lim:∀d∈ds,d.cons.length<=5/\∀c∈d.cons,c.args.length<=3
 srt:∀d∈ds,∀c∈d.cons,∀t∈c.args,Pu t=true
theorem OkW.of {c:Cse} (h:Bl c=true):OkW c.datas:=by
 simp only [Bl,HC,Bool.and_eq_true] at h;obtain ⟨h1,h2,h3,h4⟩:=IY h.1.1.1.1;exact ⟨OkD.of2 h.1.1.1.1,h3,h2,(E8 h1).1,(E8 h1).2,λd hd k hk t ht=>by
  simp only [Hn,Bool.and_eq_true,List.all_eq_true] at h1;have hd:=h1.1.2 d hd;simp only [EK,Bool.and_eq_true,List.all_eq_true] at hd;have hk:=hd.2 k hk;simp only [J4,Bool.and_eq_true,List.all_eq_true] at hk;exact Ps (hk.2 t ht) (λh=>by cases h)⟩
theorem OkW.typ {c:Cse} (h:Bl c=true):Pu c.type=true:=by
 simp only [Bl,HC,Bool.and_eq_true] at h;have h1:=h.1.1.2;have h2:=h.2.1;refine Ps h1 λ_ e=>?_;obtain ⟨ds,⟨s,n,x,ps⟩,rows⟩:=c;simp only [AC] at e;subst e;simp [DM,Jo] at h2
theorem VZ {ds:List Dt} (ho:OkW ds) (t:Ty) (s:Str):(B4 ds t s).1.args.length<=3:=by
 by_cases h:0<=(B4 ds t s).2
 ·obtain ⟨d,h1,h2⟩:=QL h;exact (ho.lim d h1).2 _ h2
 ·have hz:∀(l:List Cd) (i:Nat),¬0<=(CP s i l).2->(CP s i l).1=kO:=by
   intro l
   induction l with
   | nil=>intro i _;rfl
   | cons c r ih =>
    intro i hh;simp only [CP] at hh ⊢
    split
    ·rename_i e;rw [if_pos e] at hh;exact absurd (by simp) hh
    ·rename_i e;rw [if_neg e] at hh;exact ih _ hh
  obtain ⟨so,n,x,ps⟩:=t;simp only [B4] at h ⊢
  split
  ·rename_i e;rw [if_pos e] at h
   split
   ·rename_i d hd;simp only [hd] at h;rw [hz _ _ h];simp [kO]
   ·simp [kO]
  ·simp [kO]
theorem Eu {ds:List Dt} (ho:OkW ds) (t:Ty) (s:Str):(AK ds t s).1.length<=3:=by
 have:=VZ ho t s;unfold AK;cases decide (0<=(B4 ds t s).2)
 ·simp
 ·simpa using this
theorem Qw {ds:List Dt} (ho:OkW ds) (t:Ty):(A3 ds t).length<=5:=by
 obtain ⟨so,n,x,ps⟩:=t;simp only [A3]
 split
 ·simp
 ·split
  ·simp
  ·split
   ·split
    ·rename_i d hd;simpa using (ho.lim d (List.mem_of_getElem? hd)).1
    ·simp
   ·simp
mutual
def Hb (ds:List Dt) (N:Nat):Mi->Bool
 | .mk ty nt hd ks=>(AB ds ty&&Pu ty)&&decide (ks.length<=3)&&decide (nt.length<=N)&&(Bn hd).isEmpty&&W3 ds N ks
def W3 (ds:List Dt) (N:Nat):List Mi->Bool
 | []=>true
 | k::r=>Hb ds N k&&W3 ds N r
end
theorem Ug (ds:List Dt) (N:Nat):∀l:List Mi,W3 ds N l=l.all (Hb ds N)
 | []=>rfl
 | k::r=>by simp [W3,Ug ds N r]
theorem Bi {ds:List Dt} {N:Nat} {m:Mi}:Hb ds N m=true↔(AB ds m.ty=true/\m.ks.length<=3/\m.nt.length<=N)/\(Bn m.hd=[]/\Pu m.ty=true)/\∀k∈m.ks,Hb ds N k=true:=by
 obtain ⟨ty,nt,hd,ks⟩:=m;simp only [Hb,Bool.and_eq_true,decide_eq_true_eq,Ug,List.all_eq_true,Mi.ty,Mi.ks,Mi.nt,Mi.hd,List.isEmpty_iff];constructor
 ·rintro ⟨⟨⟨⟨⟨a,s⟩,b⟩,c⟩,e⟩,d⟩;exact ⟨⟨a,b,c⟩,⟨e,s⟩,d⟩
 ·rintro ⟨⟨a,b,c⟩,⟨e,s⟩,d⟩;exact ⟨⟨⟨⟨⟨a,s⟩,b⟩,c⟩,e⟩,d⟩
theorem GU {ds:List Dt} (ho:OkW ds) {t:Ty} {s:Str}:∀a∈(AK ds t s).1,Pu a=true:=by
 intro a ha;unfold AK at ha;by_cases h:0<=(B4 ds t s).2
 ·obtain ⟨d,h1,h2⟩:=QL h;simp only [h,decide_true,if_true] at ha;exact ho.srt d h1 _ h2 a (by simpa using ha)
 ·simp [h] at ha
theorem Uf {ds:List Dt} {N:Nat} {t:Ty} (h:AB ds t=true) (hs:Pu t=true):Hb ds N (An t)=true:=Bi.2 ⟨⟨h,by simp [An,Mi.ks],by simp [An,Mi.nt]⟩,⟨rfl,hs⟩,λk hk=>by simp [An,Mi.ks] at hk⟩
theorem KZ {ds:List Dt} (ho:OkW ds) {N:Nat} {m:Mi} {h:Ty} (hm:AB ds m.ty=true) (hs:Pu m.ty=true) (hp:Bn h=[]):Hb ds N (AZ ds m h)=true:=by
 have ha:=BK ho.okd (t:=m.ty) (s:=Cq h);refine Bi.2 ⟨⟨hm,by simpa [AZ,Mi.ks] using Eu ho m.ty (Cq h),by simp [AZ,Mi.nt]⟩,⟨hp,hs⟩,λk hk=>?_⟩;simp only [AZ,Mi.ks,List.mem_map] at hk;obtain ⟨t,ht,rfl⟩:=hk;rw [C4,List.all_eq_true] at ha;exact Uf (ha t ht) (GU ho t ht)
theorem Bw {ds:List Dt} {t h:Ty} (hh:h∈A3 ds t):Bn h=[]/\AC h≠0:=by
 obtain ⟨so,n,x,ps⟩:=t;simp only [A3] at hh
 split at hh
 ·rcases List.mem_cons.1 hh with rfl | hh
  ·exact ⟨rfl,by simp [AC]⟩
  ·rw [List.mem_singleton.1 hh];exact ⟨rfl,by simp [AC]⟩
 ·split at hh
  ·rw [List.mem_singleton.1 hh];exact ⟨rfl,by simp [AC]⟩
  ·split at hh
   ·split at hh
    ·obtain ⟨c,_,rfl⟩:=List.mem_map.1 hh;exact ⟨rfl,by simp [AC]⟩
    ·cases hh
   ·cases hh
theorem D3 {ds:List Dt} {m:Mi} {h:Ty} (hh:Ht ds m=[h]):h∈A3 ds m.ty/\BH m.nt h=false:=by
 have:h∈Ht ds m:=by rw [hh];simp
 simp only [Ht,List.mem_filter] at this;simpa using this
theorem Dh {ds:List Dt} (ho:OkW ds) {N:Nat} {m:Mi} (hm:Hb ds N m=true):Hb ds N (Af ds m)=true:=by
 unfold Af
 split
 ·exact hm
 ·split
  ·rename_i h hh;exact KZ ho (Bi.1 hm).1.1 (Bi.1 hm).2.1.2 (Bw (D3 hh).1).1
  ·exact hm
theorem Dz (ds:List Dt) (m:Mi):(Af ds m).ty=m.ty:=by
 unfold Af
 split
 ·rfl
 ·split <;> rfl
theorem lU {ds:List Dt} {N:Nat} {m k:Mi} {i:Nat} (hm:Hb ds N m=true) (hk:m.ks[i]?=some k):Hb ds N k=true:=(Bi.1 hm).2.2 k (List.mem_of_getElem? hk)
def Jc (ds:List Dt):Mi->List Int->Prop
 | _,[]=>True
 | m,i::p=>0<=i/\∃k,(Af ds m).ks[i.toNat]?=some k/\Jc ds k p
mutual
def jR (ds:List Dt):Ty->Mi->Bool
 | .mk f n x ps,m=>decide (f=1)||decide (f=2)||decide (AC (Af ds m).hd=0) || !A6 (Af ds m).hd (AO (.mk f n x ps))||(decide (ps.length<=(Af ds m).ks.length)&&SF ds ps (Af ds m).ks)
def SF (ds:List Dt):List Ty->List Mi->Bool
 | [],_=>true
 | _::_,[]=>true
 | p::r,k::s=>jR ds p k&&SF ds r s
end
mutual
theorem Qa (ds:List Dt):∀(p:Ty) (m:Mi),(Aw ds p m).2.1.length<=Ai p
 | .mk f n x ps,m=>by
  simp only [Aw,Ai];have:=Ss ds ps (Af ds m).ks 0
  split
  ·simp
  ·split
   ·simp
   ·split
    ·simp
    ·omega
theorem Ss (ds:List Dt):∀(ps:List Ty) (ks:List Mi) (i:Int),(AY ds i ps ks).2.1.length<=1+Ah ps
 | [],_,_=>by simp [AY]
 | _::_,[],_=>by simp [AY]
 | p::r,k::ks,i=>by
  have h1:=Qa ds p k;have h2:=Ss ds r ks (i+1);have h3:1<=Ai p:=by obtain ⟨a,b,c,d⟩:=p;simp only [Ai];omega
  simp only [AY,Ah]
  split
  ·omega
  ·simp only [List.length_cons];omega
end
theorem Xa {ds:List Dt} {ps:List Ty} {ks:List Mi} {i:Nat} {p:Ty} {k:Mi} (hp:ps[i]?=some p) (hk:ks[i]?=some k) :
  AY ds i (ps.drop i) (ks.drop i)=if (Aw ds p k).1=1 then AY ds ((i+1:Nat):Int) (ps.drop (i+1)) (ks.drop (i+1)) else ((Aw ds p k).1,(i:Int)::(Aw ds p k).2.1,(Aw ds p k).2.2):=by
 rw [Ao hp,Ao hk];rfl
theorem eE:∀(n:Nat) (l:List Int),(∀i:Nat,i<n->(i:Int)∈l)->n<=l.length
 | 0,_,_=>Nat.zero_le _
 | n+1,l,h=>by
  have hm:=h n (by omega);have h1:=eE n (l.erase (n:Int)) λi hi=>(List.mem_erase_of_ne (by omega)).2 (h i (by omega));have h2:=List.length_erase_of_mem hm;have h3:=List.length_pos_of_mem hm;omega
def nT:Ty->Int
 | .mk _ n _ _=>n
theorem jN {nt:List Ty} {i:Int} (h:BH nt (.mk 1 i [] [])=true):i∈nt.map nT:=by
 simp only [BH,List.any_eq_true] at h;obtain ⟨⟨a,b,c,d⟩,h1,h2⟩:=h;simp only [A6,Bool.and_eq_true,beq_iff_eq] at h2;exact List.mem_map.2 ⟨_,h1,by simp only [nT];exact h2.1.2⟩
theorem KC {nt:List Ty} {i:Nat} (h:∀j:Nat,j<i->BH nt (.mk 1 j [] [])=true):i<=nt.length:=by
 have:=eE i (nt.map nT) λj hj=>jN (h j hj);simpa using this
theorem So {nt:List Ty} {i:Nat} (hi:i<=nt.length) (h:∀j:Nat,j<i->BH nt (.mk 1 j [] [])=true):Jf nt (nt.length-i) i =
  if BH nt (.mk 1 i [] [])=false then .mk 1 i [] [] else if BH nt (.mk 1 (0-i) [] [])=false then .mk 1 (0-i) [] [] else Jf nt (nt.length-(i+1)) ((i+1:Nat):Int):=by
 by_cases hl:i=nt.length
 ·subst hl;have hf:BH nt (.mk 1 nt.length [] [])=false:=by
   cases hb:BH nt (.mk 1 nt.length [] []) with
   | false=>rfl
   | true =>
    have:=KC (nt:=nt) (i:=nt.length+1) λj hj=>by
     by_cases e:j=nt.length
     ·rw [e];exact hb
     ·exact h j (by omega)
    omega
  rw [Nat.sub_self,if_pos hf];rfl
 ·obtain ⟨k,hk⟩:∃k,nt.length-i=k+1:=⟨nt.length-i-1,by omega⟩
  rw [hk,show nt.length-(i+1)=k by omega];rfl
def kS:Option Ty->List V
 | none=>.bool false::dTyc zT
 | some v=>.bool true::dTyc v
@[simp] theorem someR_length (r:Option Ty):(kS r).length=5:=by cases r <;> simp [kS]
theorem YN {s:Str}:∀{l:List Cd} {i k:Nat} {c:Cd},l[k]?=some c->c.name=s->(∀j d,j<k->l[j]?=some d->d.name≠s)->CP s i l=(c,((i+k:Nat):Int))
 | [],_,k,c,h,_,_=>by simp at h
 | d::r,i,0,c,h,hs,_=>by
  simp at h;subst h;simp [CP,hs]
 | d::r,i,k+1,c,h,hs,hn=>by
  have:=hn 0 d (by omega) rfl;rw [CP,if_neg this,YN (k:=k) (by simpa using h) hs λj d' hj hd=>hn (j+1) d' (by omega) (by simpa using hd)];congr 2;omega
theorem XJ {ds:List Dt} (h:Bm (BT ds)=true) {d:Dt} (hd:d∈ds):(d.cons.map Cd.name).Nodup:=by
 have hn:=Od.1 h;obtain ⟨a,b,rfl⟩:=List.append_of_mem hd;simp only [BT,List.flatMap_append,List.flatMap_cons] at hn;exact (List.nodup_append.1 (List.nodup_append.1 hn).2.1).1
theorem TN {ds:List Dt} (ho:OkW ds) {n:Int} {x:Str} {ps:List Ty} {d:Dt} (hd:ds[(AR x 0 ds).toNat]?=some d) {k:Nat} {c:Cd} (hc:d.cons[k]?=some c):B4 ds (.mk 8 n x ps) c.name=(c,(k:Int)):=by
 have hn:=XJ ho.dif (List.mem_of_getElem? hd);simp only [B4,if_true,hd];rw [YN hc rfl λj e hj he h=>?_]
 ·simp
 ·have hlt:=(List.getElem?_eq_some_iff.1 hc).1;have h1:(d.cons.map Cd.name)[j]?=some c.name:=by simp [he,h]
  have h2:(d.cons.map Cd.name)[k]?=some c.name:=by simp [hc]
  have:=(List.getElem?_inj (by simpa using by omega) hn).1 (h1.trans h2.symm);omega
theorem Wp {ds:List Dt} (ho:OkW ds) {n:Int} {x:Str} {ps:List Ty} {d:Dt} (hd:ds[(AR x 0 ds).toNat]?=some d) {k:Nat} {c:Cd} (hc:d.cons[k]?=some c):AK ds (.mk 8 n x ps) c.name=(c.args,true):=by
 simp [AK,TN ho hd hc]
theorem Vr {ds:List Dt} (ho:OkW ds):∀(f:Nat) (s:List Int),Id ds s->Id ds (LB ds f s)
 | 0,s,h=>h
 | f+1,s,h=>by
  have:=(Mt ho.d4 (l:=ds) (p:=(s,false)) (i:=0) (by simp) (λd hd=>(ho.lim d hd).2) h).1;simp only [LB];cases (CT ds (s,false) 0 ds).2
  ·exact this
  ·exact Vr ho f _ this
theorem Ms {ds:List Dt} (ho:OkW ds):Id ds (D7 ds):=Vr ho _ _ (Mr ds)
theorem NO {g:Mi->Option (Option Ty)} {k:Mi} {r:List Mi} {o:Option (List Ty)} (h:Bg g (k::r)=some o):∃v,g k=some v/\(match v with
  | none=>o=none
  | some x=>∃q,Bg g r=some q/\o=q.map (x :: ·)):=by
 simp only [Bg] at h;cases hk:g k with
 | none=>simp [hk] at h
 | some v =>
  cases v with
  | none=>simp only [hk] at h;exact ⟨none,rfl,(Option.some.inj h).symm⟩
  | some x =>
   simp only [hk] at h;cases hr:Bg g r with
   | none=>simp [hr] at h
   | some q =>
    cases q with
    | none=>simp only [hr] at h;exact ⟨some x,rfl,none,rfl,(Option.some.inj h).symm⟩
    | some l=>simp only [hr] at h;exact ⟨some x,rfl,some l,rfl,(Option.some.inj h).symm⟩
theorem T9 {ds:List Dt} {f:Nat} {m:Mi} {r:Option Ty} (h:AD ds (f+1) m=some r) (hf:AC m.hd≠0):∃o,Bg (AD ds f) m.ks=some o/\r=o.map (Cv m.hd):=by
 simp only [AD,if_neg hf] at h;cases hl:Bg (AD ds f) m.ks with
 | none=>simp [hl] at h
 | some o=>simp only [hl,Option.map_some] at h;exact ⟨o,rfl,(Option.some.inj h).symm⟩
theorem Fv {ds:List Dt} {t:Ty} {s:Str} (h:AC t≠8):AK ds t s=([],false):=by
 obtain ⟨so,n,x,ps⟩:=t;simp only [AC] at h;simp [AK,B4,h]
theorem fE {c:Prop} [Decidable c] {α:Type} {a p:α} {b:Option α} (h:(if c then some a else b)=some p):a=p\/b=some p:=by
 by_cases hc:c
 ·rw [if_pos hc] at h;exact .inl (Option.some.inj h)
 ·rw [if_neg hc] at h;exact .inr h
theorem Sd {ds:List Dt} {m:Mi}:∀{l:List Ty} {b:Option (Ty×Int)} {p:Ty×Int},Dm ds m b l=some p->p.1∈l\/b=some p
 | [],b,p,h=>.inr h
 | x::r,b,p,h=>by
  simp only [Dm] at h;rcases Sd h with h | h
  ·exact .inl (by simp [h])
  ·rcases fE h with h | h
   ·subst h;exact .inl (by simp)
   ·exact .inr h
theorem G7 {ds:List Dt} {m:Mi} {y:Ty} (h:AA ds m=some y):y∈A3 ds m.ty:=by
 simp only [AA,Option.map_eq_some_iff] at h;obtain ⟨p,hp,rfl⟩:=h;rcases Sd hp with h | h
 ·exact h
 ·cases h
theorem FA {ds:List Dt} (hn:Bm (BT ds)=true) {n:Int} {x s:Str} {ps:List Ty} (hp:0<=AR x 0 ds) (hc:0<=(B4 ds (.mk 8 n x ps) s).2):(Cx ds s).2=(B4 ds (.mk 8 n x ps) s).2:=by
 have hf:=VA hn (n:=n) (s:=s) (ps:=ps) hp;unfold Cx;cases hfs:FH s 0 ds with
 | none=>rw [hfs] at hf;simp only at hf;omega
 | some p =>
  obtain ⟨a,b⟩:=p;rw [hfs] at hf;obtain ⟨hf1,hf2,hf3⟩:=hf;have ha:(a:Int)=AR x 0 ds:=by simpa [hc] using hf1
  obtain ⟨k,d,e1,e2,e3,e4⟩:=KK hfs;have:a=k:=by omega
  subst this;simp only [B4,if_true];rw [show (AR x 0 ds).toNat=a by omega,e2];simp only [e3]
mutual
def ET:Ty->Bool
 | .mk _ n _ ps=>decide (-1000000000000<=n/\n<=1000000000000)&&GG ps
def GG:List Ty->Bool
 | []=>true
 | p::r=>ET p&&GG r
end
theorem Qo:∀l:List Ty,GG l=l.all ET
 | []=>rfl
 | p::r=>by simp [GG,Qo r]
theorem PL {ds:List Dt}:∀{l m:List Ty} {i:Nat} {a p:Ty},GW ds l m=true->l[i]?=some a->m[i]?=some p->Ki ds a p=true
 | [],_,i,a,p,_,ha,_=>by simp at ha
 | _::_,[],i,a,p,_,_,hp=>by simp at hp
 | x::l,y::m,0,a,p,h,ha,hp=>by simp only [GW,Bool.and_eq_true] at h;simp at ha hp;subst ha;subst hp;exact h.1
 | x::l,y::m,i+1,a,p,h,ha,hp=>by simp only [GW,Bool.and_eq_true] at h;exact PL h.2 (by simpa using ha) (by simpa using hp)
theorem OT {s:Str}:∀(l:List Cd) (i:Nat),(CP s i l).2<i+l.length/\(0<=(CP s i l).2->∃k,l[k]?=some (CP s i l).1/\(CP s i l).2=((i+k:Nat):Int))
 | [],i=>by simp [CP];omega
 | c::r,i=>by
  simp only [CP]
  split
  ·exact ⟨by simp only [List.length_cons];omega,λ_=>⟨0,rfl,rfl⟩⟩
  ·obtain ⟨h1,h2⟩:=OT (s:=s) r (i+1);exact ⟨by simp only [List.length_cons];omega,λh=>let ⟨k,h3,h4⟩:=h2 h;⟨k+1,by simpa using h3,by rw [h4];congr 1;omega⟩⟩
theorem YM {ds:List Dt} (ho:OkW ds) (t:Ty) (s:Str):(B4 ds t s).2<=5:=by
 obtain ⟨so,n,x,ps⟩:=t;simp only [B4]
 split
 ·split
  ·rename_i d hd;have:=(OT (s:=s) d.cons 0).1;have:=(ho.lim d (List.mem_of_getElem? hd)).1;omega
  ·simp
 ·simp
theorem Na {ds:List Dt} {t:Ty} {s s':Str} (h:0<=(B4 ds t s).2) (e:(B4 ds t s).2=(B4 ds t s').2):(B4 ds t s).1=(B4 ds t s').1:=by
 obtain ⟨so,n,x,ps⟩:=t;by_cases h8:so=8
 ·simp only [B4,if_pos h8] at h e ⊢;cases hd:ds[(AR x 0 ds).toNat]? with
  | none=>simp
  | some d =>
   simp only [hd] at h e ⊢;obtain ⟨k,k1,k2⟩:=(OT (s:=s) d.cons 0).2 h;obtain ⟨j,j1,j2⟩:=(OT (s:=s') d.cons 0).2 (by omega);have:k=j:=by omega
   subst this;rw [k1] at j1;exact Option.some.inj j1
 ·simp only [B4,if_neg h8]
theorem UL {ds:List Dt} {l m:List Ty} {i:Nat} {p q:Ty} (hp:l[i]?=some p) (hq:m[i]?=some q):Cc ds (l.drop i) (m.drop i)=if BS ds p q≠0 then BS ds p q else Cc ds (l.drop (i+1)) (m.drop (i+1)):=by
 rw [Ao hp,Ao hq];rfl
theorem Qn {l:List Ty} {i:Nat} {p:Ty} (h:GG l=true) (hp:l[i]?=some p):ET p=true:=by
 rw [Qo,List.all_eq_true] at h;exact h p (List.mem_of_getElem? hp)
def Yu (c:Cse) (v:Ty):Prop:=Ki c.datas c.type v=true/\ET v=true/\Ai v<=1000000000000000
def loS (ds:List Dt) (s s':List Int):Prop:=∀t,EN ds s t≠0->0<EN ds s' t/\EN ds s' t<=EN ds s t
theorem JE {ds:List Dt} {s s':List Int} (h:loS ds s s') (hz:∀t,0<=EN ds s t):∀(l:List Ty) (n n':Int),0<n'->n'<=n->0<AN ds s n l->0<AN ds s' n' l/\AN ds s' n' l<=AN ds s n l
 | [],n,n',h1,h2,_=>by simp only [AN];omega
 | t::r,n,n',h1,h2,h3=>by
  simp only [AN] at h3 ⊢;by_cases e:EN ds s t=0
  ·rw [if_pos e] at h3;omega
  ·rw [if_neg e] at h3 ⊢;obtain ⟨a1,a2⟩:=h t e;rw [if_neg (by omega)];have:=hz t;exact JE h hz r _ _ (by omega) (by omega) h3
theorem N9 {ds:List Dt} {s:List Int}:∀{l:List Ty} {n:Int} {t:Ty},t∈l->EN ds s t=0->AN ds s n l=0
 | x::r,n,t,ht,h=>by
  simp only [AN];rcases List.mem_cons.1 ht with rfl | ht
  ·rw [if_pos h]
  ·by_cases e:EN ds s x=0
   ·rw [if_pos e]
   ·rw [if_neg e];exact N9 ht h
def R4 (ds:List Dt) (s:List Int):Prop:=∀i d,ds[i]?=some d->0<s.getD i 0->∃c∈d.cons,0<AN ds s 1 c.args/\AN ds s 1 c.args<=s.getD i 0
theorem NW {s:List Int} {i:Nat} {n:Int} (h:i<s.length):(s.set i n).getD i 0=n:=by simp [List.getD,h]
theorem NV {s:List Int} {i j:Nat} {n:Int} (h:i≠j):(s.set i n).getD j 0=s.getD j 0:=by simp [List.getD,List.getElem?_set_ne h]
theorem cT {ds:List Dt} {i:Nat} {d:Dt} {c:Cd} (hd:ds[i]?=some d) (hc:c∈d.cons) {p:List Int×Bool} (hs:Id ds p.1) (ha:R4 ds p.1):R4 ds (HL ds i p c.args).1:=by
 simp only [HL]
 split
 ·rename_i h;obtain ⟨h1,h2⟩:=h;have hl:i<p.1.length:=by rw [hs.len];exact (List.getElem?_eq_some_iff.1 hd).1
  generalize hn:AN ds p.1 1 c.args=n at *;have hz:∀t,0<=EN ds p.1 t:=λt=>(Ip hs t).1;have hlo:loS ds p.1 (p.1.set i n):=by
   intro t ht;obtain ⟨so,m,x,ps⟩:=t;have h0:=hz (.mk so m x ps);simp only [EN] at ht h0 ⊢;by_cases h8:so=8
   ·simp only [if_pos h8] at ht h0 ⊢;by_cases e:i=(Kk ds x).toNat
    ·rw [<- e] at ht h0 ⊢;rw [NW hl];omega
    ·rw [NV e];omega
   ·simp only [if_neg h8] at ht h0 ⊢;omega
  show R4 ds (p.1.set i n);intro j e hj hpos;by_cases hij:i=j
  ·subst hij;rw [NW hl] at hpos ⊢;rw [hd] at hj;cases hj;exact ⟨c,hc,(JE hlo hz c.args 1 1 (by omega) (by omega) (by omega)).1,by have:=(JE hlo hz c.args 1 1 (by omega) (by omega) (by omega)).2;omega⟩
  ·rw [NV hij] at hpos ⊢;obtain ⟨c',k1,k2,k3⟩:=ha j e hj hpos;obtain ⟨q1,q2⟩:=JE hlo hz c'.args 1 1 (by omega) (by omega) k2;exact ⟨c',k1,q1,by omega⟩
 ·exact ha
theorem YL {ds:List Dt} (h4:ds.length<=4) {i:Nat} {d:Dt} (hd:ds[i]?=some d):∀{l:List Cd} {p:List Int×Bool},(∀c∈l,c∈d.cons/\c.args.length<=3)->Id ds p.1->R4 ds p.1->R4 ds (J3 ds i p l).1
 | [],p,_,_,ha=>ha
 | c::r,p,hl,hs,ha=>by
  have hi:=(List.getElem?_eq_some_iff.1 hd).1;simp only [J3];exact YL h4 hd (λx hx=>hl x (by simp [hx])) (Pr h4 hi (hl c (by simp)).2 hs).1 (cT hd (hl c (by simp)).1 hs ha)
theorem RK {ds:List Dt} (h4:ds.length<=4) (h3:∀d∈ds,∀c∈d.cons,c.args.length<=3):∀{l:List Dt} {p:List Int×Bool} {i:Nat},l=ds.drop i->Id ds p.1->R4 ds p.1->R4 ds (CT ds p i l).1
 | [],p,i,_,_,ha=>ha
 | d::r,p,i,hl,hs,ha=>by
  have hd:ds[i]?=some d:=by
   have:=congrArg (·[0]?) hl;simpa using this.symm
  have hr:r=ds.drop (i+1):=by
   have:=congrArg List.tail hl;simpa using this
  have hi:=(List.getElem?_eq_some_iff.1 hd).1;have hdm:=List.mem_of_getElem? hd;simp only [CT];exact RK h4 h3 hr (TM h4 hi (h3 d hdm) hs).1 (YL h4 hd (λc hc=>⟨hc,h3 d hdm c hc⟩) hs ha)
def oR (ds:List Dt) (s:List Int):Prop:=∀i d,ds[i]?=some d->∀c∈d.cons,0<AN ds s 1 c.args->s.getD i 0≠0/\s.getD i 0<=AN ds s 1 c.args
theorem VY {ds:List Dt} {i:Nat}:∀{l:List Cd} {p:List Int×Bool},(J3 ds i p l).2=false->p.2=false/\(J3 ds i p l)=p/\∀c∈l,¬(0<AN ds p.1 1 c.args/\(p.1.getD i 0=0\/AN ds p.1 1 c.args<p.1.getD i 0))
 | [],p,h=>⟨h,rfl,λc hc=>by cases hc⟩
 | c::r,p,h=>by
  simp only [J3] at h ⊢;obtain ⟨h1,h2,h3⟩:=VY h;by_cases hc:0<AN ds p.1 1 c.args/\(p.1.getD i 0=0\/AN ds p.1 1 c.args<p.1.getD i 0)
  ·simp only [HL,if_pos hc] at h1;cases h1
  ·have e:HL ds i p c.args=p:=by simp only [HL,if_neg hc]
   rw [e] at h1 h2 h3 ⊢;exact ⟨h1,h2,λx hx=>by rcases List.mem_cons.1 hx with rfl | hx;exact hc;exact h3 x hx⟩
theorem Pp {ds:List Dt}:∀{l:List Dt} {p:List Int×Bool} {i:Nat},(CT ds p i l).2=false->p.2=false/\CT ds p i l=p/\∀k d,l[k]?=some d->∀c∈d.cons,¬(0<AN ds p.1 1 c.args/\(p.1.getD (i+k) 0=0\/AN ds p.1 1 c.args<p.1.getD (i+k) 0))
 | [],p,i,h=>⟨h,rfl,λk d hd=>by simp at hd⟩
 | d::r,p,i,h=>by
  simp only [CT] at h ⊢;obtain ⟨h1,h2,h3⟩:=Pp h;obtain ⟨k1,k2,k3⟩:=VY h1;rw [k2] at h1 h2 h3 ⊢;refine ⟨k1,h2,λk e he=>?_⟩;cases k with
  | zero=>simp at he;subst he;simpa using k3
  | succ k=>have:=h3 k e (by simpa using he);rw [show i+(k+1)=i+1+k by omega];exact this
theorem Vq {ds:List Dt} (ho:OkW ds):∀(f:Nat) (s:List Int),Id ds s->R4 ds s->Lz s<f->R4 ds (LB ds f s)/\oR ds (LB ds f s)
 | 0,s,_,_,h=>by omega
 | f+1,s,hs,ha,h=>by
  have h3:∀d∈ds,∀c∈d.cons,c.args.length<=3:=λd hd=>(ho.lim d hd).2;obtain ⟨b1,b2,b3⟩:=Mt ho.d4 (l:=ds) (p:=(s,false)) (i:=0) (by simp) h3 hs;have b4:=RK ho.d4 h3 (l:=ds) (p:=(s,false)) (i:=0) rfl hs ha;simp only [LB];cases hb:(CT ds (s,false) 0 ds).2 with
  | true =>
   rcases b3 hb with h' | h'
   ·cases h'
   ·simp only [cond_true];exact Vq ho f _ b1 b4 (by simp only at h';omega)
  | false =>
   simp only [cond_false];refine ⟨b4,?_⟩;obtain ⟨_,e,h5⟩:=Pp hb;rw [e];intro i d hd c hc hp;have:=h5 i d hd c hc;simp only [Nat.zero_add] at this;have hz:0<=s.getD i 0:=by
    rcases LI (s:=s) (i:=i) with hm | hm
    ·exact (hs.le _ hm).1
    ·omega
   constructor
   ·intro e;exact this ⟨hp,.inl e⟩
   ·apply Int.not_lt.1;intro e;exact this ⟨hp,.inr e⟩
theorem iQ {ds:List Dt} (ho:OkW ds):R4 ds (D7 ds)/\oR ds (D7 ds):=by
 refine Vq ho _ _ (Mr ds) (λi d hd h=>?_) ?_
 ·have:(List.replicate ds.length (0:Int)).getD i 0=0:=by
   rcases LI (s:=List.replicate ds.length (0:Int)) (i:=i) with hm | hm
   ·exact List.eq_of_mem_replicate hm
   ·exact hm
  omega
 ·have:=WW (List.replicate ds.length 0) (λx hx=>by rw [List.eq_of_mem_replicate hx];omega);have:=ho.d4;simp at *;omega
def MC (ds:List Dt) (t h:Ty):Prop:=h∈A3 ds t\/(AC t=1/\∃n,h = .mk 1 n [] [] /\ -1000000000<=n/\n<=1000000000)
mutual
def DF (ds:List Dt):Mi->Prop
 | .mk ty _ hd ks=>(AC hd=0->ks=[])/\(AC hd≠0->MC ds ty hd/\ks.map Mi.ty=(AK ds ty (Cq hd)).1)/\Wb ds ks
def Wb (ds:List Dt):List Mi->Prop
 | []=>True
 | k::r=>DF ds k/\Wb ds r
end
theorem SX (ds:List Dt):∀l:List Mi,Wb ds l↔∀k∈l,DF ds k
 | []=>by simp [Wb]
 | k::r=>by simp [Wb,SX ds r]
theorem B6 {ds:List Dt} {m:Mi}:DF ds m↔(AC m.hd=0->m.ks=[])/\(AC m.hd≠0->MC ds m.ty m.hd/\m.ks.map Mi.ty=(AK ds m.ty (Cq m.hd)).1)/\∀k∈m.ks,DF ds k:=by
 obtain ⟨ty,nt,hd,ks⟩:=m;simp only [DF,SX,Mi.ty,Mi.hd,Mi.ks]
mutual
def GY:Mi->Nat
 | .mk _ _ _ ks=>FT ks+1
def FT:List Mi->Nat
 | []=>0
 | k::r=>max (GY k) (FT r)
end
theorem Qu {l:List Mi} {n:Nat}:FT l<=n↔∀k∈l,GY k<=n:=by
 induction l with
 | nil=>simp [FT]
 | cons k r ih=>simp only [FT,List.mem_cons,forall_eq_or_imp,<- ih];omega
theorem Gc (m:Mi):GY m=FT m.ks+1:=by obtain ⟨a,b,c,d⟩:=m;rfl
theorem LF {m k:Mi} (h:k∈m.ks):GY k+1<=GY m:=by
 rw [Gc m];have:=(Qu (l:=m.ks) (n:=FT m.ks)).1 (Nat.le_refl _) k h;omega
theorem SW (ds:List Dt) (t:Ty):DF ds (An t):=B6.2 ⟨λ_=>rfl,λh=>absurd rfl h,λk hk=>by simp [An,Mi.ks] at hk⟩
theorem fS (l:List Ty):(l.map An).map Mi.ty=l:=by
 rw [List.map_map]
 conv=>rhs;rw [<- List.map_id l]
 exact List.map_congr_left λt _=>rfl
theorem OF {ds:List Dt} {t h:Ty} (hh:MC ds t h):AC h≠0/\Bn h=[]:=by
 rcases hh with hh | ⟨_,n,rfl,_⟩
 ·exact ⟨(Bw hh).2,(Bw hh).1⟩
 ·exact ⟨by simp [AC],rfl⟩
theorem Nc {ds:List Dt} {m:Mi} {h:Ty} (hh:MC ds m.ty h):DF ds (AZ ds m h):=by
 refine B6.2 ⟨λe=>absurd e (OF hh).1,λ_=>⟨hh,fS _⟩,λk hk=>?_⟩;simp only [AZ,Mi.ks,List.mem_map] at hk;obtain ⟨t,_,rfl⟩:=hk;exact SW ds t
theorem Df {ds:List Dt} {m:Mi} (h:DF ds m):DF ds (Af ds m):=by
 unfold Af
 split
 ·exact h
 ·split
  ·rename_i x hx;exact Nc (.inl (D3 hx).1)
  ·exact h
theorem S9 (ds:List Dt) (m:Mi) (h:Ty):GY (AZ ds m h)<=2:=by
 rw [Gc];have:FT (AZ ds m h).ks<=1:=Qu.2 λk hk=>by
  simp only [AZ,Mi.ks,List.mem_map] at hk;obtain ⟨t,_,rfl⟩:=hk;simp [An,GY,FT]
 omega
theorem NT (ds:List Dt) (m:Mi):GY (Af ds m)<=max (GY m) 2:=by
 unfold Af
 split
 ·omega
 ·split
  ·rename_i x hx;have:=S9 ds m x;omega
  ·omega
theorem JG {ds:List Dt} {m:Mi}:∀{l:List Ty} {b:Option (Ty×Int)},Dm ds m b l=none->b=none/\∀h∈l,¬(0<AQ ds m h/\BH m.nt h=false)
 | [],b,h=>⟨h,λx hx=>by cases hx⟩
 | x::r,b,h=>by
  simp only [Dm] at h;obtain ⟨h1,h2⟩:=JG h;by_cases hc:0<AQ ds m x/\BH m.nt x=false/\F8 b (AQ ds m x)=true
  ·rw [if_pos hc] at h1;cases h1
  ·rw [if_neg hc] at h1;subst h1;refine ⟨rfl,λy hy=>?_⟩;rcases List.mem_cons.1 hy with rfl | hy
   ·intro h';exact hc ⟨h'.1,h'.2,rfl⟩
   ·exact h2 y hy
theorem Ek {ds:List Dt} {m:Mi}:∀{l:List Ty} {b:Option (Ty×Int)} {p:Ty×Int},Dm ds m b l=some p ->
  (b=some p\/(p.1∈l/\p.2=AQ ds m p.1/\0<p.2/\BH m.nt p.1=false))/\(∀b',b=some b'->p.2<=b'.2)/\(∀h∈l,0<AQ ds m h->BH m.nt h=false->p.2<=AQ ds m h)
 | [],b,p,h=>by
  simp only [Dm] at h;subst h;exact ⟨.inl rfl,λb' hb=>by cases hb;exact Int.le_refl _,λx hx=>by cases hx⟩
 | x::r,b,p,h=>by
  simp only [Dm] at h;obtain ⟨h1,h2,h3⟩:=Ek h;by_cases hc:0<AQ ds m x/\BH m.nt x=false/\F8 b (AQ ds m x)=true
  ·rw [if_pos hc] at h1 h2;have h2x:p.2<=AQ ds m x:=h2 _ rfl;refine ⟨?_,λb' hb=>?_,λy hy h0 hn=>?_⟩
   ·rcases h1 with h1 | h1
    ·cases h1;exact .inr ⟨by simp,rfl,hc.1,hc.2.1⟩
    ·exact .inr ⟨by simp [h1.1],h1.2⟩
   ·subst hb;have:=of_decide_eq_true hc.2.2;omega
   ·rcases List.mem_cons.1 hy with rfl | hy
    ·exact h2x
    ·exact h3 y hy h0 hn
  ·rw [if_neg hc] at h1 h2;refine ⟨?_,h2,λy hy h0 hn=>?_⟩
   ·rcases h1 with h1 | h1
    ·exact .inl h1
    ·exact .inr ⟨by simp [h1.1],h1.2⟩
   ·rcases List.mem_cons.1 hy with rfl | hy
    ·cases b with
     | none=>exact absurd ⟨h0,hn,rfl⟩ hc
     | some b' =>
      have:=h2 b' rfl;have hd:¬(AQ ds m y<b'.2):=λhl=>hc ⟨h0,hn,decide_eq_true hl⟩;omega
    ·exact h3 y hy h0 hn
theorem Fq {ds:List Dt} (ho:OkW ds) {t h:Ty} (hn:AB ds t=true) (hh:h∈A3 ds t) :
  (AC t=8/\AC h=4/\(AK ds t (Cq h)).2=true)\/(AC t=2/\∃n,h = .mk 2 n [] []/\(n=0\/n=1))\/(AC t=3/\h = .mk 3 0 [] []):=by
 obtain ⟨so,n,x,ps⟩:=t;simp only [A3] at hh
 split at hh
 ·rename_i e;subst e;rcases List.mem_cons.1 hh with rfl | hh
  ·exact .inr (.inl ⟨rfl,0,rfl,.inl rfl⟩)
  ·rw [List.mem_singleton.1 hh];exact .inr (.inl ⟨rfl,1,rfl,.inr rfl⟩)
 ·split at hh
  ·rename_i e;subst e;rw [List.mem_singleton.1 hh];exact .inr (.inr ⟨rfl,rfl⟩)
  ·split at hh
   ·rename_i e;subst e
    split at hh
    ·rename_i d hd;obtain ⟨c,hc,rfl⟩:=List.mem_map.1 hh;obtain ⟨k,hk,e⟩:=List.getElem_of_mem hc;have:=Wp ho (n:=n) (ps:=ps) hd (k:=k) (c:=c) (by rw [List.getElem?_eq_getElem hk,e]);exact .inl ⟨rfl,rfl,by rw [show Cq (.mk 4 0 c.name [])=c.name from rfl,this]⟩
    ·cases hh
   ·cases hh
theorem PM {ds:List Dt} (ho:OkW ds) {t h:Ty} {vs:List Ty} (hn:AB ds t=true) (hh:MC ds t h) (hl:(AK ds t (Cq h)).1.length=vs.length) (hv:GW ds (AK ds t (Cq h)).1 vs=true):Ki ds t (Cv h vs)=true:=by
 rw [H7];rcases hh with hh | ⟨h1,n,rfl,_⟩
 ·rcases Fq ho hn hh with ⟨h1,h2,h3⟩ | ⟨h1,n,rfl,_⟩ | ⟨h1,rfl⟩
  ·obtain ⟨so,m,x,ps⟩:=t;obtain ⟨f,k,y,qs⟩:=h;simp only [AC,Cq] at *;subst h1;subst h2;simp [Kh,Cv,hl,h3,hv]
  ·obtain ⟨so,m,x,ps⟩:=t;simp only [AC] at h1;subst h1;simp [Kh,Cv]
  ·obtain ⟨so,m,x,ps⟩:=t;simp only [AC] at h1;subst h1;simp [Kh,Cv]
 ·obtain ⟨so,m,x,ps⟩:=t;simp only [AC] at h1;subst h1;simp [Kh,Cv]
theorem UP {ds:List Dt} (ho:OkW ds) {t h:Ty} (hn:AB ds t=true) (hh:MC ds t h) {vs:List Ty} (hv:GG vs=true):ET (Cv h vs)=true/\Ai (Cv h vs)=1+Ah vs:=by
 obtain ⟨f,k,y,qs⟩:=h;refine ⟨?_,by simp [Cv,Ai]⟩;simp only [Cv,ET,hv,Bool.and_true];refine decide_eq_true ?_;rcases hh with hh | ⟨_,n,e,hb⟩
 ·have hk:∀x∈A3 ds t,∀a b c d,x = .mk a b c d->0<=b/\b<=1:=by
   intro x hx a b c d e;rcases Fq ho hn hx with ⟨h1,h2,h3⟩ | ⟨h1,n,h2,h3⟩ | ⟨h1,h2⟩
   ·subst e;obtain ⟨so,m,z,ps⟩:=t;simp only [AC] at h1;subst h1;simp only [A3] at hx;rw [if_neg (by decide),if_neg (by decide),if_pos trivial] at hx
    split at hx
    ·obtain ⟨q,_,e⟩:=List.mem_map.1 hx;cases e;omega
    ·cases hx
   ·rw [e] at h2;cases h2;omega
   ·rw [e] at h2;cases h2;omega
  have:=hk _ hh _ _ _ _ rfl;omega
 ·cases e;omega
theorem Er {ds:List Dt} {f:Nat} {m:Mi} (h:AC m.hd≠0):AD ds (f+1) m=(Bg (AD ds f) m.ks).map (·.map (Cv m.hd)):=by
 show (if AC m.hd=0 then _ else _)=_;rw [if_neg h]
theorem EC {ds:List Dt} {f:Nat} {m:Mi} (h:AC m.hd=0) (h1:AC m.ty=1):AD ds (f+1) m=some (some (Da m.nt)):=by
 show (if AC m.hd=0 then _ else _)=_;rw [if_pos h,if_pos h1]
theorem EB {ds:List Dt} {f:Nat} {m:Mi} (h:AC m.hd=0) (h1:AC m.ty=4\/AC m.ty=5\/AC m.ty=6\/AC m.ty=7):AD ds (f+1) m=some (some (.mk 5 0 [] [])):=by
 show (if AC m.hd=0 then _ else _)=_;rw [if_pos h,if_neg (by omega),if_pos h1]
theorem Db {ds:List Dt} {f:Nat} {m:Mi} (h:AC m.hd=0) (h1:¬AC m.ty=1) (h4:¬(AC m.ty=4\/AC m.ty=5\/AC m.ty=6\/AC m.ty=7)):AD ds (f+1) m=match AA ds m with
  | none=>some none
  | some h=>AD ds (f+1) (AZ ds m h):=by
 have e:AD ds (f+1) m=match AA ds m with
  | none=>some none
  | some h=>(Bg (AD ds f) (AZ ds m h).ks).map (·.map (Cv h)):=by
  show (if AC m.hd=0 then _ else _)=_;rw [if_pos h,if_neg h1,if_neg h4]
  try rfl
 rw [e];cases hq:AA ds m with
 | none=>rfl
 | some x=>exact (Er (m:=AZ ds m x) (Bw (G7 hq)).2).symm
abbrev Ct (ds:List Dt) (t:Ty):Int:=EN ds (D7 ds) t
theorem Cs {ds:List Dt} (ho:OkW ds) (t:Ty):0<=Ct ds t/\Ct ds t<=256:=by
 have h:=Ip (Ms ho) t;have h4:=iW (n:=PN (D7 ds)) (by have:=MD (D7 ds);rw [(Ms ho).len] at this;have:=ho.d4;omega);simp only [Ct];omega
theorem Mz {ds:List Dt} (ho:OkW ds) {l:List Ty} (h:l.length<=3):0<=AN ds (D7 ds) 1 l/\AN ds (D7 ds) 1 l<=769:=by
 have hb:=FX (Ms ho) l 1 (by omega);have h4:=iW (n:=PN (D7 ds)) (by have:=MD (D7 ds);rw [(Ms ho).len] at this;have:=ho.d4;omega);generalize 4 ^ PN (D7 ds)=M at *;have:(l.length:Int)*(M:Int)<=3*256:=Int.mul_le_mul (by omega) (by omega) (by omega) (by omega);omega
theorem L9 {ds:List Dt} {g:Mi->Option (Option Ty)}:∀{L:List Ty},(∀t∈L,∃v,g (An t)=some (some v)/\(Ai v:Int)=Ct ds t/\Ki ds t v=true/\ET v=true)->(∀t∈L,Ct ds t≠0) ->
  ∃vs,Bg g (L.map An)=some (some vs)/\L.length=vs.length/\GW ds L vs=true/\GG vs=true/\∀n,AN ds (D7 ds) n L=n+Ah vs
 | [],_,_=>⟨[],rfl,rfl,rfl,rfl,λn=>by simp [AN,Ah]⟩
 | t::r,h,hz=>by
  obtain ⟨v,v1,v2,v3,v4⟩:=h t (by simp);obtain ⟨vs,w1,w2,w3,w4,w5⟩:=L9 (L:=r) (λx hx=>h x (by simp [hx])) (λx hx=>hz x (by simp [hx]));refine ⟨v::vs,?_,by simp [w2],by simp [GW,v3,w3],by simp [GG,v4,w4],λn=>?_⟩
  ·simp only [List.map_cons,Bg,v1,w1]
  ·have:=hz t (by simp);simp only [AN,Ah];rw [if_neg this,w5];simp only [Ct] at v2;omega
theorem Sx {ds:List Dt} {g:Mi->Option (Option Ty)}:∀{L:List Ty},(∀t∈L,∃r,g (An t)=some r/\(Ct ds t=0->r=none))->(∃t∈L,Ct ds t=0)->Bg g (L.map An)=some none
 | [],_,⟨t,ht,_⟩=>by cases ht
 | x::r,h,⟨t,ht,h0⟩=>by
  obtain ⟨q,q1,q2⟩:=h x (by simp);simp only [List.map_cons,Bg,q1];cases q with
  | none=>rfl
  | some v =>
   simp only;rcases List.mem_cons.1 ht with rfl | ht
   ·cases q2 h0
   ·rw [Sx (L:=r) (λy hy=>h y (by simp [hy])) ⟨t,ht,h0⟩]
theorem HR (nt:List Ty):∀(f:Nat) (i:Int),0<=i->∃n,Jf nt f i = .mk 1 n [] [] /\ -(i+f)<=n/\n<=i+f
 | 0,i,hi=>⟨i,rfl,by omega,by omega⟩
 | f+1,i,hi=>by
  simp only [Jf]
  split
  ·exact ⟨i,rfl,by omega,by omega⟩
  ·split
   ·exact ⟨0-i,rfl,by omega,by omega⟩
   ·obtain ⟨n,h1,h2,h3⟩:=HR nt f (i+1) (by omega);exact ⟨n,h1,by omega,by omega⟩
theorem OR {ds:List Dt} (ho:OkW ds) {m:Mi} (hn:AB ds m.ty=true) (h8:AC m.ty=8) :
  (Ct ds m.ty=0->∀h∈A3 ds m.ty,¬0<AQ ds m h)/\(Ct ds m.ty≠0->(∃h∈A3 ds m.ty,0<AQ ds m h/\AQ ds m h<=Ct ds m.ty)/\∀h∈A3 ds m.ty,0<AQ ds m h->Ct ds m.ty<=AQ ds m h):=by
 obtain ⟨⟨so,n,x,ps⟩,nt,hdm,ks⟩:=m;simp only [AC,Mi.ty] at *;subst h8;obtain ⟨hp,d,hd⟩:=C5 hn 8 n x ps rfl rfl;obtain ⟨f1,f2⟩:=iQ ho;have hdv:(Kk ds x).toNat=(AR x 0 ds).toNat:=by simp [Kk,hp]
 have hone:Ct ds (.mk 8 n x ps)=(D7 ds).getD (AR x 0 ds).toNat 0:=by simp only [Ct,EN,if_true];rw [hdv]
 have hH:A3 ds (.mk 8 n x ps)=d.cons.map Kj:=by
  rw [show A3 ds (.mk 8 n x ps)=(match ds[(AR x 0 ds).toNat]? with | some d=>d.cons.map λc=>Ty.mk 4 0 c.name [] | none=>[]) from rfl,hd];rfl
 have hc:∀c∈d.cons,AQ ds (.mk (.mk 8 n x ps) nt hdm ks) (Kj c)=AN ds (D7 ds) 1 c.args:=by
  intro c hc;obtain ⟨k,hk,e⟩:=List.getElem_of_mem hc;simp only [AQ,Kj,AC,if_true,Cq,Mi.ty];rw [Wp ho hd (k:=k) (c:=c) (by rw [List.getElem?_eq_getElem hk,e])]
 have h0:=(Cs ho (.mk 8 n x ps)).1;rw [hone] at h0 ⊢;rw [hH];constructor
 ·intro hz h hh hpos;obtain ⟨c,hcm,rfl⟩:=List.mem_map.1 hh;rw [hc c hcm] at hpos;exact (f2 _ d hd c hcm hpos).1 hz
 ·intro hz;constructor
  ·obtain ⟨c,hcm,c1,c2⟩:=f1 _ d hd (by omega);exact ⟨Kj c,List.mem_map_of_mem hcm,by rw [hc c hcm];exact c1,by rw [hc c hcm];exact c2⟩
  ·intro h hh hpos;obtain ⟨c,hcm,rfl⟩:=List.mem_map.1 hh;rw [hc c hcm] at hpos ⊢;exact (f2 _ d hd c hcm hpos).2
def oF (ds:List Dt) (t:Ty) (r:Option Ty):Prop:=(Ct ds t=0->r=none)/\(Ct ds t≠0->∃v,r=some v/\(Ai v:Int)=Ct ds t/\Ki ds t v=true/\ET v=true)
theorem JY {ds:List Dt} (ho:OkW ds) {m:Mi} {h:Ty} (hn:AB ds m.ty=true) (hh:MC ds m.ty h):AQ ds m h=AN ds (D7 ds) 1 (AK ds m.ty (Cq h)).1:=by
 unfold AQ
 split
 ·rfl
 ·rename_i h4;have:AC m.ty≠8:=by
   rcases hh with hh | ⟨h1,_⟩
   ·rcases Fq ho hn hh with ⟨_,h2,_⟩ | ⟨h1,_⟩ | ⟨h1,_⟩
    ·exact absurd h2 h4
    ·omega
    ·omega
   ·omega
  rw [Fv this];rfl
theorem M0 {ds:List Dt} (ho:OkW ds):∀{l:List Ty} {n:Int},0<AN ds (D7 ds) n l->n<=AN ds (D7 ds) n l/\∀t∈l,n+Ct ds t<=AN ds (D7 ds) n l
 | [],n,h=>⟨by simp [AN],λt ht=>by cases ht⟩
 | x::r,n,h=>by
  simp only [AN] at h ⊢;by_cases e:EN ds (D7 ds) x=0
  ·rw [if_pos e] at h;omega
  ·rw [if_neg e] at h ⊢;obtain ⟨h1,h2⟩:=M0 ho h;have hx:=(Cs ho x).1;simp only [Ct] at *;refine ⟨by omega,λt ht=>?_⟩;rcases List.mem_cons.1 ht with rfl | ht
   ·omega
   ·have:=h2 t ht;omega
theorem Hu {ds:List Dt} (ho:OkW ds) {f:Nat} {m:Mi} {h:Ty} (hn:AB ds m.ty=true) (hh:MC ds m.ty h) (ih:∀t,t∈(AK ds m.ty (Cq h)).1->∃r,AD ds f (An t)=some r/\oF ds t r) :
  ∃r,AD ds (f+1) (AZ ds m h)=some r/\(AQ ds m h=0->r=none)/\(0<AQ ds m h->∃v,r=some v/\(Ai v:Int)=AQ ds m h/\Ki ds m.ty v=true/\ET v=true):=by
 have hk:=OF hh;have e1:AD ds (f+1) (AZ ds m h)=(Bg (AD ds f) ((AK ds m.ty (Cq h)).1.map An)).map (·.map (Cv h)):=by
  rw [Er (m:=AZ ds m h) hk.1];rfl
 rw [e1];clear e1;have hcost:=JY ho hn hh;have hlen:=Eu ho m.ty (Cq h);rw [hcost];by_cases hz:∃t∈(AK ds m.ty (Cq h)).1,Ct ds t=0
 ·have hno:=Sx (ds:=ds) (g:=AD ds f) (λt ht=>let ⟨r,r1,r2,_⟩:=ih t ht;⟨r,r1,r2⟩) hz;obtain ⟨t,ht,h0⟩:=hz;rw [hno,N9 ht h0];exact ⟨none,rfl,λ_=>rfl,λh=>by omega⟩
 ·have hz:∀t∈(AK ds m.ty (Cq h)).1,Ct ds t≠0:=λt ht e=>hz ⟨t,ht,e⟩;obtain ⟨vs,w1,w2,w3,w4,w5⟩:=L9 (ds:=ds) (g:=AD ds f) (λt ht=>let ⟨r,r1,_,r3⟩:=ih t ht;let ⟨v,v1,v2⟩:=r3 (hz t ht);⟨v,by rw [r1,v1],v2⟩) hz;have hi:=UP ho hn hh w4;rw [w1,w5 1];exact ⟨some (Cv h vs),rfl,λh=>by omega,λ_=>⟨_,rfl,by rw [hi.2];omega,PM ho hn hh w2 w3,hi.1⟩⟩
theorem FE {ds:List Dt} (ho:OkW ds):∀(k:Nat) (t:Ty),AB ds t=true->Pu t=true->Ct ds t<=k->∀f,k+2<=f->∃r,AD ds f (An t)=some r/\oF ds t r:=by
 intro k
 induction k with
 | zero =>
  intro t hn hs hk f hf;obtain ⟨f,rfl⟩:∃g,f=g+1:=⟨f-1,by omega⟩
  have hb:=(Cs ho t).1;have h8:AC t=8:=by
   obtain ⟨so,n,x,ps⟩:=t;by_cases e:so=8
   ·exact e
   ·simp only [Ct,EN,if_neg e] at hk;omega
  have hc:=(OR ho (m:=An t) hn h8).1 (by show Ct ds t=0;omega);have hsm:AA ds (An t)=none:=by
   cases hq:AA ds (An t) with
   | none=>rfl
   | some h =>
    simp only [AA,Option.map_eq_some_iff] at hq;obtain ⟨p,hp,rfl⟩:=hq;obtain ⟨q1,_,_⟩:=Ek hp;rcases q1 with q1 | ⟨q1,q2,q3,_⟩
    ·cases q1
    ·exact absurd (by omega) (hc _ q1)
  refine ⟨none,?_,λ_=>rfl,λh=>absurd (by omega) h⟩;rw [Db (m:=An t) rfl (show ¬AC t=1 by omega) (show ¬(AC t=4\/AC t=5\/AC t=6\/AC t=7) by omega),hsm]
 | succ k ih =>
  intro t hn hs hk f hf;obtain ⟨f,rfl⟩:∃g,f=g+1:=⟨f-1,by omega⟩
  have hs':=of_decide_eq_true hs;have h1:AC t≠8->Ct ds t=1:=λh=>by obtain ⟨so,n,x,ps⟩:=t;simp only [Ct,EN];exact if_neg h
  by_cases t1:AC t=1
  ·have ho1:=h1 (by omega);refine ⟨some (Da []),?_,λh=>by omega,λ_=>⟨_,rfl,by rw [ho1];rfl,?_,rfl⟩⟩
   ·exact EC (m:=An t) rfl t1
   ·obtain ⟨so,n,x,ps⟩:=t;simp only [AC] at t1;subst t1;rfl
  by_cases t4:AC t=4\/AC t=5\/AC t=6\/AC t=7
  ·have ho1:=h1 (by omega);refine ⟨some (.mk 5 0 [] []),?_,λh=>by omega,λ_=>⟨_,rfl,by rw [ho1];rfl,?_,rfl⟩⟩
   ·exact EB (m:=An t) rfl t4
   ·obtain ⟨so,n,x,ps⟩:=t;simp only [AC] at t4;simp only [Ki];rw [if_neg (by omega),if_neg (by omega),if_neg (by omega),if_neg (by omega)];rfl
  have hun:=Db (ds:=ds) (f:=f) (m:=An t) rfl t1 t4;rw [hun];have hall:∀h,h∈A3 ds t->0<AQ ds (An t) h->AQ ds (An t) h<=k+1->∃r,AD ds (f+1) (AZ ds (An t) h)=some r/\(AQ ds (An t) h=0->r=none)/\(0<AQ ds (An t) h->∃v,r=some v/\(Ai v:Int)=AQ ds (An t) h/\Ki ds t v=true/\ET v=true):=by
   intro h hh h0 hc;refine Hu ho (m:=An t) hn (.inl hh) λa ha=>?_;have ha:a∈(AK ds t (Cq h)).1:=ha;have hna:=BK ho.okd (t:=t) (s:=Cq h);rw [C4,List.all_eq_true] at hna;rw [JY ho (m:=An t) hn (.inl hh)] at h0 hc;have:=(M0 ho h0).2 a ha;exact ih a (hna a ha) (GU ho a ha) (by omega) f (by omega)
  have hpk:∀h,AA ds (An t)=some h->h∈A3 ds t/\0<AQ ds (An t) h/\∀h'∈A3 ds t,0<AQ ds (An t) h'->AQ ds (An t) h<=AQ ds (An t) h':=λh hq=>by
   simp only [AA,Option.map_eq_some_iff] at hq;obtain ⟨p,hp,rfl⟩:=hq;obtain ⟨q1,_,q3⟩:=Ek hp;rcases q1 with q1 | ⟨q1,q2,q4,_⟩
   ·cases q1
   ·exact ⟨q1,by omega,λh' hh' h0=>by rw [<- q2];exact q3 h' hh' h0 rfl⟩
  have hpn:AA ds (An t)=none->∀h'∈A3 ds t,¬0<AQ ds (An t) h':=λhq h' hh' h0=>by
   simp only [AA,Option.map_eq_none_iff] at hq;exact (JG hq).2 h' hh' ⟨h0,rfl⟩
  by_cases t8:AC t=8
  ·have hc:=OR ho (m:=An t) hn t8;have hc1:Ct ds t=0->∀h∈A3 ds t,¬0<AQ ds (An t) h:=hc.1;have hc2:Ct ds t≠0->(∃h∈A3 ds t,0<AQ ds (An t) h/\AQ ds (An t) h<=Ct ds t)/\∀h∈A3 ds t,0<AQ ds (An t) h->Ct ds t<=AQ ds (An t) h:=hc.2;cases hq:AA ds (An t) with
   | none =>
    refine ⟨none,rfl,λ_=>rfl,λhz=>?_⟩;obtain ⟨⟨h,h1,h2,_⟩,_⟩:=hc2 hz;exact absurd h2 (hpn hq h h1)
   | some h =>
    obtain ⟨p1,p2,p3⟩:=hpk h hq;have hz:Ct ds t≠0:=λe=>hc1 e h p1 p2;obtain ⟨⟨h0,a1,a2,a3⟩,a4⟩:=hc2 hz;have:=p3 h0 a1 a2;have:=a4 h p1 p2;obtain ⟨r,r1,_,r3⟩:=hall h p1 p2 (by omega);obtain ⟨v,v1,v2,v3⟩:=r3 p2;exact ⟨r,r1,λe=>absurd e hz,λ_=>⟨v,v1,by omega,v3⟩⟩
  ·have ho1:=h1 t8;have hcost:∀h∈A3 ds t,AQ ds (An t) h=1:=λh hh=>by
    unfold AQ;rw [if_neg];intro h4;rcases Fq ho hn hh with ⟨h8,_⟩ | ⟨_,n,rfl,_⟩ | ⟨_,rfl⟩
    ·exact t8 h8
    ·simp [AC] at h4
    ·simp [AC] at h4
   have hne:∃h,h∈A3 ds t:=by
    obtain ⟨so,n,x,ps⟩:=t;simp only [AC] at *;by_cases e:so=2
    ·subst e;exact ⟨.mk 2 0 [] [],by simp [A3]⟩
    ·have e:so=3:=by omega
     subst e;exact ⟨.mk 3 0 [] [],by simp [A3]⟩
   cases hq:AA ds (An t) with
   | none =>
    obtain ⟨h,hh⟩:=hne;exact absurd (by rw [hcost h hh];omega) (hpn hq h hh)
   | some h =>
    obtain ⟨p1,p2,p3⟩:=hpk h hq;have hch:=hcost h p1;obtain ⟨r,r1,_,r3⟩:=hall h p1 p2 (by omega);obtain ⟨v,v1,v2,v3⟩:=r3 p2;exact ⟨r,r1,λe=>by omega,λ_=>⟨v,v1,by omega,v3⟩⟩
theorem Vk {ds:List Dt} (ho:OkW ds) {f:Nat} (hf:770<=f) {m:Mi} (hn:AB ds m.ty=true) (hs:Pu m.ty=true) (hnt:m.nt.length<=1000000) (hh:AC m.hd=0) :
  ∃r,AD ds (f+1) m=some r/\∀v,r=some v->Ai v<=769/\Ki ds m.ty v=true/\ET v=true:=by
 have hs':=of_decide_eq_true hs;by_cases t1:AC m.ty=1
 ·refine ⟨_,EC hh t1,λv hv=>?_⟩;cases hv;obtain ⟨n,e,e1,e2⟩:=HR m.nt m.nt.length 0 (by omega);rw [Da,e];refine ⟨by simp [Ai,Ah],?_,?_⟩
  ·revert t1;generalize m.ty=t;obtain ⟨so,n,x,ps⟩:=t;intro t1;simp only [AC] at t1;subst t1;rfl
  ·simp only [ET,GG,Bool.and_true];exact decide_eq_true (by omega)
 by_cases t4:AC m.ty=4\/AC m.ty=5\/AC m.ty=6\/AC m.ty=7
 ·refine ⟨_,EB hh t4,λv hv=>?_⟩;cases hv;refine ⟨by simp [Ai,Ah],?_,rfl⟩;revert t4;generalize m.ty=t;obtain ⟨so,n,x,ps⟩:=t;intro t4;simp only [AC] at t4;simp only [Ki];rw [if_neg (by omega),if_neg (by omega),if_neg (by omega),if_neg (by omega)];rfl
 rw [Db hh t1 t4];cases hq:AA ds m with
 | none=>exact ⟨none,rfl,λv hv=>by cases hv⟩
 | some h =>
  have hm:=G7 hq;simp only [AA,Option.map_eq_some_iff] at hq;obtain ⟨p,hp,rfl⟩:=hq;obtain ⟨q1,_,_⟩:=Ek hp;rcases q1 with q1 | ⟨_,q2,q3,_⟩
  ·cases q1
  have hce:=JY ho hn (.inl hm);have hup:=(Mz ho (Eu ho m.ty (Cq p.1))).2;obtain ⟨r,r1,_,r3⟩:=Hu ho (f:=f) hn (.inl hm) λa ha=>by
   have hna:=BK ho.okd (t:=m.ty) (s:=Cq p.1);rw [C4,List.all_eq_true] at hna;exact FE ho 256 a (hna a ha) (GU ho a ha) (Cs ho a).2 f (by omega)
  obtain ⟨v,v1,v2,v3⟩:=r3 (by omega);refine ⟨r,r1,λw hw=>?_⟩;rw [v1] at hw;cases hw;exact ⟨by omega,v3⟩
theorem Qj {ds:List Dt} {g:Mi->Option (Option Ty)} {B:Nat}:∀{ks:List Mi},(∀k∈ks,∃r,g k=some r/\∀v,r=some v->Ai v<=B/\Ki ds k.ty v=true/\ET v=true) ->
  ∃o,Bg g ks=some o/\∀vs,o=some vs->ks.length=vs.length/\GW ds (ks.map Mi.ty) vs=true/\GG vs=true/\Ah vs<=ks.length*B
 | [],_=>⟨some [],rfl,λvs h=>by cases h;exact ⟨rfl,rfl,rfl,by simp [Ah]⟩⟩
 | k::r,h=>by
  obtain ⟨x,x1,x2⟩:=h k (by simp);obtain ⟨o,o1,o2⟩:=Qj (ks:=r) (λy hy=>h y (by simp [hy]));cases x with
  | none=>exact ⟨none,by simp [Bg,x1],λvs h=>by cases h⟩
  | some v =>
   obtain ⟨v1,v2,v3⟩:=x2 v rfl;cases o with
   | none=>exact ⟨none,by simp [Bg,x1,o1],λvs h=>by cases h⟩
   | some vs =>
    obtain ⟨w1,w2,w3,w4⟩:=o2 vs rfl;refine ⟨some (v::vs),by simp [Bg,x1,o1],λus h=>?_⟩;cases h;refine ⟨by simp [w1],by simp [GW,v2,w2],by simp [GG,v3,w3],?_⟩;simp only [Ah,List.length_cons,Nat.add_mul];omega
theorem ZQ {ds:List Dt} (ho:OkW ds) {N:Nat} (hN:N<=1000000):∀(H:Nat) (m:Mi),Hb ds N m=true->DF ds m->GY m<=H->∀f,H+771<=f ->
  ∃r,AD ds f m=some r/\∀v,r=some v->Ai v<=1000*4 ^ H/\Ki ds m.ty v=true/\ET v=true:=by
 intro H
 induction H with
 | zero=>intro m _ _ h;rw [Gc] at h;omega
 | succ H ih =>
  intro m hw hc hg f hf;obtain ⟨f,rfl⟩:∃g,f=g+1:=⟨f-1,by omega⟩
  have hwi:=Bi.1 hw;have hci:=B6.1 hc;have hp1:1<=4 ^ H:=Nat.one_le_pow _ _ (by decide);have hp2:4 ^ (H+1)=4*4 ^ H:=by rw [Nat.pow_succ];omega
  by_cases hh:AC m.hd=0
  ·obtain ⟨r,r1,r2⟩:=Vk ho (f:=f) (by omega) hwi.1.1 hwi.2.1.2 (by omega) hh;exact ⟨r,r1,λv hv=>by obtain ⟨a,b⟩:=r2 v hv;exact ⟨by omega,b⟩⟩
  ·rw [Er hh];obtain ⟨o,o1,o2⟩:=Qj (ds:=ds) (g:=AD ds f) (B:=1000*4 ^ H) (ks:=m.ks) λk hk=>ih k (hwi.2.2 k hk) (hci.2.2 k hk) (by have:=LF hk;omega) f (by omega);refine ⟨o.map (Cv m.hd),by rw [o1];rfl,λv hv=>?_⟩;cases o with
   | none=>cases hv
   | some vs =>
    simp only [Option.map_some,Option.some.injEq] at hv;obtain ⟨w1,w2,w3,w4⟩:=o2 vs rfl;obtain ⟨c1,c2⟩:=hci.2.1 hh;rw [c2] at w2;have hi:=UP ho hwi.1.1 c1 w3;have hl:(AK ds m.ty (Cq m.hd)).1.length=vs.length:=by rw [<- c2,List.length_map,w1]
    have h3:=hwi.1.2.1;subst hv;refine ⟨?_,PM ho hwi.1.1 c1 hl w2,hi.1⟩;rw [hi.2];have:m.ks.length*(1000*4 ^ H)<=3*(1000*4 ^ H):=Nat.mul_le_mul_right _ h3;omega
theorem Kr {g:Mi->Option (Option Ty)}:∀{l r:List Mi},l.length=r.length->(∀(i:Nat) a b,l[i]?=some a->r[i]?=some b->g a=g b)->Bg g l=Bg g r
 | [],[],_,_=>rfl
 | a::l,b::r,hl,h=>by
  simp only [Bg,h 0 a b rfl rfl,Kr (l:=l) (r:=r) (by simpa using hl) λi x y hx hy=>h (i+1) x y (by simpa using hx) (by simpa using hy)]
 | [],_::_,hl,_=>by simp at hl
 | _::_,[],hl,_=>by simp at hl
theorem CK {ds:List Dt} (m:Mi):(Af ds m=m)\/(AC m.hd=0/\∃h,Ht ds m=[h]/\Af ds m=AZ ds m h):=by
 unfold Af;by_cases hh:AC m.hd=0
 ·rw [if_neg (λh=>h hh)]
  split
  ·rename_i h e;exact .inr ⟨hh,h,e,rfl⟩
  ·exact .inl rfl
 ·rw [if_pos hh];exact .inl rfl
theorem Ou {ds:List Dt} (m:Mi):Af ds (Af ds m)=Af ds m:=by
 rcases CK (ds:=ds) m with h | ⟨hh,h,h1,h2⟩
 ·rw [h,h]
 ·rw [h2];have:AC (AZ ds m h).hd≠0:=(Bw (D3 h1).1).2;simp only [Af,if_pos this]
theorem C2 {ds:List Dt} {m:Mi} (h:AC m.hd≠0):Af ds m=m:=by simp only [Af,if_pos h]
theorem Rs {ds:List Dt} (ho:OkW ds) {f:Nat} (hf:770<=f) {m:Mi} (hn:AB ds m.ty=true):AD ds (f+1) (Af ds m)=AD ds (f+1) m:=by
 rcases CK (ds:=ds) m with h | ⟨hh,h,h1,h2⟩
 ·rw [h]
 rw [h2];obtain ⟨hm,hnt⟩:=D3 h1;have hk:=Fq ho hn hm;have t1:¬AC m.ty=1:=by rcases hk with ⟨a,_⟩ | ⟨a,_⟩ | ⟨a,_⟩ <;> omega
 have t4:¬(AC m.ty=4\/AC m.ty=5\/AC m.ty=6\/AC m.ty=7):=by rcases hk with ⟨a,_⟩ | ⟨a,_⟩ | ⟨a,_⟩ <;> omega
 rw [Db hh t1 t4];have honly:∀x∈A3 ds m.ty,BH m.nt x=false->x=h:=λx hx hxn=>by
  have:x∈Ht ds m:=List.mem_filter.2 ⟨hx,by simp [hxn]⟩;rw [h1] at this;simpa using this
 cases hq:AA ds m with
 | some y =>
  have hy:=G7 hq;simp only [AA,Option.map_eq_some_iff] at hq;obtain ⟨p,hp,rfl⟩:=hq;obtain ⟨q1,_,_⟩:=Ek hp;rcases q1 with q1 | ⟨_,_,_,q4⟩
  ·cases q1
  ·rw [honly _ hy q4]
 | none =>
  simp only [AA,Option.map_eq_none_iff] at hq;have hc:=(JG hq).2 h hm;have hce:=JY ho hn (.inl hm);have hup:=(Mz ho (Eu ho m.ty (Cq h))).1;obtain ⟨r,r1,r2,_⟩:=Hu ho (f:=f) hn (.inl hm) λa ha=>by
   have hna:=BK ho.okd (t:=m.ty) (s:=Cq h);rw [C4,List.all_eq_true] at hna;exact FE ho 256 a (hna a ha) (GU ho a ha) (Cs ho a).2 f (by omega)
  rw [r1,r2 (by have:¬0<AQ ds m h:=λh0=>hc ⟨h0,hnt⟩;omega)]
mutual
def stl (ds:List Dt) (m:Mi):Mi->Prop
 | .mk ty nt hd ks=>∃s,(s=m\/s=Af ds m)/\s.ty=ty/\s.nt=nt/\s.hd=hd/\Ot ds s.ks ks
def Ot (ds:List Dt) (l:List Mi):List Mi->Prop
 | []=>l=[]
 | k::r=>∃a b,l=a::b/\stl ds a k/\Ot ds b r
end
theorem Gy {ds:List Dt}:∀{r l:List Mi},Ot ds l r↔l.length=r.length/\∀(i:Nat) a k,l[i]?=some a->r[i]?=some k->stl ds a k
 | [],l=>by
  simp only [Ot,List.length_nil,List.length_eq_zero_iff];exact ⟨λh=>⟨h,λi a k _ hk=>by simp at hk⟩,λh=>h.1⟩
 | k::r,l=>by
  simp only [Ot];constructor
  ·rintro ⟨a,b,rfl,h1,h2⟩;obtain ⟨h3,h4⟩:=Gy.1 h2;refine ⟨by simp [h3],λi x y hx hy=>?_⟩;cases i with
   | zero=>simp at hx hy;subst hx;subst hy;exact h1
   | succ i=>exact h4 i x y (by simpa using hx) (by simpa using hy)
  ·rintro ⟨h1,h2⟩;cases l with
   | nil=>simp at h1
   | cons a b=>exact ⟨a,b,rfl,h2 0 a k rfl rfl,Gy.2 ⟨by simpa using h1,λi x y hx hy=>h2 (i+1) x y (by simpa using hx) (by simpa using hy)⟩⟩
theorem He {ds:List Dt} {m c:Mi}:stl ds m c↔∃s,(s=m\/s=Af ds m)/\s.ty=c.ty/\s.nt=c.nt/\s.hd=c.hd/\Ot ds s.ks c.ks:=by
 obtain ⟨a,b,d,e⟩:=c;rfl
mutual
theorem E0 (ds:List Dt):∀m:Mi,stl ds m m
 | .mk ty nt hd ks=>⟨_,.inl rfl,rfl,rfl,rfl,JD ds ks⟩
theorem JD (ds:List Dt):∀l:List Mi,Ot ds l l
 | []=>rfl
 | k::r=>⟨k,r,rfl,E0 ds k,JD ds r⟩
end
theorem mC {ds:List Dt} {m c:Mi} (h:stl ds m c):m.ty=c.ty:=by
 obtain ⟨s,h1,h2,_⟩:=He.1 h;rcases h1 with rfl | rfl
 ·exact h2
 ·rw [<- h2,Dz]
theorem IU {ds:List Dt} {m c:Mi} (hm:DF ds m) (h:stl ds m c):(Af ds m).ty=(Af ds c).ty/\(Af ds m).nt=(Af ds c).nt/\(Af ds m).hd=(Af ds c).hd/\Ot ds (Af ds m).ks (Af ds c).ks:=by
 obtain ⟨s,h1,h2,h3,h4,h5⟩:=He.1 h;rcases h1 with rfl | h1
 ·by_cases hh:AC s.hd=0
  ·have hk:=(B6.1 hm).1 hh;have hck:c.ks=[]:=by
    have:=(Gy.1 h5).1;rw [hk] at this;exact List.eq_nil_of_length_eq_zero this.symm
   have e:c=s:=by
    obtain ⟨a,b,d,e⟩:=c;obtain ⟨a',b',d',e'⟩:=s;simp only [Mi.ty,Mi.nt,Mi.hd,Mi.ks] at *;subst h2;subst h3;subst h4;rw [hk,hck]
   rw [e];exact ⟨rfl,rfl,rfl,JD ds _⟩
  ·rw [C2 hh,C2 (m:=c) (by rw [<- h4];exact hh)];exact ⟨h2,h3,h4,h5⟩
 ·rcases CK (ds:=ds) m with e | ⟨hh,x,e1,e2⟩
  ·rw [e] at h1;rw [h1] at h2 h3 h4 h5;by_cases hh:AC m.hd=0
   ·have hk:=(B6.1 hm).1 hh;have hck:c.ks=[]:=by
     have:=(Gy.1 h5).1;rw [hk] at this;exact List.eq_nil_of_length_eq_zero this.symm
    have e:c=m:=by
     obtain ⟨a,b,d,e⟩:=c;obtain ⟨a',b',d',e'⟩:=m;simp only [Mi.ty,Mi.nt,Mi.hd,Mi.ks] at *;subst h2;subst h3;subst h4;rw [hk,hck]
    rw [e];exact ⟨rfl,rfl,rfl,JD ds _⟩
   ·rw [C2 hh,C2 (m:=c) (by rw [<- h4];exact hh)];exact ⟨h2,h3,h4,h5⟩
  ·have hne:AC (Af ds m).hd≠0:=by rw [e2];exact (Bw (D3 e1).1).2
   subst h1;rw [C2 (m:=c) (by rw [<- h4];exact hne)];exact ⟨h2,h3,h4,h5⟩
theorem Vn {ds:List Dt} {m c:Mi} (h:m.ty=c.ty) (x:Ty):AZ ds m x=AZ ds c x:=by
 simp only [AZ,h]
theorem PA {ds:List Dt} {m c:Mi} (h1:m.ty=c.ty) (h2:m.nt=c.nt):∀(l:List Ty) (b:Option (Ty×Int)),Dm ds m b l=Dm ds c b l
 | [],b=>rfl
 | x::r,b=>by
  have hc:AQ ds m x=AQ ds c x:=by simp only [AQ,h1]
  simp only [Dm,hc,h2];exact PA h1 h2 r _
theorem Pw {ds:List Dt} {m c:Mi} (h1:m.ty=c.ty) (h2:m.nt=c.nt):AA ds m=AA ds c:=by
 simp only [AA,h1,PA h1 h2]
theorem NR {ds:List Dt} {m c:Mi} (f:Nat) (h1:m.ty=c.ty) (h2:m.nt=c.nt) (h3:AC m.hd=0) (h4:AC c.hd=0):AD ds (f+1) m=AD ds (f+1) c:=by
 by_cases t1:AC m.ty=1
 ·rw [EC h3 t1,EC h4 (by rw [<- h1];exact t1),h2]
 by_cases t4:AC m.ty=4\/AC m.ty=5\/AC m.ty=6\/AC m.ty=7
 ·rw [EB h3 t4,EB h4 (by rw [<- h1];exact t4)]
 rw [Db h3 t1 t4,Db h4 (by rw [<- h1];exact t1) (by rw [<- h1];exact t4),Pw h1 h2];cases AA ds c with
 | none=>rfl
 | some x=>simp only [Vn h1]
theorem Zn {ds:List Dt} (ho:OkW ds) {N:Nat}:∀(H:Nat) (m c:Mi),GY c<=H->Hb ds N m=true->stl ds m c->∀f,H+771<=f->AD ds f m=AD ds f c:=by
 intro H
 induction H with
 | zero=>intro m c h;rw [Gc] at h;omega
 | succ H ih =>
  intro m c hg hw hs f hf;obtain ⟨f,rfl⟩:∃g,f=g+1:=⟨f-1,by omega⟩
  obtain ⟨s,h1,h2,h3,h4,h5⟩:=He.1 hs;have e:AD ds (f+1) m=AD ds (f+1) s/\Hb ds N s=true:=by
   rcases h1 with rfl | rfl
   ·exact ⟨rfl,hw⟩
   ·exact ⟨(Rs ho (by omega) (Bi.1 hw).1.1).symm,Dh ho hw⟩
  rw [e.1];by_cases hh:AC s.hd=0
  ·exact NR f h2 h3 hh (by rw [<- h4];exact hh)
  ·rw [Er hh,Er (by rw [<- h4];exact hh),h4];obtain ⟨k1,k2⟩:=Gy.1 h5;rw [Kr k1 λi a b ha hb=>ih a b (by have:=LF (List.mem_of_getElem? hb);omega) ((Bi.1 e.2).2.2 a (List.mem_of_getElem? ha)) (k2 i a b ha hb) f (by omega)]
theorem NP {g g':Mi->Option (Option Ty)} (h:∀k r,g k=some r->g' k=some r):∀{l:List Mi} {o:Option (List Ty)},Bg g l=some o->Bg g' l=some o
 | [],o,e=>e
 | k::r,o,e=>by
  simp only [Bg] at e ⊢;cases hk:g k with
  | none=>simp [hk] at e
  | some v =>
   rw [h k v hk];cases v with
   | none=>simpa [hk] using e
   | some v =>
    simp only [hk] at e ⊢;cases hr:Bg g r with
    | none=>simp [hr] at e
    | some q=>rw [NP h hr];simpa [hr] using e
theorem Vl {ds:List Dt}:∀(f:Nat) (m:Mi) (r:Option Ty),AD ds f m=some r->AD ds (f+1) m=some r:=by
 intro f
 induction f with
 | zero=>intro m r h;simp [AD] at h
 | succ f ih =>
  intro m r h;have hk:∀m r,AC m.hd≠0->AD ds (f+1) m=some r->AD ds (f+1+1) m=some r:=λm r hh h=>by
   rw [Er hh] at h ⊢;cases hl:Bg (AD ds f) m.ks with
   | none=>simp [hl] at h
   | some o=>rw [NP ih hl];simpa [hl] using h
  by_cases hh:AC m.hd=0
  ·by_cases t1:AC m.ty=1
   ·rw [EC hh t1] at h ⊢;exact h
   by_cases t4:AC m.ty=4\/AC m.ty=5\/AC m.ty=6\/AC m.ty=7
   ·rw [EB hh t4] at h ⊢;exact h
   rw [Db hh t1 t4] at h ⊢;cases hq:AA ds m with
   | none=>rw [hq] at h;exact h
   | some x =>
    simp only [hq] at h ⊢;exact hk _ _ (Bw (G7 hq)).2 h
  ·exact hk m r hh h
theorem I1 {ds:List Dt} {f g:Nat} (hg:f<=g) {m:Mi} {r:Option Ty} (h:AD ds f m=some r):AD ds g m=some r:=by
 induction hg with
 | refl=>exact h
 | step _ ih=>exact Vl _ _ _ ih
mutual
theorem Pq {ds:List Dt}:∀(p:Ty) {m c:Mi},DF ds m->stl ds m c->Aw ds p m=Aw ds p c
 | .mk f n x ps,m,c,hm,hs=>by
  obtain ⟨_,h2,h3,h4⟩:=IU hm hs;simp only [Aw,h2,h3];rw [RL ps (λk hk=>(B6.1 (Df hm)).2.2 k hk) h4 0]
theorem RL {ds:List Dt}:∀(ps:List Ty) {l r:List Mi},(∀k∈l,DF ds k)->Ot ds l r->∀i,AY ds i ps l=AY ds i ps r
 | [],_,_,_,_,i=>by simp only [AY]
 | p::ps,l,[],_,h,i=>by simp only [Ot] at h;subst h;rfl
 | p::ps,l,k::r,hl,h,i=>by
  obtain ⟨a,b,rfl,h1,h2⟩:=h;simp only [AY,Pq p (hl a (by simp)) h1,RL ps (λy hy=>hl y (by simp [hy])) h2]
end
mutual
def E3 (ds:List Dt):Ty->Mi->Mi
 | .mk f n x ps,m=>if f=1\/f=2 then m else if AC (Af ds m).hd=0\/A6 (Af ds m).hd (AO (.mk f n x ps))=false then Af ds m else
  .mk (Af ds m).ty (Af ds m).nt (Af ds m).hd (CV ds ps (Af ds m).ks)
def CV (ds:List Dt):List Ty->List Mi->List Mi
 | [],ks=>ks
 | _::_,[]=>[]
 | p::r,k::ks=>E3 ds p k::if (Aw ds p k).1=1 then CV ds r ks else ks
end
mutual
theorem Ya {ds:List Dt}:∀(p:Ty) {m c:Mi},DF ds m->stl ds m c->stl ds m (E3 ds p c)
 | .mk f n x ps,m,c,hm,hs=>by
  obtain ⟨h1,h2,h3,h4⟩:=IU hm hs;have hst:stl ds m (Af ds c):=He.2 ⟨Af ds m,.inr rfl,h1,h2,h3,h4⟩;simp only [E3]
  split
  ·exact hs
  ·split
   ·exact hst
   ·exact He.2 ⟨Af ds m,.inr rfl,h1,h2,h3,Up ps (λk hk=>(B6.1 (Df hm)).2.2 k hk) h4⟩
theorem Up {ds:List Dt}:∀(ps:List Ty) {l r:List Mi},(∀k∈l,DF ds k)->Ot ds l r->Ot ds l (CV ds ps r)
 | [],_,_,_,h=>by simpa only [CV] using h
 | p::ps,l,[],_,h=>by simpa only [CV] using h
 | p::ps,l,k::r,hl,h=>by
  obtain ⟨a,b,rfl,h1,h2⟩:=h;simp only [CV];refine ⟨a,b,rfl,Ya p (hl a (by simp)) h1,?_⟩
  split
  ·exact Up ps (λy hy=>hl y (by simp [hy])) h2
  ·exact h2
end
mutual
def W1 (ds:List Dt):Ty->Mi->Nat
 | .mk f n x ps,m=>if f=1\/f=2 then 0 else if AC (Af ds m).hd=0 then (if BH (Af ds m).nt (AO (.mk f n x ps))=true then 0 else 1+Ah ps) else
  if A6 (Af ds m).hd (AO (.mk f n x ps))=false then 0 else Oq ds ps (Af ds m).ks
def Oq (ds:List Dt):List Ty->List Mi->Nat
 | [],_=>0
 | _::_,[]=>0
 | p::r,k::ks=>W1 ds p k+Oq ds r ks
end
mutual
theorem kP (ds:List Dt):∀(p:Ty) (m:Mi),W1 ds p m<=Ai p
 | .mk f n x ps,m=>by
  have:=W4 ds ps (Af ds m).ks;simp only [W1,Ai]
  split
  ·omega
  ·split
   ·split <;> omega
   ·split <;> omega
theorem W4 (ds:List Dt):∀(ps:List Ty) (l:List Mi),Oq ds ps l<=Ah ps
 | [],l=>by simp [Oq]
 | p::r,[]=>by simp [Oq]
 | p::r,k::ks=>by
  have h1:=kP ds p k;have h2:=W4 ds r ks;simp only [Oq,Ah];omega
end
theorem X1 (h:Ty):A6 h h=true:=by obtain ⟨a,b,c,d⟩:=h;simp [A6]
theorem GH (a b:Ty):A6 a b=A6 b a:=by
 obtain ⟨a1,a2,a3,a4⟩:=a;obtain ⟨b1,b2,b3,b4⟩:=b;simp only [A6];rw [Bool.eq_iff_iff];simp only [Bool.and_eq_true,beq_iff_eq];exact ⟨λ⟨⟨h1,h2⟩,h3⟩=>⟨⟨h1.symm,h2.symm⟩,h3.symm⟩,λ⟨⟨h1,h2⟩,h3⟩=>⟨⟨h1.symm,h2.symm⟩,h3.symm⟩⟩
theorem Lx {ds:List Dt} {t:Ty} {f n:Int} {x:Str} {ps:List Ty} (hn:AB ds t=true) (h:Cr ds t (.mk f n x ps)=true) (hp:BB (.mk f n x ps)=true) (h12:¬(f=1\/f=2)) :
  MC ds t (AO (.mk f n x ps))/\(AK ds t (Cq (AO (.mk f n x ps)))).1.length=ps.length/\Ck ds (AK ds t (Cq (AO (.mk f n x ps)))).1 ps=true/\B7 ps=true:=by
 rw [M8] at h;obtain ⟨so,m,y,qs⟩:=t;simp only [BB,Bool.and_eq_true] at hp;obtain ⟨hb,hps⟩:=hp;have hz:∀t:Ty,AC t≠8->ps=[]->∀s,(AK ds t s).1.length=ps.length/\Ck ds (AK ds t s).1 ps=true:=λt ht he s=>by
  rw [Fv ht,he];exact ⟨rfl,by simp [Ck]⟩
 simp only [D0] at hb;simp only [JH] at h;by_cases h5:f=5
 ·subst h5;rw [if_pos (.inr rfl)] at hb;simp only [Bool.and_eq_true,beq_iff_eq] at hb;have he:ps=[]:=List.eq_nil_of_length_eq_zero (by omega);have hso:so=3:=by simpa using h
  subst hso;have:=hz (.mk 3 m y qs) (by simp [AC]) he (Cq (AO (.mk 5 n x ps)));exact ⟨.inl (by simp [AO,A3]),this.1,this.2,hps⟩
 by_cases h3:f=3
 ·subst h3;rw [if_neg (by decide),if_neg (by decide),if_pos rfl] at hb;simp only [Bool.and_eq_true,beq_iff_eq,Fp,decide_eq_true_eq] at hb;have he:ps=[]:=List.eq_nil_of_length_eq_zero (by omega);have hso:so=1:=by simpa using h
  subst hso;have:=hz (.mk 1 m y qs) (by simp [AC]) he (Cq (AO (.mk 3 n x ps)));exact ⟨.inr ⟨rfl,n,by simp [AO],hb.2⟩,this.1,this.2,hps⟩
 by_cases h4:f=4
 ·subst h4;rw [if_neg (by decide),if_neg (by decide),if_neg (by decide),if_pos rfl] at hb;simp only [Bool.and_eq_true,beq_iff_eq,Fp,decide_eq_true_eq] at hb;have he:ps=[]:=List.eq_nil_of_length_eq_zero (by omega);have hso:so=2:=by simpa using h
  subst hso;have:=hz (.mk 2 m y qs) (by simp [AC]) he (Cq (AO (.mk 4 n x ps)));have hn:n=0\/n=1:=by omega
  exact ⟨.inl (by rcases hn with rfl | rfl <;> simp [AO,A3]),this.1,this.2,hps⟩
 have h6:f=6:=by
  have h1:f≠1:=λe=>h12 (.inl e);have h2:f≠2:=λe=>h12 (.inr e);rw [if_neg (by omega),if_neg (by omega),if_neg (by omega),if_neg (by omega)] at hb;by_cases e:f=6
  ·exact e
  ·rw [if_neg e] at hb;cases hb
 subst h6;rw [if_neg (by decide),if_neg (by decide),if_neg (by decide),if_pos rfl] at h;simp only [Bool.and_eq_true,decide_eq_true_eq] at h;have ht:AO (.mk 6 n x ps) = .mk 4 0 x []:=rfl;rw [ht];refine ⟨.inl ?_,h.1,h.2.2,hps⟩;have hc:0<=(B4 ds (.mk so m y qs) x).2:=by
  have:=h.2.1;simp only [AK] at this;by_cases e:0<=(B4 ds (.mk so m y qs) x).2
  ·exact e
  ·simp [e] at this
 have h8:so=8:=by
  by_cases e:so=8
  ·exact e
  ·simp [B4,e] at hc
 subst h8;obtain ⟨_,d,hd⟩:=C5 hn 8 m y qs rfl rfl;simp only [B4,if_true,hd] at hc;obtain ⟨c1,c2⟩:=GS hc;rw [show A3 ds (.mk 8 m y qs)=(match ds[(AR y 0 ds).toNat]? with | some d=>d.cons.map λc=>Ty.mk 4 0 c.name [] | none=>[]) from rfl,hd];exact List.mem_map.2 ⟨_,c1,by rw [c2]⟩
theorem NZ {ds:List Dt} (ho:OkW ds):∀(p:Ty) {N:Nat} {m:Mi},Hb ds N m=true->DF ds m->Cr ds m.ty p=true->BB p=true->jR ds p m=true
 | .mk f n x ps,N,m,hw,hc,h,hp=>by
  simp only [jR,Bool.or_eq_true,Bool.and_eq_true,decide_eq_true_eq,Bool.not_eq_true'];by_cases h12:f=1\/f=2
  ·rcases h12 with h1 | h2
   ·exact .inl (.inl (.inl (.inl h1)))
   ·exact .inl (.inl (.inl (.inr h2)))
  by_cases h0:AC (Af ds m).hd=0
  ·exact .inl (.inl (.inr h0))
  by_cases hE:A6 (Af ds m).hd (AO (.mk f n x ps))=false
  ·exact .inl (.inr hE)
  right;obtain ⟨k1,k2,k3,k4⟩:=Lx (Bi.1 hw).1.1 h hp h12;have hsc:=B6.1 (Df hc);have hsw:=Bi.1 (Dh ho hw);have htx:Cq (Af ds m).hd=Cq (AO (.mk f n x ps)):=by
   have:A6 (Af ds m).hd (AO (.mk f n x ps))=true:=by simpa using hE
   revert this;generalize (Af ds m).hd=a;generalize AO (.mk f n x ps)=b;obtain ⟨a1,a2,a3,a4⟩:=a;obtain ⟨b1,b2,b3,b4⟩:=b;simp only [A6,Cq,Bool.and_eq_true,beq_iff_eq];exact λh=>h.2
  have hks:=(hsc.2.1 h0).2;rw [htx,Dz] at hks;have hl:ps.length=(Af ds m).ks.length:=by rw [<- k2,<- hks,List.length_map]
  refine ⟨by omega,?_⟩;have key:∀(qs:List Ty) (l:List Mi),(∀q∈qs,q∈ps)->(∀k∈l,Hb ds N k=true/\DF ds k)->Ck ds (l.map Mi.ty) qs=true->B7 qs=true->SF ds qs l=true:=by
   intro qs
   induction qs with
   | nil=>intro l _ _ _ _;simp [SF]
   | cons q r ih =>
    intro l hq hl h1 h2;cases l with
    | nil=>simp [SF]
    | cons k l =>
     simp only [List.map_cons,Ck,B7,Bool.and_eq_true,SF] at *;have:=List.sizeOf_lt_of_mem (hq q (by simp));exact ⟨NZ ho q (hl k (by simp)).1 (hl k (by simp)).2 h1.1 h2.1,ih l (λy hy=>hq y (by simp [hy])) (λy hy=>hl y (by simp [hy])) h1.2 h2.2⟩
  exact key ps _ (λq hq=>hq) (λk hk=>⟨hsw.2.2 k hk,hsc.2.2 k hk⟩) (by rw [hks];exact k3) k4
termination_by p=>SizeOf.sizeOf p
decreasing_by
 simp_wf;omega
structure Ask (ds:List Dt) (N:Nat) (p:Ty) (m:Mi) (path:List Int) (h:Ty):Prop where
 ok:Jc ds m path
 prt:Bn h=[]
 wf:∀is,Hb ds (N+1) (A7 ds m path h is)=true
 coh:∀is,DF ds (A7 ds m path h is)
 typ:∀is,(A7 ds m path h is).ty=m.ty
 hgt:∀is,GY (A7 ds m path h is)<=max (GY m) (path.length+2)
 less:∀is,W1 ds p (A7 ds m path h is)<W1 ds p m
 stl:∀is c,stl ds m c->stl ds (A7 ds m path h is) (A7 ds c path h is)
mutual
theorem Tf {ds:List Dt} {N M:Nat} (h:N<=M):∀m:Mi,Hb ds N m=true->Hb ds M m=true
 | .mk ty nt hd ks,hw=>by
  simp only [Hb,Bool.and_eq_true,decide_eq_true_eq] at hw ⊢;obtain ⟨⟨⟨⟨a,b⟩,c⟩,d⟩,e⟩:=hw;exact ⟨⟨⟨⟨a,b⟩,by omega⟩,d⟩,Ue h ks e⟩
theorem Ue {ds:List Dt} {N M:Nat} (h:N<=M):∀l:List Mi,W3 ds N l=true->W3 ds M l=true
 | [],_=>rfl
 | k::r,hw=>by
  simp only [W3,Bool.and_eq_true] at hw ⊢;exact ⟨Tf h k hw.1,Ue h r hw.2⟩
end
theorem Su {ds:List Dt}:∀{ps:List Ty} {l:List Mi} {i:Int},(AY ds i ps l).1=2->∃(j:Nat) (p:Ty) (k:Mi),ps[j]?=some p/\l[j]?=some k/\(Aw ds p k).1=2/\(AY ds i ps l).2.1=(i+j)::(Aw ds p k).2.1/\(AY ds i ps l).2.2=(Aw ds p k).2.2
 | [],l,i,h=>by simp [AY] at h
 | p::r,[],i,h=>by simp [AY] at h
 | p::r,k::ks,i,h=>by
  simp only [AY] at h ⊢;by_cases h1:(Aw ds p k).1=1
  ·rw [if_pos h1] at h;obtain ⟨j,q,m,a,b,c,d,e⟩:=Su h;exact ⟨j+1,q,m,by simpa using a,by simpa using b,c,by rw [if_pos h1,d];congr 1;omega,by rw [if_pos h1,e]⟩
  ·rw [if_neg h1] at h;exact ⟨0,p,k,rfl,rfl,h,by rw [if_neg h1];simp,by rw [if_neg h1]⟩
theorem XY {ds:List Dt}:∀{ps:List Ty} {l:List Mi} {j:Nat} {p:Ty} {k k':Mi},ps[j]?=some p->l[j]?=some k->W1 ds p k'<W1 ds p k->Oq ds ps (l.set j k')<Oq ds ps l
 | [],l,j,p,k,k',h,_,_=>by simp at h
 | q::r,[],j,p,k,k',_,h,_=>by simp at h
 | q::r,a::l,0,p,k,k',h1,h2,h3=>by
  simp at h1 h2;subst h1;subst h2;simp only [List.set_cons_zero,Oq];omega
 | q::r,a::l,j+1,p,k,k',h1,h2,h3=>by
  have:=XY (ds:=ds) (by simpa using h1) (by simpa using h2) h3;simp only [List.set_cons_succ,Oq];omega
theorem Iy {α:Type} {l:List α} {j:Nat} {a x:α} (h:x∈l.set j a):x∈l\/x=a:=List.mem_or_eq_of_mem_set h
theorem Ja {ds:List Dt}:∀{l m:List Ty} {i:Nat} {a p:Ty},Ck ds l m=true->l[i]?=some a->m[i]?=some p->Cr ds a p=true
 | [],_,i,a,p,_,ha,_=>by simp at ha
 | _::_,[],i,a,p,_,_,hp=>by simp at hp
 | x::l,y::m,0,a,p,h,ha,hp=>by simp only [Ck,Bool.and_eq_true] at h;simp at ha hp;subst ha;subst hp;exact h.1
 | x::l,y::m,i+1,a,p,h,ha,hp=>by simp only [Ck,Bool.and_eq_true] at h;exact Ja h.2 (by simpa using ha) (by simpa using hp)
theorem NF {l:List Ty} {i:Nat} {p:Ty} (h:B7 l=true) (hp:l[i]?=some p):BB p=true:=by
 induction l generalizing i with
 | nil=>simp at hp
 | cons a r ih =>
  simp only [B7,Bool.and_eq_true] at h;cases i with
  | zero=>simp at hp;subst hp;exact h.1
  | succ i=>exact ih h.2 (by simpa using hp)
theorem Jp {a b:Ty} (h:A6 a b=true):Cq a=Cq b:=by
 obtain ⟨a1,a2,a3,a4⟩:=a;obtain ⟨b1,b2,b3,b4⟩:=b;simp only [A6,Cq,Bool.and_eq_true,beq_iff_eq] at *;exact h.2
theorem Nh {ds:List Dt} (ho:OkW ds):∀(p:Ty) {N:Nat} {m:Mi},Hb ds N m=true->DF ds m->Cr ds m.ty p=true->BB p=true->(Aw ds p m).1=2->Ask ds N p m (Aw ds p m).2.1 (Aw ds p m).2.2
 | .mk f n x ps,N,m,hw,hc,hpt,hps,hl=>by
  have hwi:=Bi.1 hw;have hci:=B6.1 hc;by_cases h12:f=1\/f=2
  ·exfalso;simp only [Aw,if_pos h12] at hl;cases hl
  obtain ⟨k1,k2,k3,k4⟩:=Lx hwi.1.1 hpt hps h12;by_cases hA:AC (Af ds m).hd=0/\BH (Af ds m).nt (AO (.mk f n x ps))=false
  ·have e:Aw ds (.mk f n x ps) m=(2,[],AO (.mk f n x ps)):=by simp only [Aw,if_neg h12,if_pos hA]
   have hu:W1 ds (.mk f n x ps) m=1+Ah ps:=by simp only [W1,if_neg h12,if_pos hA.1,hA.2];rfl
   rw [e];obtain ⟨hA1,hA2⟩:=hA;have hset:Af ds m=m:=by
    rcases CK (ds:=ds) m with h | ⟨hh,h,h1,h2⟩
    ·exact h
    ·rw [h2] at hA1;exact absurd hA1 (Bw (D3 h1).1).2
   rw [hset] at hA1 hA2;generalize hH:AO (.mk f n x ps)=h at *;have hfm:=OF k1;refine ⟨by simp [Jc],hfm.2,λis=>?_,λis=>?_,λis=>?_,λis=>?_,λis=>?_,λis c hs=>?_⟩
   ·cases is
    ·simp only [A7];exact Bi.2 ⟨⟨hwi.1.1,hwi.1.2.1,by simp [Mi.nt] at *;exact hwi.1.2.2⟩,hwi.2.1,λk hk=>Tf (by omega) k (hwi.2.2 k hk)⟩
    ·simp only [A7];exact KZ ho hwi.1.1 hwi.2.1.2 hfm.2
   ·cases is
    ·simp only [A7];exact B6.2 hci
    ·simp only [A7];exact Nc k1
   ·cases is <;> rfl
   ·cases is
    ·simp only [A7,Gc,Mi.ks];omega
    ·simp only [A7];have:=S9 ds m h;omega
   ·rw [hu];cases is
    ·simp only [A7,W1,if_neg h12,hH];rcases CK (ds:=ds) (.mk m.ty (m.nt++[h]) m.hd m.ks) with e | ⟨hh,y,y1,y2⟩
     ·rw [e];have hh0:AC (Mi.mk m.ty (m.nt++[h]) m.hd m.ks).hd=0:=hA1;rw [if_pos hh0,if_pos (by simp [Mi.nt,BH,X1])];omega
     ·rw [y2];have hy:=D3 y1;rw [if_neg (show ¬AC (AZ ds (.mk m.ty (m.nt++[h]) m.hd m.ks) y).hd=0 from (Bw hy.1).2)];have hne:A6 y h=false:=by
       have:A6 h y=false:=by
        have h2:=hy.2;simp only [BH,Mi.nt,List.any_append,List.any_cons,List.any_nil,Bool.or_false,Bool.or_eq_false_iff] at h2;exact h2.2
       rw [GH];exact this
      rw [if_pos (show A6 (AZ ds (.mk m.ty (m.nt++[h]) m.hd m.ks) y).hd h=false from hne)];omega
    ·simp only [A7,W1,if_neg h12,hH];rw [C2 (show AC (AZ ds m h).hd≠0 from hfm.1),if_neg (show ¬AC (AZ ds m h).hd=0 from hfm.1)];have:=W4 ds ps (AZ ds m h).ks
     split <;> omega
   ·have hty:=mC hs;cases is
    ·simp only [A7];obtain ⟨s,s1,s2,s3,s4,s5⟩:=He.1 hs;have:s=m:=by rcases s1 with rfl | rfl;rfl;exact hset
     subst this;exact He.2 ⟨_,.inl rfl,s2,by show s.nt++[h]=c.nt++[h];rw [s3],s4,s5⟩
    ·simp only [A7];rw [Vn hty];exact E0 ds _
  ·have hB:AC (Af ds m).hd≠0/\A6 (Af ds m).hd (AO (.mk f n x ps))=true/\Aw ds (.mk f n x ps) m=AY ds 0 ps (Af ds m).ks:=by
    simp only [Aw,if_neg h12,if_neg hA] at hl ⊢;by_cases hC:AC (Af ds m).hd=0\/A6 (Af ds m).hd (AO (.mk f n x ps))=false
    ·rw [if_pos hC] at hl;cases hl
    ·rw [if_neg hC];exact ⟨λh=>hC (.inl h),by cases hb:A6 (Af ds m).hd (AO (.mk f n x ps)) with | true=>rfl | false=>exact absurd (.inr hb) hC,rfl⟩
   obtain ⟨hB1,hB2,hB3⟩:=hB;rw [hB3] at hl ⊢;obtain ⟨j,q,k,j1,j2,j3,j4,j5⟩:=Su hl;rw [j4,j5,Int.zero_add];have hsw:=Dh ho hw;have hswi:=Bi.1 hsw;have hsc:=Df (ds:=ds) hc;have hsci:=B6.1 hsc;have hkm:=List.mem_of_getElem? j2;have hks:=(hsci.2.1 hB1).2;rw [Jp hB2,Dz] at hks;have hkt:(AK ds m.ty (Cq (AO (.mk f n x ps)))).1[j]?=some k.ty:=by rw [<- hks];simp [j2]
   have:=List.sizeOf_lt_of_mem (List.mem_of_getElem? j1);have A:=Nh ho q (hswi.2.2 k hkm) (hsci.2.2 k hkm) (Ja k3 hkt j1) (NF k4 j1) j3;generalize (Aw ds q k).2.1=path at *;generalize (Aw ds q k).2.2=h at *;have eS:∀is,A7 ds m ((j:Int)::path) h is = .mk (Af ds m).ty (Af ds m).nt (Af ds m).hd ((Af ds m).ks.set j (A7 ds k path h is)):=λis=>by
    simp only [A7,Int.toNat_natCast,j2]
   have hjl:=(List.getElem?_eq_some_iff.1 j2).1;refine ⟨⟨by omega,k,by simpa using j2,A.ok⟩,A.prt,λis=>?_,λis=>?_,λis=>?_,λis=>?_,λis=>?_,λis c hs=>?_⟩
   ·rw [eS];refine Bi.2 ⟨⟨hswi.1.1,by simpa [Mi.ks] using hswi.1.2.1,by have:=hswi.1.2.2;show (Af ds m).nt.length<=N+1;omega⟩,hswi.2.1,λy hy=>?_⟩;rcases Iy hy with hy | rfl
    ·exact Tf (by omega) y (hswi.2.2 y hy)
    ·exact A.wf is
   ·rw [eS];refine B6.2 ⟨λh0=>absurd h0 hB1,λ_=>⟨(hsci.2.1 hB1).1,?_⟩,λy hy=>?_⟩
    ·show ((Af ds m).ks.set j (A7 ds k path h is)).map Mi.ty=(AK ds (Af ds m).ty (Cq (Af ds m).hd)).1;rw [<- (hsci.2.1 hB1).2];simp only [List.map_set,A.typ];apply List.ext_getElem?;intro i;rw [List.getElem?_set]
     split
     ·rename_i e;subst e;rw [if_pos (by simpa using hjl)];simp [j2]
     ·rfl
    ·rcases Iy hy with hy | rfl
     ·exact hsci.2.2 y hy
     ·exact A.coh is
   ·rw [eS];exact Dz ds m
   ·rw [eS,Gc];have h1:=NT ds m;have h2:FT ((Af ds m).ks.set j (A7 ds k path h is))<=max (GY m) (path.length+3)-1:=Qu.2 λy hy=>by
     rcases Iy hy with hy | rfl
     ·have:=LF hy;omega
     ·have:=A.hgt is;have:=LF hkm;omega
    simp only [Mi.ks,List.length_cons] at *;omega
   ·rw [eS];have e1:W1 ds (.mk f n x ps) m=Oq ds ps (Af ds m).ks:=by
     simp only [W1,if_neg h12,if_neg hB1,hB2];rfl
    have hB2':A6 (Mi.mk (Af ds m).ty (Af ds m).nt (Af ds m).hd ((Af ds m).ks.set j (A7 ds k path h is))).hd (AO (.mk f n x ps))=true:=hB2;have e2:W1 ds (.mk f n x ps) (.mk (Af ds m).ty (Af ds m).nt (Af ds m).hd ((Af ds m).ks.set j (A7 ds k path h is)))=Oq ds ps ((Af ds m).ks.set j (A7 ds k path h is)):=by
     simp only [W1,if_neg h12];rw [C2 (show AC (Mi.mk (Af ds m).ty (Af ds m).nt (Af ds m).hd ((Af ds m).ks.set j (A7 ds k path h is))).hd≠0 from hB1),if_neg (show ¬AC (Mi.mk (Af ds m).ty (Af ds m).nt (Af ds m).hd ((Af ds m).ks.set j (A7 ds k path h is))).hd=0 from hB1),hB2'];rfl
    rw [e1,e2];exact XY j1 j2 (A.less is)
   ·obtain ⟨t1,t2,t3,t4⟩:=IU hc hs;obtain ⟨u1,u2⟩:=Gy.1 t4;obtain ⟨kc,hkc⟩:∃kc,(Af ds c).ks[j]?=some kc:=⟨_,List.getElem?_eq_getElem (by omega)⟩
    have eC:A7 ds c ((j:Int)::path) h is = .mk (Af ds c).ty (Af ds c).nt (Af ds c).hd ((Af ds c).ks.set j (A7 ds kc path h is)):=by
     simp only [A7,Int.toNat_natCast,hkc]
    rw [eS,eC];refine He.2 ⟨_,.inl rfl,t1,t2,t3,Gy.2 ⟨by simpa [Mi.ks] using u1,λi a b ha hb=>?_⟩⟩;change ((Af ds m).ks.set j (A7 ds k path h is))[i]?=some a at ha;change ((Af ds c).ks.set j (A7 ds kc path h is))[i]?=some b at hb;rw [List.getElem?_set] at ha hb;by_cases e:j=i
    ·subst e;rw [if_pos rfl,if_pos hjl] at ha;rw [if_pos rfl,if_pos (by omega)] at hb;cases ha;cases hb;exact A.stl is kc (u2 j k kc j2 hkc)
    ·rw [if_neg e] at ha hb;exact u2 i a b ha hb
termination_by p=>SizeOf.sizeOf p
decreasing_by
 simp_wf;omega
def Ir (ds:List Dt) (t:Ty) (l:List (Ty×Int)):Prop:=∀x∈l,Cr ds t x.1=true/\BB x.1=true/\Ai x.1<=12
def EW (l:List (Ty×Int)):Nat:=(l.map λx=>Ai x.1+1).sum
def II (ds:List Dt) (m:Mi):List (Ty×Int)->Nat
 | []=>0
 | (p,_)::r=>W1 ds p m+1+EW r
theorem Jj (ds:List Dt) (m:Mi) (l:List (Ty×Int)):II ds m l<=EW l:=by
 cases l with
 | nil=>simp [II,EW]
 | cons x r =>
  obtain ⟨p,b⟩:=x;have:=kP ds p m;simp only [II,EW,List.map_cons,List.sum_cons];omega
def Ny (ds:List Dt) (t:Ty) (v:Ty):Prop:=Ki ds t v=true/\ET v=true/\Ai v<=1000000000000
theorem Tk {ds:List Dt} (a b:Option Ty):Hg ds a b=a\/Hg ds a b=b:=by
 cases a with
 | none=>exact .inr rfl
 | some a =>
  cases b with
  | none=>exact .inl rfl
  | some b=>simp only [Hg];split <;> simp
structure MOk (ds:List Dt) (t:Ty) (N:Nat) (m:Mi):Prop where
 wf:Hb ds N m=true
 coh:DF ds m
 typ:m.ty=t
 hgt:GY m<=14
theorem MOk.split {ds:List Dt} (ho:OkW ds) {t:Ty} {N:Nat} {m:Mi} (h:MOk ds t N m) {p:Ty} (h1:Cr ds t p=true) (h2:BB p=true) (h3:Ai p<=12) (hl:(Aw ds p m).1=2) (is:Bool):MOk ds t (N+1) (A7 ds m (Aw ds p m).2.1 (Aw ds p m).2.2 is):=by
 have A:=Nh ho p h.wf h.coh (by rw [h.typ];exact h1) h2 hl;have hp:=Qa ds p m;exact ⟨A.wf is,A.coh is,by rw [A.typ,h.typ],by have:=A.hgt is;have:=h.hgt;omega⟩
theorem MOk.least {ds:List Dt} (ho:OkW ds) {t:Ty} {N:Nat} (hN:N<=1000000) {m:Mi} (h:MOk ds t N m):∃r,fA ds m=some r/\∀v,r=some v->Ny ds t v:=by
 obtain ⟨r,r1,r2⟩:=ZQ ho hN 14 m h.wf h.coh h.hgt 1000 (by omega);refine ⟨r,r1,λv hv=>?_⟩;obtain ⟨a,b,c⟩:=r2 v hv;exact ⟨by rw [<- h.typ];exact b,c,by omega⟩
theorem Ij {ds:List Dt} (ho:OkW ds) (t:Ty):∀(f N:Nat) (m:Mi) (l:List (Ty×Int)),N+f<=1000000->MOk ds t N m->Ir ds t l->II ds m l<f->∃r,Cj ds f m l=some r/\∀v,r=some v->Ny ds t v:=by
 intro f
 induction f with
 | zero=>intro N m l _ _ _ h;omega
 | succ f ih =>
  intro N m l hN hm hr hf;cases l with
  | nil=>exact hm.least ho (by omega)
  | cons x r =>
   obtain ⟨p,b⟩:=x;obtain ⟨h1,h2,h3⟩:=hr (p,b) (by simp);simp only [II] at hf;simp only [Cj];by_cases hl:(Aw ds p m).1=2
   ·rw [if_pos hl];have A:=Nh ho p hm.wf hm.coh (by rw [hm.typ];exact h1) h2 hl;obtain ⟨x,x1,x2⟩:=ih (N+1) _ ((p,b)::r) (by omega) (hm.split ho h1 h2 h3 hl true) hr (by have:=A.less true;simp only [II];omega);obtain ⟨y,y1,y2⟩:=ih (N+1) _ ((p,b)::r) (by omega) (hm.split ho h1 h2 h3 hl false) hr (by have:=A.less false;simp only [II];omega);rw [x1,y1];refine ⟨Hg ds x y,rfl,λv hv=>?_⟩;rcases Tk (ds:=ds) x y with e | e
    ·exact x2 v (by rw [<- e];exact hv)
    ·exact y2 v (by rw [<- e];exact hv)
   ·rw [if_neg hl]
    split
    ·exact ih N m r (by omega) hm (λx hx=>hr x (by simp [hx])) (by have:=Jj ds m r;omega)
    ·exact ⟨none,rfl,λv hv=>by cases hv⟩
theorem PI {c:Cse} {t v:Ty} (ht:c.type=t) (h:Ny c.datas t v):Yu c v:=by subst ht;exact ⟨h.1,h.2.1,by have:=h.2.2;omega⟩
end Go.Hk
namespace Go.Hk
section
variable {P:Program} {n:Nat} {F:List Nat} {Q:DQ} {tt:TT} {env env':Env} {st st':St} {ids ids':List Nat} {k todo todo':List DI} {I:Imm} {μ:Mu} {w:World} {a:Act} {Pn:V->Prop} {d:D} {cx:Prop} {ob:List Prop}
end
end Go.Hk
namespace Go.Hk
open Go.Proofs
def FY (ds:List Dt) (m:Mi) (l:List (Ty×Int)):Option Ty:=(Cj ds 60 m l).getD none
theorem K6 {ds:List Dt} (ho:OkW ds) {t:Ty} {N:Nat} {m:Mi} {l:List (Ty×Int)} (hN:N<=999000) (hm:MOk ds t N m) (hr:Ir ds t l) (hc:EW l<60):Cj ds 60 m l=some (FY ds m l)/\∀v,FY ds m l=some v->Ny ds t v:=by
 obtain ⟨r,r1,r2⟩:=Ij ho t 60 N m l (by omega) hm hr (by have:=Jj ds m l;omega);have e:FY ds m l=r:=by simp only [FY,r1,Option.getD_some]
 rw [e];exact ⟨r1,r2⟩
def Ei (rows:List Ty) (row:Int):List (Ty×Int):=if row<0 then rows.map (·,(0:Int)) else (rows.take row.toNat).map (·,(0:Int))++(match rows[row.toNat]? with
 | some p=>[(p,1)]
 | none=>[])
def Dv (c:Cse) (m:Mi) (row:Int):Option Ty:=FY c.datas m (Ei c.rows row)
structure RowsOk (c:Cse):Prop where
 pat:∀p∈c.rows,Cr c.datas c.type p=true/\BB p=true/\Ai p<=12
 len:c.rows.length<=5
 sum:Ah c.rows<=30
theorem TL (a b:List (Ty×Int)):EW (a++b)=EW a+EW b:=by simp [EW]
theorem SS (l:List Ty) (b:Int):EW (l.map (·,b))=Ah l+l.length:=by
 induction l with
 | nil=>rfl
 | cons p r ih=>simp only [List.map_cons,EW,List.sum_cons,Ah,List.length_cons] at *;omega
theorem XW {c:Cse} (h:RowsOk c) (row:Int):Ir c.datas c.type (Ei c.rows row)/\EW (Ei c.rows row)<60:=by
 have hl:=h.len;have hs:=h.sum;unfold Ei
 split
 ·refine ⟨λx hx=>?_,by rw [SS];omega⟩;obtain ⟨p,hp,rfl⟩:=List.mem_map.1 hx;exact h.pat p hp
 ·constructor
  ·intro x hx;rcases List.mem_append.1 hx with hx | hx
   ·obtain ⟨p,hp,rfl⟩:=List.mem_map.1 hx;exact h.pat p (List.mem_of_mem_take hp)
   ·split at hx
    ·rename_i p hp;rw [List.mem_singleton.1 hx];exact h.pat p (List.mem_of_getElem? hp)
    ·cases hx
  ·rw [TL,SS];have h1:Ah (c.rows.take row.toNat)<=30:=by
    have e:=Bo (c.rows.take row.toNat) (c.rows.drop row.toNat);rw [List.take_append_drop] at e;omega
   have h2:(c.rows.take row.toNat).length<=5:=by rw [List.length_take];omega
   have h3:EW (match c.rows[row.toNat]? with | some p=>[(p,1)] | none=>[])<=13:=by
    split
    ·rename_i p hp;have:=(h.pat p (List.mem_of_getElem? hp)).2.2;simp [EW];omega
    ·simp [EW]
   omega
def Me (c:Cse) (p q:Ty):Option Ty:=FY c.datas (An c.type) [(p,1),(q,1)]
def Bs (c:Cse):Nat->List Int
 | 0=>[]
 | i+1=>Bs c i++(if (Dv c (An c.type) i).isSome then [] else [(i:Int)])
theorem IP (c:Cse):∀i,(Bs c i).length<=i
 | 0=>Nat.le_refl _
 | i+1=>by
  have:=IP c i;simp only [Bs,List.length_append]
  split <;> simp <;> omega
mutual
theorem Uz {ds:List Dt} (ho:OkW ds) {N:Nat}:∀(p:Ty) {m:Mi},Hb ds N m=true->DF ds m->Hb ds N (E3 ds p m)=true/\DF ds (E3 ds p m)/\(E3 ds p m).ty=m.ty/\GY (E3 ds p m)<=max (GY m) (Ai p+2)
 | .mk f n x ps,m,hw,hc=>by
  have hsw:=Dh ho hw;have hsc:=Df (ds:=ds) hc;have hsh:=NT ds m;have hst:=Dz ds m;simp only [E3,Ai]
  split
  ·exact ⟨hw,hc,rfl,by omega⟩
  ·split
   ·exact ⟨hsw,hsc,hst,by omega⟩
   ·rename_i h1 h2;generalize Af ds m=s at *;obtain ⟨ty,nt,hd,ks⟩:=s;obtain ⟨a1,a2,a3⟩:=RS ho ps (l:=ks) (λk hk=>⟨(Bi.1 hsw).2.2 k hk,(B6.1 hsc).2.2 k hk⟩);have hlen:(CV ds ps ks).length=ks.length:=by simpa using congrArg List.length a2
    have w:=Bi.1 hsw;have cc:=B6.1 hsc;rw [Gc] at hsh;simp only [Mi.ty,Mi.nt,Mi.hd,Mi.ks] at w cc hsh hst h2 ⊢;refine ⟨Bi.2 ⟨⟨w.1.1,by show (CV ds ps ks).length<=3;rw [hlen];exact w.1.2.1,w.1.2.2⟩,w.2.1,λk hk=>(a1 k hk).1⟩,B6.2 ⟨λh=>absurd (.inl h) h2,λh=>⟨(cc.2.1 h).1,by show (CV ds ps ks).map Mi.ty=_;rw [a2];exact (cc.2.1 h).2⟩,λk hk=>(a1 k hk).2⟩,hst,?_⟩;rw [Gc];simp only [Mi.ks];omega
theorem RS {ds:List Dt} (ho:OkW ds) {N:Nat}:∀(ps:List Ty) {l:List Mi},(∀k∈l,Hb ds N k=true/\DF ds k)->(∀k∈CV ds ps l,Hb ds N k=true/\DF ds k)/\(CV ds ps l).map Mi.ty=l.map Mi.ty/\FT (CV ds ps l)<=max (FT l) (Ah ps+2)
 | [],l,h=>⟨by simpa only [CV] using h,by simp only [CV],by simp only [CV];omega⟩
 | p::r,[],h=>⟨by simpa only [CV] using h,by simp only [CV],by simp [CV,FT]⟩
 | p::r,k::ks,h=>by
  obtain ⟨b1,b2,b3,b4⟩:=Uz ho p (h k (by simp)).1 (h k (by simp)).2;obtain ⟨c1,c2,c3⟩:=RS ho r (l:=ks) (λy hy=>h y (by simp [hy]));simp only [CV]
  split
  ·refine ⟨λy hy=>?_,by simp only [List.map_cons,b3,c2],by simp only [FT,Ah];omega⟩;rcases List.mem_cons.1 hy with rfl | hy
   ·exact ⟨b1,b2⟩
   ·exact c1 y hy
  ·refine ⟨λy hy=>?_,by simp only [List.map_cons,b3],by simp only [FT,Ah];omega⟩;rcases List.mem_cons.1 hy with rfl | hy
   ·exact ⟨b1,b2⟩
   ·exact h y (by simp [hy])
end
mutual
theorem KF (ds:List Dt):∀(p:Ty) (m:Mi),(Aw ds p m).1=0\/(Aw ds p m).1=1\/(Aw ds p m).1=2
 | .mk f n x ps,m=>by
  have h:=NL ds ps (Af ds m).ks 0;simp only [Aw]
  split
  ·exact .inr (.inl rfl)
  ·split
   ·exact .inr (.inr rfl)
   ·split
    ·exact .inl rfl
    ·exact h
theorem NL (ds:List Dt):∀(ps:List Ty) (l:List Mi) (i:Int),(AY ds i ps l).1=0\/(AY ds i ps l).1=1\/(AY ds i ps l).1=2
 | [],l,i=>.inr (.inl (by simp only [AY]))
 | p::r,[],i=>.inr (.inl (by simp only [AY]))
 | p::r,k::ks,i=>by
  have h1:=KF ds p k;have h2:=NL ds r ks (i+1);simp only [AY]
  split
  ·exact h2
  ·exact h1
end
theorem MOk.see {ds:List Dt} (ho:OkW ds) {t:Ty} {N:Nat} {m:Mi} (h:MOk ds t N m) {p:Ty} (hp:Ai p<=12):MOk ds t N (E3 ds p m):=by
 obtain ⟨a,b,c,d⟩:=Uz ho p h.wf h.coh;have:=h.hgt;exact ⟨a,b,by rw [c,h.typ],by omega⟩
def KY (x:Ty×Int):V:=.iface (if x.2=1 then 124 else 182) (.agg (dTyc x.1))
def Ci (l:List (Ty×Int)):List (List V):=l.map λx=>[KY x]
@[simp] theorem wishVs_length (l:List (Ty×Int)):(Ci l).length=l.length:=by simp [Ci]
theorem Rh (a b:List (Ty×Int)):Ci (a++b)=Ci a++Ci b:=by simp [Ci]
theorem W2 {l:List (Ty×Int)} {i:Nat} {x:Ty×Int} (h:l[i]?=some x):(Ci l)[i]?=some [KY x]:=by simp [Ci,h]
theorem Ub (l:List (Ty×Int)) (i:Nat):(Ci l).drop i=Ci (l.drop i):=by simp [Ci,List.map_drop]
def FZ (ds:List Dt) (t v:Ty):Prop:=Ki ds t v=true/\CZ v=true
mutual
def KI (ds:List Dt):Mi->Ty->Prop
 | .mk ty nt hd ks,v=>FZ ds ty v/\(AC hd=0->BH nt v=false)/\(AC hd≠0->A6 hd v=true/\Eh ds ks (Bn v))
def Eh (ds:List Dt):List Mi->List Ty->Prop
 | [],vs=>vs=[]
 | _::_,[]=>False
 | k::r,v::vs=>KI ds k v/\Eh ds r vs
end
theorem BA {ds:List Dt} {m:Mi} {v:Ty}:KI ds m v↔FZ ds m.ty v/\(AC m.hd=0->BH m.nt v=false)/\(AC m.hd≠0->A6 m.hd v=true/\Eh ds m.ks (Bn v)):=by
 obtain ⟨a,b,c,d⟩:=m;simp only [KI,Mi.ty,Mi.nt,Mi.hd,Mi.ks]
theorem HX {ds:List Dt}:∀{ks:List Mi} {vs:List Ty},Eh ds ks vs↔ks.length=vs.length/\∀(i:Nat) k v,ks[i]?=some k->vs[i]?=some v->KI ds k v
 | [],vs=>by
  simp only [Eh,List.length_nil];constructor
  ·rintro rfl;exact ⟨rfl,λi k v h=>by simp at h⟩
  ·rintro ⟨h,_⟩;exact List.eq_nil_of_length_eq_zero h.symm
 | _::_,[]=>by simp [Eh]
 | k::r,v::vs=>by
  simp only [Eh,HX (ks:=r) (vs:=vs),List.length_cons,Nat.add_right_cancel_iff];constructor
  ·rintro ⟨h1,h2,h3⟩;refine ⟨h2,λi a b ha hb=>?_⟩;cases i with
   | zero=>simp at ha hb;subst ha;subst hb;exact h1
   | succ i=>exact h3 i a b (by simpa using ha) (by simpa using hb)
  ·rintro ⟨h1,h2⟩;exact ⟨h2 0 k v rfl rfl,h1,λi a b ha hb=>h2 (i+1) a b (by simpa using ha) (by simpa using hb)⟩
theorem Jq {a b c:Ty} (h1:A6 a b=true):A6 a c=A6 b c:=by
 obtain ⟨a1,a2,a3,a4⟩:=a;obtain ⟨b1,b2,b3,b4⟩:=b;obtain ⟨c1,c2,c3,c4⟩:=c;simp only [A6,Bool.and_eq_true,beq_iff_eq] at h1;obtain ⟨⟨rfl,rfl⟩,rfl⟩:=h1;rfl
theorem Gr {nt:List Ty} {a b:Ty} (h:A6 a b=true):BH nt a=BH nt b:=by
 simp only [BH];congr 1;funext x;rw [GH x a,GH x b,Jq h]
theorem Je:∀l:List Ty,CG l=l.all CZ
 | []=>rfl
 | t::r=>by simp [CG,Je r]
theorem PK {ds:List Dt}:∀{l vs:List Ty},l.length=vs.length->(GW ds l vs=true↔∀(i:Nat) a v,l[i]?=some a->vs[i]?=some v->Ki ds a v=true)
 | [],[],_=>by simp [GW]
 | a::r,v::vs,h=>by
  simp only [GW,Bool.and_eq_true,PK (l:=r) (vs:=vs) (by simpa using h)];constructor
  ·rintro ⟨h1,h2⟩ i x y hx hy;cases i with
   | zero=>simp at hx hy;subst hx;subst hy;exact h1
   | succ i=>exact h2 i x y (by simpa using hx) (by simpa using hy)
  ·intro h;exact ⟨h 0 a v rfl rfl,λi x y hx hy=>h (i+1) x y (by simpa using hx) (by simpa using hy)⟩
 | [],_::_,h=>by simp at h
 | _::_,[],h=>by simp at h
theorem LE {ds:List Dt} {t v:Ty}:KI ds (An t) v↔FZ ds t v:=by
 rw [BA];exact ⟨λh=>h.1,λh=>⟨h,λ_=>rfl,λh=>absurd rfl h⟩⟩
theorem aI {ds:List Dt} {l vs:List Ty}:Eh ds (l.map An) vs↔l.length=vs.length/\∀(i:Nat) a v,l[i]?=some a->vs[i]?=some v->FZ ds a v:=by
 rw [HX,List.length_map];constructor
 ·rintro ⟨h1,h2⟩;exact ⟨h1,λi a v ha hv=>LE.1 (h2 i _ v (by simp [ha]) hv)⟩
 ·rintro ⟨h1,h2⟩;refine ⟨h1,λi k v hk hv=>?_⟩;simp only [List.getElem?_map,Option.map_eq_some_iff] at hk;obtain ⟨a,ha,rfl⟩:=hk;exact LE.2 (h2 i a v ha hv)
theorem D9 {ds:List Dt} {t v:Ty} (h:FZ ds t v):(AK ds t (Cq v)).1.length=(Bn v).length/\∀(i:Nat) a u,(AK ds t (Cq v)).1[i]?=some a->(Bn v)[i]?=some u->FZ ds a u:=by
 obtain ⟨so,m,x,qs⟩:=t;obtain ⟨f,n,y,ps⟩:=v;obtain ⟨h1,h2⟩:=h;rw [H7] at h1;simp only [CZ,Bool.and_eq_true,Je,List.all_eq_true] at h2;obtain ⟨h2,h3⟩:=h2;simp only [Kh] at h1;simp only [Cq,Bn];have hz:so≠8->ps=[]:=λh8=>by
  have hf:f≠4:=by
   intro e;subst e
   repeat' (split at h1)
   all_goals first | (simp at h1;done) | (exact absurd (by assumption) h8)
  simp only [FS] at h3
  repeat' (split at h3)
  all_goals first | (exact absurd (by assumption) hf) | (simp only [Bool.and_eq_true,beq_iff_eq] at h3;exact List.eq_nil_of_length_eq_zero (by omega)) | cases h3
 by_cases h8:so=8
 ·subst h8;rw [if_neg (by decide),if_neg (by decide),if_neg (by decide),if_pos rfl] at h1;simp only [Bool.and_eq_true,decide_eq_true_eq] at h1;obtain ⟨_,h4,_,h5⟩:=h1;exact ⟨h4,λi a u ha hu=>⟨(PK h4).1 h5 i a u ha hu,h2 u (List.mem_of_getElem? hu)⟩⟩
 ·rw [Fv (t:=.mk so m x qs) h8,hz h8];exact ⟨rfl,λi a u ha=>by simp at ha⟩
theorem aK {h v:Ty} (e:A6 h v=true):Cq h=Cq v:=Jp e
theorem Jm {ds:List Dt} {m:Mi} {h v:Ty} (hh:AC h≠0):KI ds (AZ ds m h) v↔FZ ds m.ty v/\A6 h v=true:=by
 rw [BA];constructor
 ·rintro ⟨h1,_,h2⟩;exact ⟨h1,(h2 hh).1⟩
 ·rintro ⟨h1,h2⟩;refine ⟨h1,λe=>absurd e hh,λ_=>⟨h2,?_⟩⟩;show Eh ds ((AK ds m.ty (Cq h)).1.map An) _;rw [aI,aK h2];exact D9 h1
theorem PJ {ds:List Dt} {t v:Ty} (hn:AB ds t=true) (h:FZ ds t v) (hs:AC t=2\/AC t=3\/AC t=8):∃x,x∈A3 ds t/\A6 x v=true:=by
 obtain ⟨so,m,x,qs⟩:=t;obtain ⟨f,n,y,ps⟩:=v;obtain ⟨h1,h2⟩:=h;rw [H7] at h1;simp only [CZ,Bool.and_eq_true] at h2;obtain ⟨_,h3⟩:=h2;simp only [AC] at hs;simp only [Kh] at h1;simp only [FS] at h3;rcases hs with rfl | rfl | rfl
 ·have hf:f=2:=by simpa using h1
  subst hf;rw [if_neg (by decide),if_pos rfl] at h3;simp only [Bool.and_eq_true,beq_iff_eq,Fp,decide_eq_true_eq] at h3;obtain ⟨⟨h3,rfl⟩,_⟩:=h3;have:n=0\/n=1:=by omega
  rcases this with rfl | rfl
  ·exact ⟨.mk 2 0 [] [],by simp [A3],by simp [A6]⟩
  ·exact ⟨.mk 2 1 [] [],by simp [A3],by simp [A6]⟩
 ·have hf:f=3:=by simpa using h1
  subst hf;rw [if_neg (by decide),if_neg (by decide),if_pos (.inl rfl)] at h3;simp only [Bool.and_eq_true,beq_iff_eq] at h3;obtain ⟨⟨rfl,rfl⟩,_⟩:=h3;exact ⟨.mk 3 0 [] [],by simp [A3],by simp [A6]⟩
 ·rw [if_neg (by decide),if_neg (by decide),if_neg (by decide),if_pos rfl] at h1;simp only [Bool.and_eq_true,decide_eq_true_eq] at h1;obtain ⟨rfl,_,h4,_⟩:=h1;rw [if_neg (by decide),if_neg (by decide),if_neg (by decide),if_pos rfl] at h3;simp only [Bool.and_eq_true,beq_iff_eq] at h3;obtain ⟨⟨rfl,_⟩,_⟩:=h3;have hc:0<=(B4 ds (.mk 8 m x qs) y).2:=by
   simp only [AK] at h4;by_cases e:0<=(B4 ds (.mk 8 m x qs) y).2
   ·exact e
   ·simp [e] at h4
  obtain ⟨_,d,hd⟩:=C5 hn 8 m x qs rfl rfl;simp only [B4,if_true,hd] at hc;obtain ⟨c1,c2⟩:=GS hc;refine ⟨.mk 4 0 y [],?_,by simp [A6]⟩;rw [show A3 ds (.mk 8 m x qs)=(match ds[(AR x 0 ds).toNat]? with | some d=>d.cons.map λc=>Ty.mk 4 0 c.name [] | none=>[]) from rfl,hd];exact List.mem_map.2 ⟨_,c1,by rw [c2]⟩
theorem Qv {ds:List Dt} {t h:Ty} (hh:h∈A3 ds t):AC t=2\/AC t=3\/AC t=8:=by
 obtain ⟨so,n,x,ps⟩:=t;simp only [A3,AC] at *
 split at hh
 ·exact .inl (by assumption)
 ·split at hh
  ·exact .inr (.inl (by assumption))
  ·split at hh
   ·exact .inr (.inr (by assumption))
   ·cases hh
theorem eY {ds:List Dt} {m:Mi} {h:Ty}:h∈Ht ds m↔h∈A3 ds m.ty/\BH m.nt h=false:=by
 simp only [Ht,List.mem_filter,Bool.not_eq_true']
theorem KH {ds:List Dt} {m:Mi} {v:Ty} (hn:AB ds m.ty=true):KI ds (Af ds m) v↔KI ds m v:=by
 rcases CK (ds:=ds) m with h | ⟨hh,h,h1,h2⟩
 ·rw [h]
 ·rw [h2,Jm (Bw (D3 h1).1).2,BA];have hl:=D3 h1;constructor
  ·rintro ⟨a,b⟩;exact ⟨a,λ_=>by rw [<- Gr b];exact hl.2,λe=>absurd hh e⟩
  ·rintro ⟨a,b,_⟩;refine ⟨a,?_⟩;obtain ⟨x,x1,x2⟩:=PJ hn a (Qv hl.1);have:x∈Ht ds m:=eY.2 ⟨x1,by rw [Gr x2];exact b hh⟩;rw [h1,List.mem_singleton] at this;rw [<- this];exact x2
mutual
def Y0 (ds:List Dt):Mi->Prop
 | .mk ty nt _ ks=>(∀h∈nt,MC ds ty h)/\eN ds ks
def eN (ds:List Dt):List Mi->Prop
 | []=>True
 | k::r=>Y0 ds k/\eN ds r
end
theorem UT (ds:List Dt):∀l:List Mi,eN ds l↔∀k∈l,Y0 ds k
 | []=>by simp [eN]
 | k::r=>by simp [eN,UT ds r]
theorem Ga {ds:List Dt} {m:Mi}:Y0 ds m↔(∀h∈m.nt,MC ds m.ty h)/\∀k∈m.ks,Y0 ds k:=by
 obtain ⟨ty,nt,hd,ks⟩:=m;simp only [Y0,UT,Mi.ty,Mi.nt,Mi.ks]
theorem US (ds:List Dt) (t:Ty):Y0 ds (An t):=Ga.2 ⟨λh hh=>by simp [An,Mi.nt] at hh,λk hk=>by simp [An,Mi.ks] at hk⟩
theorem PR (ds:List Dt) (m:Mi) (h:Ty):Y0 ds (AZ ds m h):=Ga.2 ⟨λx hx=>by simp [AZ,Mi.nt] at hx,λk hk=>by
 simp only [AZ,Mi.ks,List.mem_map] at hk;obtain ⟨t,_,rfl⟩:=hk;exact US ds t⟩
theorem WS {ds:List Dt} {m:Mi} (h:Y0 ds m):Y0 ds (Af ds m):=by
 rcases CK (ds:=ds) m with e | ⟨_,x,_,e⟩
 ·rw [e];exact h
 ·rw [e];exact PR ds m x
def KJ (ds:List Dt) (h:Ty):Mi->List Int->Prop
 | m,[]=>AC m.hd=0/\BH m.nt h=false/\MC ds m.ty h
 | m,i::p=>∃k,(Af ds m).ks[i.toNat]?=some k/\AC (Af ds m).hd≠0/\KJ ds h k p
theorem cY {ds:List Dt} {ks:List Mi} {vs:List Ty} {i:Nat} {k k':Mi} (hk:ks[i]?=some k) (hs:∀v,KI ds k' v->KI ds k v) (h:Eh ds (ks.set i k') vs):Eh ds ks vs:=by
 rw [HX] at h ⊢;obtain ⟨h1,h2⟩:=h;rw [List.length_set] at h1;refine ⟨h1,λj a v ha hv=>?_⟩;by_cases e:i=j
 ·subst e;rw [hk] at ha;cases ha;exact hs v (h2 i k' v (by rw [List.getElem?_set_self (List.getElem?_eq_some_iff.1 hk).1]) hv)
 ·exact h2 j a v (by rw [List.getElem?_set_ne e];exact ha) hv
theorem fD {ds:List Dt} {ks:List Mi} {vs:List Ty} {i:Nat} {k:Mi} (hk:ks[i]?=some k) (h:Eh ds ks vs):∃v,vs[i]?=some v/\KI ds k v/\∀k',KI ds k' v->Eh ds (ks.set i k') vs:=by
 obtain ⟨h1,h2⟩:=HX.1 h;have hi:=(List.getElem?_eq_some_iff.1 hk).1;obtain ⟨v,hv⟩:=Am (l:=vs) (i:=i) (by omega);refine ⟨v,hv,h2 i k v hk hv,λk' hk'=>HX.2 ⟨by rw [List.length_set];exact h1,λj a u ha hu=>?_⟩⟩;by_cases e:i=j
 ·subst e;rw [List.getElem?_set_self hi] at ha;cases ha;rw [hv] at hu;cases hu;exact hk'
 ·rw [List.getElem?_set_ne e] at ha;exact h2 j a u ha hu
theorem Us {ds:List Dt} (ho:OkW ds) {N:Nat} {h:Ty} (hh:AC h≠0):∀(path:List Int) {m:Mi} {v:Ty},Hb ds N m=true->KJ ds h m path ->
  (∀is,KI ds (A7 ds m path h is) v->KI ds m v)/\(KI ds m v->KI ds (A7 ds m path h true) v\/KI ds (A7 ds m path h false) v)
 | [],m,v,hw,⟨h1,h2,_⟩=>by
  refine ⟨λis=>?_,λhv=>?_⟩
  ·cases is with
   | true =>
    rw [show A7 ds m [] h true=AZ ds m h from rfl,Jm hh,BA];exact λ⟨a,b⟩=>⟨a,λ_=>by rw [<- Gr b];exact h2,λe=>absurd h1 e⟩
   | false =>
    rw [show A7 ds m [] h false = .mk m.ty (m.nt++[h]) m.hd m.ks from rfl,BA,BA];rintro ⟨a,b,c⟩;refine ⟨a,λe=>?_,λe=>absurd h1 e⟩;have:=b e;simp only [BH,Mi.nt,List.any_append,Bool.or_eq_false_iff] at this ⊢;exact this.1
  ·rw [BA] at hv;obtain ⟨a,b,_⟩:=hv;cases e:A6 h v with
   | true=>exact .inl (by rw [show A7 ds m [] h true=AZ ds m h from rfl,Jm hh];exact ⟨a,e⟩)
   | false =>
    right;rw [show A7 ds m [] h false = .mk m.ty (m.nt++[h]) m.hd m.ks from rfl,BA];refine ⟨a,λ_=>?_,λe=>absurd h1 e⟩;have hb:=b h1;simp only [BH,Mi.nt,List.any_append,Bool.or_eq_false_iff,List.any_cons,List.any_nil,Bool.or_false] at hb ⊢;exact ⟨hb,e⟩
 | i::p,m,v,hw,⟨k,hk,h1,h2⟩=>by
  have hn:=(Bi.1 hw).1.1;have hsw:=Dh ho hw;have ih:=λv=>Us ho hh p (v:=v) (lU hsw hk) h2;have es:∀is,A7 ds m (i::p) h is = .mk (Af ds m).ty (Af ds m).nt (Af ds m).hd ((Af ds m).ks.set i.toNat (A7 ds k p h is)):=λis=>by simp only [A7,hk]
  refine ⟨λis=>?_,λhv=>?_⟩
  ·rw [es,<- KH (m:=m) hn,BA,BA (m:=Af ds m)];simp only [Mi.ty,Mi.nt,Mi.hd,Mi.ks];rintro ⟨a,b,c⟩;refine ⟨a,b,λe=>⟨(c e).1,cY hk (λv=>(ih v).1 is) (c e).2⟩⟩
  ·rw [<- KH (m:=m) hn,BA] at hv;obtain ⟨a,b,c⟩:=hv;obtain ⟨c1,c2⟩:=c h1;obtain ⟨u,u1,u2,u3⟩:=fD hk c2;have key:∀is,KI ds (A7 ds k p h is) u->KI ds (A7 ds m (i::p) h is) v:=λis hi=>by
    rw [es,BA];exact ⟨a,λe=>absurd e h1,λ_=>⟨c1,u3 _ hi⟩⟩
   exact ((ih u).2 u2).imp (key true) (key false)
theorem PQ {ds:List Dt} {h:Ty} (is:Bool):∀(path:List Int) {m:Mi},Y0 ds m->KJ ds h m path->Y0 ds (A7 ds m path h is)
 | [],m,hm,⟨_,_,h3⟩=>by
  cases is with
  | true=>exact PR ds m h
  | false =>
   refine Ga.2 ⟨λx hx=>?_,(Ga.1 hm).2⟩;rcases List.mem_append.1 hx with hx | hx
   ·exact (Ga.1 hm).1 x hx
   ·rw [List.mem_singleton.1 hx];exact h3
 | i::p,m,hm,⟨k,hk,_,h2⟩=>by
  have hs:=Ga.1 (WS hm);simp only [A7,hk];refine Ga.2 ⟨hs.1,λx hx=>?_⟩;rcases Iy hx with hx | hx
  ·exact hs.2 x hx
  ·rw [hx];exact PQ is p (hs.2 k (List.mem_of_getElem? hk)) h2
mutual
theorem Y6 {ds:List Dt} (ho:OkW ds) {N:Nat}:∀(p:Ty) {m:Mi} {v:Ty},Hb ds N m=true->DF ds m->Cr ds m.ty p=true->BB p=true ->
  ((Aw ds p m).1=2->KJ ds (Aw ds p m).2.2 m (Aw ds p m).2.1) /\
  (KI ds m v->((Aw ds p m).1=1->(Bf p v).2=true)/\((Aw ds p m).1=0->(Bf p v).2=false))
 | .mk f n x ps,m,v,hw,hc,hp,hpp=>by
  have hn:=(Bi.1 hw).1.1;have hsw:=Dh ho hw;have hsc:=Df (ds:=ds) hc;by_cases h12:f=1\/f=2
  ·have e:Aw ds (.mk f n x ps) m=(1,[],zT):=by simp only [Aw,if_pos h12]
   rw [e];refine ⟨λh=>by simp at h,λ_=>⟨λ_=>?_,λh=>by simp at h⟩⟩;simp only [Bf];rcases h12 with rfl | rfl
   ·rw [if_pos rfl]
   ·rw [if_neg (by decide),if_pos rfl]
  obtain ⟨k1,k2,k3,k4⟩:=Lx hn hp hpp h12;have em:Bf (.mk f n x ps) v=if A6 (AO (.mk f n x ps)) v=false then ([],false) else By ps (Bn v):=by
   simp only [Bf,if_neg (λh=>h12 (.inl h)),if_neg (λh=>h12 (.inr h))]
  rw [em];have el:Aw ds (.mk f n x ps) m=if AC (Af ds m).hd=0/\BH (Af ds m).nt (AO (.mk f n x ps))=false then (2,[],AO (.mk f n x ps)) else
   if AC (Af ds m).hd=0\/A6 (Af ds m).hd (AO (.mk f n x ps))=false then (0,[],zT) else AY ds 0 ps (Af ds m).ks:=by simp only [Aw,if_neg h12]
  rw [el];rw [<- KH (m:=m) hn];have hst:=Dz ds m;have hse:=Ou (ds:=ds) m;have key:∀i:Int,AC (Af ds m).hd≠0->A6 (Af ds m).hd (AO (.mk f n x ps))=true->(AK ds m.ty (Cq (AO (.mk f n x ps)))).1=(Af ds m).ks.map Mi.ty:=λi h0 hE=>by
   have:=((B6.1 hsc).2.1 h0).2;rw [Jp hE,Dz] at this;exact this.symm
  have hs0:AC (Af ds m).hd=0->Af ds m=m:=λh0=>by
   rcases CK (ds:=ds) m with e | ⟨_,y,y1,y2⟩
   ·exact e
   ·rw [y2] at h0;exact absurd h0 (Bw (D3 y1).1).2
  generalize AO (.mk f n x ps)=h at *;by_cases h0:AC (Af ds m).hd=0
  ·cases hb:BH (Af ds m).nt h with
   | false =>
    rw [if_pos ⟨h0,rfl⟩];exact ⟨λ_=>by have e:=hs0 h0;rw [e] at h0 hb;exact ⟨h0,hb,k1⟩,λ_=>⟨λh=>by simp at h,λh=>by simp at h⟩⟩
   | true =>
    rw [if_neg (λh=>by cases h.2),if_pos (.inl h0)];refine ⟨λh=>by simp at h,λhv=>⟨λh=>by simp at h,λ_=>?_⟩⟩;have:=(BA.1 hv).2.1 h0;cases he:A6 h v with
    | false=>rfl
    | true=>rw [Gr he,this] at hb;cases hb
  ·rw [if_neg (λh=>h0 h.1)];cases hE:A6 (Af ds m).hd h with
   | false =>
    rw [if_pos (.inr rfl)];refine ⟨λh=>by simp at h,λhv=>⟨λh=>by simp at h,λ_=>?_⟩⟩;have hv2:=((BA.1 hv).2.2 h0).1;rw [Jq hv2,GH] at hE;rw [if_pos hE]
   | true =>
    rw [if_neg (λh=>by rcases h with h | h;exact h0 h;cases h)];have hks:=key 0 h0 hE;rw [hks] at k3;obtain ⟨q1,q2⟩:=Vd ho ps (l:=(Af ds m).ks) (i:=0) (λk hk=>⟨(Bi.1 hsw).2.2 k hk,(B6.1 hsc).2.2 k hk⟩) k3 k4;refine ⟨λhl=>?_,λhv=>?_⟩
    ·obtain ⟨j,k,j1,j2,j3⟩:=q1 hl;rw [j1];simp only [Int.zero_add];exact ⟨k,by simpa using j2,h0,j3⟩
    ·obtain ⟨hv1,hv2⟩:=(BA.1 hv).2.2 h0;have he:A6 h v=true:=by rw [<- Jq hE];exact hv1
     rw [if_neg (by rw [he];simp)];exact q2 (Bn v) hv2
theorem Vd {ds:List Dt} (ho:OkW ds) {N:Nat}:∀(ps:List Ty) {l:List Mi} {i:Int},(∀k∈l,Hb ds N k=true/\DF ds k)->Ck ds (l.map Mi.ty) ps=true->B7 ps=true ->
  ((AY ds i ps l).1=2->∃(j:Nat) (k:Mi),(AY ds i ps l).2.1=(i+j)::(AY ds i ps l).2.1.tail/\l[j]?=some k/\KJ ds (AY ds i ps l).2.2 k (AY ds i ps l).2.1.tail) /\
  (∀vs,Eh ds l vs->((AY ds i ps l).1=1->(By ps vs).2=true)/\((AY ds i ps l).1=0->(By ps vs).2=false))
 | [],l,i,_,_,_=>⟨λh=>by simp [AY] at h,λvs _=>⟨λ_=>by simp only [By],λh=>by simp [AY] at h⟩⟩
 | p::r,[],i,_,_,_=>⟨λh=>by simp [AY] at h,λvs hv=>by
  simp only [Eh] at hv;subst hv;exact ⟨λ_=>by simp only [By],λh=>by simp [AY] at h⟩⟩
 | p::r,k::ks,i,hk,hp,hpp=>by
  simp only [List.map_cons,Ck,B7,Bool.and_eq_true] at hp hpp;have a:=λv=>Y6 ho p (v:=v) (hk k (by simp)).1 (hk k (by simp)).2 hp.1 hpp.1;obtain ⟨b1,b2⟩:=Vd ho r (l:=ks) (i:=i+1) (λy hy=>hk y (by simp [hy])) hp.2 hpp.2;simp only [AY]
  split
  ·rename_i h1;refine ⟨λhl=>?_,λvs hv=>?_⟩
   ·obtain ⟨j,y,y1,y2,y3⟩:=b1 hl;exact ⟨j+1,y,by rw [y1];simp only [List.tail_cons,List.cons.injEq,and_true];omega,by simpa using y2,y3⟩
   ·cases vs with
    | nil=>simp only [Eh] at hv
    | cons v vs =>
     simp only [Eh] at hv;have hm:=((a v).2 hv.1).1 h1;simp only [By,hm,Bool.true_and];obtain ⟨c1,c2⟩:=b2 vs hv.2;exact ⟨λh=>by rw [c1 h];rfl,λh=>by rw [c2 h];rfl⟩
  ·rename_i h1;refine ⟨λhl=>⟨0,k,by simp,rfl,by simpa using (a zT).1 hl⟩,λvs hv=>?_⟩;cases vs with
   | nil=>simp only [Eh] at hv
   | cons v vs =>
    simp only [Eh] at hv;refine ⟨λh=>absurd h h1,λh=>?_⟩;have hm:=((a v).2 hv.1).2 h;simp only [By,hm,Bool.false_and];rfl
end
theorem OE {ds:List Dt} (ho:OkW ds) {t a b:Ty} (hn:AB ds t=true) (ha:FZ ds t a) (hb:FZ ds t b):AC a=AC b/\(AC a=4->(Cx ds (Cq a)).2=(Cx ds (Cq b)).2->(AK ds t (Cq b)).1=(AK ds t (Cq a)).1):=by
 have fa:=ha.1;have fb:=hb.1;rw [H7] at fa fb;obtain ⟨so,m,x,qs⟩:=t;obtain ⟨f,n,y,ps⟩:=a;obtain ⟨g,n',y',ps'⟩:=b;simp only [Kh] at fa fb;simp only [AC,Cq,Bn] at *;refine ⟨?_,λh4 hs=>?_⟩
 ·by_cases h1:so=1
  ·rw [if_pos h1] at fa fb;simp only [beq_iff_eq] at fa fb;omega
  rw [if_neg h1] at fa fb;by_cases h2:so=2
  ·rw [if_pos h2] at fa fb;simp only [beq_iff_eq] at fa fb;omega
  rw [if_neg h2] at fa fb;by_cases h3:so=3
  ·rw [if_pos h3] at fa fb;simp only [beq_iff_eq] at fa fb;omega
  rw [if_neg h3] at fa fb;by_cases h8:so=8
  ·rw [if_pos h8] at fa fb;simp only [Bool.and_eq_true,decide_eq_true_eq] at fa fb;omega
  rw [if_neg h8] at fa fb;simp only [beq_iff_eq] at fa fb;omega
 ·subst h4;have h8:so=8:=by
   repeat' (split at fa)
   all_goals first | assumption | (simp at fa;done)
  subst h8;rw [if_neg (by decide),if_neg (by decide),if_neg (by decide),if_pos rfl] at fa fb;simp only [Bool.and_eq_true,decide_eq_true_eq] at fa fb;obtain ⟨_,_,ca,_⟩:=fa;obtain ⟨_,_,cb,_⟩:=fb;have hc:∀s,(AK ds (.mk 8 m x qs) s).2=true->0<=(B4 ds (.mk 8 m x qs) s).2/\(AK ds (.mk 8 m x qs) s).1=(B4 ds (.mk 8 m x qs) s).1.args:=λs h=>by
   simp only [AK] at h ⊢;by_cases e:0<=(B4 ds (.mk 8 m x qs) s).2
   ·simp [e]
   ·simp [e] at h
  obtain ⟨a1,a2⟩:=hc y ca;obtain ⟨b1,b2⟩:=hc y' cb;have hp:=(C5 hn 8 m x qs rfl rfl).1;rw [FA ho.dif (n:=m) (ps:=qs) hp a1,FA ho.dif (n:=m) (ps:=qs) hp b1] at hs;have e:=Na a1 hs;rw [a2,b2,e]
theorem G8 (ds:List Dt) (a b:Ty):BS ds a b=if AC a=1 then FR (nT a)-FR (nT b) else if AC a=2 then nT a-nT b else if AC a=4 then (if (Cx ds (Cq a)).2-(Cx ds (Cq b)).2≠0 then (Cx ds (Cq a)).2-(Cx ds (Cq b)).2 else Cc ds (Bn a) (Bn b)) else 0:=by
 obtain ⟨f,n,x,ps⟩:=a;obtain ⟨g,n',x',ps'⟩:=b;simp only [BS,AC,nT,Cq,Bn];rfl
theorem HN {v u:Ty} (h:u∈Bn v):SizeOf.sizeOf u<SizeOf.sizeOf v:=by
 obtain ⟨f,n,x,ps⟩:=v;simp only [Bn] at h;have:=List.sizeOf_lt_of_mem h;simp only [Ty.mk.sizeOf_spec];omega
theorem Ff {ds:List Dt} (ho:OkW ds):∀(k:Nat) (a t b:Ty),SizeOf.sizeOf a<k->AB ds t=true->FZ ds t a->FZ ds t b->BS ds a b = - BS ds b a:=by
 intro k
 induction k with
 | zero=>intro a t b h;omega
 | succ k ih =>
  intro a t b hk hn ha hb;obtain ⟨h1,h2⟩:=OE ho hn ha hb;rw [G8 ds a b,G8 ds b a,<- h1]
  split
  ·omega
  ·split
   ·omega
   ·split
    ·rename_i h4;by_cases hs:(Cx ds (Cq a)).2=(Cx ds (Cq b)).2
     ·rw [if_neg (by omega),if_neg (by omega)];have l1:=BK ho.okd (t:=t) (s:=Cq a);obtain ⟨l2,l4⟩:=D9 ha;obtain ⟨l3,l5⟩:=D9 hb;rw [h2 h4 hs] at l3 l5;have key:∀(ps qs:List Ty) (l:List Ty),(∀u∈ps,SizeOf.sizeOf u<k)->Bd ds l=true->l.length=ps.length->l.length=qs.length->(∀(i:Nat) t u,l[i]?=some t->ps[i]?=some u->FZ ds t u)->(∀(i:Nat) t u,l[i]?=some t->qs[i]?=some u->FZ ds t u)->Cc ds ps qs = - Cc ds qs ps:=by
       intro ps
       induction ps with
       | nil =>
        intro qs l _ _ e1 e2 _ _;cases qs with
        | nil=>simp [Cc]
        | cons _ _=>exact absurd (e1.symm.trans e2) (by simp)
       | cons p r ih2 =>
        intro qs l hz hn e1 e2 g1 g2;cases qs with
        | nil=>exact absurd (e1.symm.trans e2) (by simp)
        | cons q s =>
         cases l with
         | nil=>simp at e1
         | cons t l =>
          simp only [Bd,Bool.and_eq_true] at hn;have hpq:=ih p t q (hz p (by simp)) hn.1 (g1 0 t p rfl rfl) (g2 0 t q rfl rfl);have hrs:=ih2 s l (λu hu=>hz u (by simp [hu])) hn.2 (by simpa using e1) (by simpa using e2) (λi t u h1 h2=>g1 (i+1) t u (by simpa using h1) (by simpa using h2)) (λi t u h1 h2=>g2 (i+1) t u (by simpa using h1) (by simpa using h2));simp only [Cc];by_cases e:BS ds p q=0
          ·rw [if_neg (by omega),if_neg (by omega)];exact hrs
          ·rw [if_pos e,if_pos (by omega)];exact hpq
      exact key _ _ _ (λu hu=>by have:=HN hu;omega) l1 l2 l3 l4 l5
     ·rw [if_pos (by omega),if_pos (by omega)];omega
    ·omega
theorem ZD {ds:List Dt} (ho:OkW ds):∀(k:Nat) (a t b c:Ty),SizeOf.sizeOf a<k->SizeOf.sizeOf b<k->SizeOf.sizeOf c<k->AB ds t=true->FZ ds t a->FZ ds t b->FZ ds t c->BS ds a c<0->BS ds a b<0\/BS ds b c<0:=by
 intro k
 induction k with
 | zero=>intro a t b c h;omega
 | succ k ih =>
  intro a t b c hk hkb hkc hn ha hb hc h;obtain ⟨h1,h2⟩:=OE ho hn ha hb;obtain ⟨h3,h4⟩:=OE ho hn hb hc;rw [G8] at h;rw [G8 ds a b,G8 ds b c,<- h1]
  split
  ·rename_i f1;rw [if_pos f1] at h;omega
  ·rename_i f1;rw [if_neg f1] at h
   split
   ·rename_i f2;rw [if_pos f2] at h;omega
   ·rename_i f2;rw [if_neg f2] at h
    split
    ·rename_i f4;rw [if_pos f4] at h;by_cases hab:(Cx ds (Cq a)).2=(Cx ds (Cq b)).2
     ·by_cases hbc:(Cx ds (Cq b)).2=(Cx ds (Cq c)).2
      ·rw [if_neg (by omega)] at h;rw [if_neg (by omega),if_neg (by omega)];have l1:=BK ho.okd (t:=t) (s:=Cq a);obtain ⟨l2,l4⟩:=D9 ha;obtain ⟨l3,l5⟩:=D9 hb;obtain ⟨l6,l7⟩:=D9 hc;rw [h4 (by omega) hbc,h2 f4 hab] at l6 l7;rw [h2 f4 hab] at l3 l5;have key:∀(ps qs rs:List Ty) (l:List Ty),(∀u∈ps,SizeOf.sizeOf u<k)->(∀u∈qs,SizeOf.sizeOf u<k)->(∀u∈rs,SizeOf.sizeOf u<k)->Bd ds l=true->l.length=ps.length->l.length=qs.length->l.length=rs.length->(∀(i:Nat) t u,l[i]?=some t->ps[i]?=some u->FZ ds t u)->(∀(i:Nat) t u,l[i]?=some t->qs[i]?=some u->FZ ds t u)->(∀(i:Nat) t u,l[i]?=some t->rs[i]?=some u->FZ ds t u) ->
         Cc ds ps rs<0->Cc ds ps qs<0\/Cc ds qs rs<0:=by
        intro ps
        induction ps with
        | nil=>intro qs rs l _ _ _ _ _ _ _ _ _ _ h;simp [Cc] at h
        | cons p r ih2 =>
         intro qs rs l hz hzq hzr hn e1 e2 e3 g1 g2 g3 hlt;cases l with
         | nil=>simp at e1
         | cons t l =>
          cases qs with
          | nil=>simp at e2
          | cons q s =>
           cases rs with
           | nil=>simp at e3
           | cons u v =>
            simp only [Bd,Bool.and_eq_true] at hn;have op:=g1 0 t p rfl rfl;have oq:=g2 0 t q rfl rfl;have ou:=g3 0 t u rfl rfl;have zp:=hz p (by simp);have zq:=hzq q (by simp);have zu:=hzr u (by simp);have i1:=ih p t q u zp zq zu hn.1 op oq ou;have i2:=ih u t p q zu zp zq hn.1 ou op oq;have i3:=ih q t u p zq zu zp hn.1 oq ou op;have a1:=Ff ho _ p t q (Nat.lt_succ_self _) hn.1 op oq;have a3:=Ff ho _ p t u (Nat.lt_succ_self _) hn.1 op ou;have a2:=Ff ho _ q t u (Nat.lt_succ_self _) hn.1 oq ou
            have ir:=ih2 s v l (λy hy=>hz y (by simp [hy])) (λy hy=>hzq y (by simp [hy])) (λy hy=>hzr y (by simp [hy])) hn.2 (by simpa using e1) (by simpa using e2) (by simpa using e3) (λi t u h1 h2=>g1 (i+1) t u (by simpa using h1) (by simpa using h2)) (λi t u h1 h2=>g2 (i+1) t u (by simpa using h1) (by simpa using h2)) (λi t u h1 h2=>g3 (i+1) t u (by simpa using h1) (by simpa using h2));simp only [Cc] at hlt ⊢;by_cases pu:BS ds p u=0
            ·rw [if_neg (by omega)] at hlt;by_cases pq:BS ds p q=0
             ·by_cases qu:BS ds q u=0
              ·rw [if_neg (by omega),if_neg (by omega)];exact ir hlt
              ·rw [if_pos qu];by_cases hneg:BS ds q u<0
               ·exact .inr hneg
               ·exfalso;rcases i2 (by omega) with h | h <;> omega
             ·rw [if_pos pq];by_cases hneg:BS ds p q<0
              ·exact .inl hneg
              ·right;have:BS ds q u<0:=by
                rcases i3 (by omega) with h | h
                ·exact h
                ·omega
               rw [if_pos (by omega)];exact this
            ·rw [if_pos pu] at hlt;rcases i1 hlt with h | h
             ·left;rw [if_pos (by omega)];exact h
             ·right;rw [if_pos (by omega)];exact h
       exact key _ _ _ _ (λu hu=>by have:=HN hu;omega) (λu hu=>by have:=HN hu;omega) (λu hu=>by have:=HN hu;omega) l1 l2 l3 l6 l4 l5 l7 h
      ·rw [if_neg (by omega),if_pos (by omega)];rw [if_pos (by omega)] at h;right;omega
     ·by_cases hbc:(Cx ds (Cq b)).2=(Cx ds (Cq c)).2
      ·rw [if_pos (by omega),if_neg (by omega)];rw [if_pos (by omega)] at h;left;omega
      ·rw [if_pos (by omega),if_pos (by omega)]
       split at h <;> omega
    ·rename_i f4;rw [if_neg f4] at h;omega
theorem XO {ds:List Dt} (ho:OkW ds) {t a b c:Ty} (hn:AB ds t=true) (ha:FZ ds t a) (hb:FZ ds t b) (hc:FZ ds t c) (h:Cm ds a c=true):Cm ds a b=true\/Cm ds b c=true:=by
 have k:=ZD ho (SizeOf.sizeOf a+SizeOf.sizeOf b+SizeOf.sizeOf c+1) a t b c (by omega) (by omega) (by omega) hn ha hb hc;simp only [Cm] at h ⊢;by_cases e1:Ai a=Ai c
 ·rw [if_pos e1,decide_eq_true_eq] at h;by_cases e2:Ai a=Ai b
  ·rw [if_pos e2,if_pos (by omega),decide_eq_true_eq,decide_eq_true_eq];exact k h
  ·rw [if_neg e2,if_neg (by omega),decide_eq_true_eq,decide_eq_true_eq];omega
 ·rw [if_neg e1,decide_eq_true_eq] at h;by_cases e2:Ai a=Ai b
  ·right;rw [if_neg (by omega),decide_eq_true_eq];omega
  ·by_cases e3:Ai b=Ai c
   ·left;rw [if_neg (by omega),decide_eq_true_eq];omega
   ·rw [if_neg e2,if_neg e3,decide_eq_true_eq,decide_eq_true_eq];omega
theorem Wm {ds:List Dt} (ho:OkW ds) {t a b:Ty} (hn:AB ds t=true) (ha:FZ ds t a) (hb:FZ ds t b) (h:Cm ds b a=true):Cm ds a b=false:=by
 have han:=Ff ho _ a t b (Nat.lt_succ_self _) hn ha hb;simp only [Cm] at h ⊢;by_cases e:Ai a=Ai b
 ·rw [if_pos (by omega),decide_eq_true_eq] at h;rw [if_pos e,decide_eq_false_iff_not];omega
 ·rw [if_neg (by omega),decide_eq_true_eq] at h;rw [if_neg e,decide_eq_false_iff_not];omega
def GF (ds:List Dt) (S:Ty->Prop):Option Ty->Prop
 | none=>∀v,¬S v
 | some v=>S v/\∀u,S u->Cm ds u v=false
theorem Es {ds:List Dt} {S S':Ty->Prop} (h:∀v,S v↔S' v) {r:Option Ty} (hr:GF ds S r):GF ds S' r:=by
 cases r with
 | none=>exact λv hv=>hr v ((h v).2 hv)
 | some v=>exact ⟨(h v).1 hr.1,λu hu=>hr.2 u ((h u).2 hu)⟩
theorem cU {ds:List Dt} (ho:OkW ds) {t:Ty} (hn:AB ds t=true) {A B:Ty->Prop} (hA:∀v,A v->FZ ds t v) (hB:∀v,B v->FZ ds t v) {a b:Option Ty} (ha:GF ds A a) (hb:GF ds B b):GF ds (λv=>A v\/B v) (Hg ds a b):=by
 cases a with
 | none =>
  exact Es (λv=>⟨.inr,λh=>h.resolve_left (ha v)⟩) hb
 | some a =>
  cases b with
  | none=>exact Es (S:=A) (λv=>⟨.inl,λh=>h.resolve_right (hb v)⟩) ha
  | some b =>
   simp only [Hg];obtain ⟨a1,a2⟩:=ha;obtain ⟨b1,b2⟩:=hb;have no:∀{u x y:Ty},FZ ds t u->FZ ds t x->FZ ds t y->Cm ds u y=false->Cm ds y x=false->Cm ds u x=false:=λhu hx hy h1 h2=>by
    cases e:Cm ds _ _ with
    | false=>rfl
    | true=>rcases XO ho hn hu hy hx e with h | h <;> simp_all
   split
   ·rename_i h;refine ⟨.inr b1,λu hu=>?_⟩;rcases hu with hu | hu
    ·have hab:=Wm ho hn (hA a a1) (hB b b1) h;exact no (hA u hu) (hB b b1) (hA a a1) (a2 u hu) hab
    ·exact b2 u hu
   ·rename_i h;refine ⟨.inl a1,λu hu=>?_⟩;rcases hu with hu | hu
    ·exact a2 u hu
    ·exact no (hB u hu) (hA a a1) (hB b b1) (b2 u hu) (by simpa using h)
def grtW (ds:List Dt):Prop:=∀d∈ds,∀c∈d.cons,CM c.name=true
theorem NA {ds:List Dt}:∀{l vs:List Ty} (n:Int),0<n->l.length=vs.length->(∀(i:Nat) a v,l[i]?=some a->vs[i]?=some v->0<Ct ds a/\Ct ds a<=Ai v)->0<AN ds (D7 ds) n l/\AN ds (D7 ds) n l<=n+Ah vs
 | [],[],n,hn,_,_=>by simp [AN,Ah];exact hn
 | a::r,v::vs,n,hn,hl,h=>by
  obtain ⟨h1,h2⟩:=h 0 a v rfl rfl;obtain ⟨i1,i2⟩:=NA (l:=r) (vs:=vs) (n+EN ds (D7 ds) a) (by simp only [Ct] at h1;omega) (by simpa using hl) λi x y hx hy=>h (i+1) x y (by simpa using hx) (by simpa using hy);simp only [Ct] at h1 h2;simp only [AN,Ah];rw [if_neg (by omega)];exact ⟨i1,by omega⟩
 | [],_::_,_,_,h,_=>by simp at h
 | _::_,[],_,_,h,_=>by simp at h
theorem cW {ds:List Dt} (ho:OkW ds):∀(k:Nat) (u t:Ty),SizeOf.sizeOf u<k->AB ds t=true->FZ ds t u->(0<Ct ds t/\Ct ds t<=Ai u)/\∀m h,m.ty=t->h∈A3 ds t->A6 h u=true->0<AQ ds m h/\AQ ds m h<=Ai u:=by
 intro k
 induction k with
 | zero=>intro u t h;omega
 | succ k ih =>
  intro u t hk hn hu;obtain ⟨p1,p2⟩:=D9 hu;have hnm:=BK ho.okd (t:=t) (s:=Cq u);have hs:=NA (ds:=ds) 1 (by decide) p1 λi a v ha hv=>(ih v a (by have:=HN (List.mem_of_getElem? hv);omega) (D2 hnm ha) (p2 i a v ha hv)).1;have hnu:Ai u=1+Ah (Bn u):=by obtain ⟨a,b,c,d⟩:=u;rfl
  have hc:∀m h,m.ty=t->h∈A3 ds t->A6 h u=true->0<AQ ds m h/\AQ ds m h<=Ai u:=λm h e hh he=>by
   subst e;rw [JY ho hn (.inl hh),Jp he];exact ⟨hs.1,by omega⟩
  refine ⟨?_,hc⟩;by_cases h8:AC t=8
  ·obtain ⟨x,x1,x2⟩:=PJ hn hu (.inr (.inr h8));obtain ⟨c1,c2⟩:=hc (An t) x rfl x1 x2;obtain ⟨z1,z2⟩:=OR ho (m:=An t) hn h8;have hb:=(Cs ho t).1;have:Ct ds t≠0:=λe=>z1 e x x1 c1;have:=(z2 this).2 x x1 c1;have hty:(An t).ty=t:=rfl;rw [hty] at this;omega
  ·have:Ct ds t=1:=by obtain ⟨so,n,x,ps⟩:=t;simp only [Ct,EN];exact if_neg h8
   omega
theorem UF {ds:List Dt} {m:Mi}:∀{l:List Ty} {b:Option (Ty×Int)} {p:Ty×Int},Dm ds m b l=some p ->
  b=some p\/((∀q,b=some q->p.2<q.2)/\∃i:Nat,l[i]?=some p.1/\∀(j:Nat) y,j<i->l[j]?=some y->0<AQ ds m y->BH m.nt y=false->p.2<AQ ds m y)
 | [],b,p,h=>.inl h
 | x::r,b,p,h=>by
  simp only [Dm] at h;have ih:=UF h;by_cases hc:0<AQ ds m x/\BH m.nt x=false/\F8 b (AQ ds m x)=true
  ·rw [if_pos hc] at ih;have hq:∀q,b=some q->AQ ds m x<q.2:=λq hq=>by subst hq;exact of_decide_eq_true hc.2.2
   right;rcases ih with e | ⟨h1,i,h2,h3⟩
   ·cases e;exact ⟨hq,0,rfl,λj y hj=>by omega⟩
   ·have h1:p.2<AQ ds m x:=h1 (x,AQ ds m x) rfl;refine ⟨λq e=>by have:=hq q e;omega,i+1,by simpa using h2,λj y hj hy h4 h5=>?_⟩;cases j with
    | zero=>simp at hy;subst hy;exact h1
    | succ j=>exact h3 j y (by omega) (by simpa using hy) h4 h5
  ·rw [if_neg hc] at ih;rcases ih with e | ⟨h1,i,h2,h3⟩
   ·exact .inl e
   ·refine .inr ⟨h1,i+1,by simpa using h2,λj y hj hy h4 h5=>?_⟩;cases j with
    | zero =>
     simp at hy;subst hy;cases b with
     | none=>exact absurd ⟨h4,h5,rfl⟩ hc
     | some q =>
      have:=h1 q rfl;have:¬(AQ ds m x<q.2):=λh=>hc ⟨h4,h5,decide_eq_true h⟩;omega
    | succ j=>exact h3 j y (by omega) (by simpa using hy) h4 h5
theorem Tu {a b:Int} (h:(0<=a/\(b <= -a\/a<=b))\/(a<0/\(b<=a \/ -a<b))):FR a<=FR b:=by
 simp only [FR];by_cases p:0<a <;> by_cases q:0<b <;> simp only [p,q,if_true,if_false] <;> omega
theorem eT {nt:List Ty}:∀(f:Nat) (i:Nat),(∀k:Int,-(i:Int)<k->k<i->BH nt (.mk 1 k [] [])=true)->∀n,BH nt (.mk 1 n [] [])=false->FR (nT (Jf nt f i))<=FR n:=by
 intro f
 induction f with
 | zero =>
  intro i h n hn;have:n <= -(i:Int)\/(i:Int)<=n:=by
   by_cases h1 : -(i:Int)<n
   ·by_cases h2:n<i
    ·rw [h n h1 h2] at hn;cases hn
    ·omega
   ·omega
  simp only [Jf,nT];exact Tu (by omega)
 | succ f ih =>
  intro i h n hn;have hr:n <= -(i:Int)\/(i:Int)<=n:=by
   by_cases h1 : -(i:Int)<n
   ·by_cases h2:n<i
    ·rw [h n h1 h2] at hn;cases hn
    ·omega
   ·omega
  simp only [Jf];by_cases e1:BH nt (.mk 1 i [] [])=false
  ·rw [if_pos e1];simp only [nT];exact Tu (by omega)
  ·rw [if_neg e1];have hni:n≠i:=λe=>by subst e;exact e1 hn
   by_cases e2:BH nt (.mk 1 (0-i) [] [])=false
   ·rw [if_pos e2];simp only [nT];exact Tu (by omega)
   ·rw [if_neg e2];exact ih (i+1) (λk h1 h2=>by
     by_cases k1:k=i
     ·subst k1;simpa using e1
     ·by_cases k2:k=0-i
      ·subst k2;simpa using e2
      ·exact h k (by omega) (by omega)) n hn
theorem Sp (nt:List Ty):∀(i:Nat),i<=nt.length->(∀j:Nat,j<i->BH nt (.mk 1 j [] [])=true)->BH nt (Jf nt (nt.length-i) i)=false
 | i,hi,h=>by
  rw [So hi h]
  split
  ·assumption
  ·split
   ·assumption
   ·rename_i e1 e2;have hb:=KC (nt:=nt) (i:=i+1) λj hj=>by
     by_cases e:j=i
     ·rw [e];simpa using e1
     ·exact h j (by omega)
    exact Sp nt (i+1) hb λj hj=>by
     by_cases e:j=i
     ·rw [e];simpa using e1
     ·exact h j (by omega)
termination_by i=>nt.length-i
theorem PT (h:Ty) (vs:List Ty):Ai (Cv h vs)=1+Ah vs:=by obtain ⟨a,b,c,d⟩:=h;rfl
theorem UU (v:Ty):Ai v=1+Ah (Bn v):=by obtain ⟨a,b,c,d⟩:=v;rfl
def lM (ds:List Dt) (us vs:List Ty):Prop:=us.length=vs.length/\∀(i:Nat) u v,us[i]?=some u->vs[i]?=some v->Cm ds u v=false
theorem Sj {ds:List Dt}:∀{us vs:List Ty},lM ds us vs->Ah vs<=Ah us/\(Ah us=Ah vs->0<=Cc ds us vs)
 | [],[],_=>⟨Nat.le_refl _,λ_=>by simp [Cc]⟩
 | u::us,v::vs,⟨h1,h2⟩=>by
  have h0:=h2 0 u v rfl rfl;obtain ⟨i1,i2⟩:=Sj (us:=us) (vs:=vs) ⟨by simpa using h1,λi x y hx hy=>h2 (i+1) x y (by simpa using hx) (by simpa using hy)⟩;simp only [Cm] at h0;simp only [Ah,Cc];by_cases e:Ai u=Ai v
  ·rw [if_pos e,decide_eq_false_iff_not] at h0;refine ⟨by omega,λhs=>?_⟩
   split
   ·omega
   ·exact i2 (by omega)
  ·rw [if_neg e,decide_eq_false_iff_not] at h0;exact ⟨by omega,λhs=>by omega⟩
 | [],_::_,⟨h,_⟩=>by simp at h
 | _::_,[],⟨h,_⟩=>by simp at h
theorem Qh {ds:List Dt} {g:Mi->Option (Option Ty)}:∀{ks:List Mi} {o:Option (List Ty)},Bg g ks=some o->(∀k∈ks,∀r,g k=some r->GF ds (KI ds k) r) ->
  match o with
  | none=>∀vs,¬Eh ds ks vs
  | some vs=>Eh ds ks vs/\∀us,Eh ds ks us->lM ds us vs
 | [],o,h,_=>by
  simp only [Bg,Option.some.injEq] at h;subst h;exact ⟨by simp only [Eh],λus hu=>by simp only [Eh] at hu;subst hu;exact ⟨rfl,λi u v h=>by simp at h⟩⟩
 | k::r,o,h,hk=>by
  simp only [Bg] at h;cases hg:g k with
  | none=>rw [hg] at h;cases h
  | some q =>
   have hm:=hk k (by simp) q hg;rw [hg] at h;cases q with
   | none =>
    simp only [Option.some.injEq] at h;subst h;intro vs hv;cases vs with
    | nil=>simp only [Eh] at hv
    | cons v vs=>simp only [Eh] at hv;exact hm v hv.1
   | some v =>
    simp only at h;cases hl:Bg g r with
    | none=>rw [hl] at h;cases h
    | some o' =>
     have ih:=Qh (o:=o') hl λy hy=>hk y (by simp [hy]);rw [hl] at h;cases o' with
     | none =>
      simp only [Option.some.injEq] at h;subst h;intro vs hv;cases vs with
      | nil=>simp only [Eh] at hv
      | cons v vs=>simp only [Eh] at hv;exact ih vs hv.2
     | some vs =>
      simp only [Option.some.injEq] at h;subst h;simp only at ih ⊢;refine ⟨⟨hm.1,ih.1⟩,λus hu=>?_⟩;cases us with
      | nil=>simp only [Eh] at hu
      | cons u us =>
       simp only [Eh] at hu;obtain ⟨n1,n2⟩:=ih.2 us hu.2;refine ⟨by simp [n1],λi x y hx hy=>?_⟩;cases i with
       | zero=>simp at hx hy;subst hx;subst hy;exact hm.2 _ hu.1
       | succ i=>exact n2 i x y (by simpa using hx) (by simpa using hy)
theorem XQ {ds:List Dt} (hg:grtW ds) {t h:Ty} (hh:h∈A3 ds t) (h4:AC h=4):CM (Cq h)=true:=by
 obtain ⟨so,n,x,ps⟩:=t;simp only [A3] at hh
 split at hh
 ·simp only [List.mem_cons,List.not_mem_nil,or_false] at hh;rcases hh with rfl | rfl <;> simp [AC] at h4
 ·split at hh
  ·rw [List.mem_singleton] at hh;subst hh;simp [AC] at h4
  ·split at hh
   ·split at hh
    ·rename_i d hd;obtain ⟨c,hc,rfl⟩:=List.mem_map.1 hh;exact hg d (List.mem_of_getElem? hd) c hc
    ·cases hh
   ·cases hh
theorem eM {ds:List Dt} (ho:OkW ds) (hg:grtW ds) {t h:Ty} {vs:List Ty} (hn:AB ds t=true) (hh:MC ds t h) (hl:(AK ds t (Cq h)).1.length=vs.length) (hv:∀(i:Nat) a v,(AK ds t (Cq h)).1[i]?=some a->vs[i]?=some v->FZ ds a v):FZ ds t (Cv h vs):=by
 refine ⟨PM ho hn hh hl ((PK hl).2 λi a v ha hv'=>(hv i a v ha hv').1),?_⟩;have hvn:CG vs=true:=by
  rw [Je,List.all_eq_true];intro v hm;obtain ⟨i,hi,e⟩:=List.getElem_of_mem hm;obtain ⟨a,ha⟩:=Am (l:=(AK ds t (Cq h)).1) (i:=i) (by omega);exact (hv i a v ha (by rw [List.getElem?_eq_getElem hi,e])).2
 have hal:=Eu ho t (Cq h);have hkind:(AC t=8/\AC h=4)\/((AK ds t (Cq h)).1=[]/\AC h≠4):=by
  rcases hh with hh | ⟨h1,n,rfl,_⟩
  ·rcases Fq ho hn hh with ⟨h1,h2,_⟩ | ⟨h1,n,rfl,_⟩ | ⟨h1,rfl⟩
   ·exact .inl ⟨h1,h2⟩
   ·exact .inr ⟨by rw [Fv (by omega)],by simp [AC]⟩
   ·exact .inr ⟨by rw [Fv (by omega)],by simp [AC]⟩
  ·exact .inr ⟨by rw [Fv (by omega)],by simp [AC]⟩
 have hz:h∈A3 ds t->AC h=4->nT h=0:=λhm h4=>by
  obtain ⟨so,n,x,ps⟩:=t;simp only [A3] at hm
  split at hm
  ·simp only [List.mem_cons,List.not_mem_nil,or_false] at hm;rcases hm with rfl | rfl <;> simp [AC] at h4
  ·split at hm
   ·rw [List.mem_singleton] at hm;subst hm;rfl
   ·split at hm
    ·split at hm
     ·obtain ⟨c,hc,rfl⟩:=List.mem_map.1 hm;rfl
     ·cases hm
    ·cases hm
 have hgr:=λhm h4=>XQ hg (t:=t) (h:=h) hm h4;rcases hh with hh | ⟨h1,n,rfl,hb⟩
 ·rcases Fq ho hn hh with ⟨h1,h2,_⟩ | ⟨h1,n,rfl,hb⟩ | ⟨h1,rfl⟩
  ·have h3:=hz hh h2;have h4:=hgr hh h2;obtain ⟨a,b,c,d⟩:=h;simp only [AC,nT,Cq] at *;subst h2;subst h3;simp [Cv,CZ,FS,hvn,h4];omega
  ·have:vs=[]:=List.eq_nil_of_length_eq_zero (by rcases hkind with ⟨_,e⟩ | ⟨e,_⟩;simp [AC] at e;rw [e] at hl;simpa using hl.symm);subst this;rcases hb with rfl | rfl <;> simp [Cv,CZ,CG,FS,Fp]
  ·have:vs=[]:=List.eq_nil_of_length_eq_zero (by rcases hkind with ⟨_,e⟩ | ⟨e,_⟩;simp [AC] at e;rw [e] at hl;simpa using hl.symm);subst this;simp [Cv,CZ,CG,FS]
 ·have:vs=[]:=List.eq_nil_of_length_eq_zero (by rcases hkind with ⟨_,e⟩ | ⟨e,_⟩;simp [AC] at e;rw [e] at hl;simpa using hl.symm);subst this;simp [Cv,CZ,CG,FS,Fp];omega
theorem jK {ds:List Dt} {ks:List Mi} {vs:List Ty} (h:Eh ds ks vs):ks.length=vs.length/\∀(i:Nat) a v,(ks.map Mi.ty)[i]?=some a->vs[i]?=some v->FZ ds a v:=by
 obtain ⟨h1,h2⟩:=HX.1 h;refine ⟨h1,λi a v ha hv=>?_⟩;simp only [List.getElem?_map,Option.map_eq_some_iff] at ha;obtain ⟨k,hk,rfl⟩:=ha;exact (BA.1 (h2 i k v hk hv)).1
theorem aJ (h:Ty) (vs:List Ty):A6 h (Cv h vs)=true:=by obtain ⟨a,b,c,d⟩:=h;simp [Cv,A6]
theorem ZT {ds:List Dt} (ho:OkW ds) (hg:grtW ds) {N f:Nat} {m:Mi} {r:Option Ty} (hw:Hb ds N m=true) (hc:DF ds m) (hh:AC m.hd≠0) (h:AD ds (f+1) m=some r) (ih:∀k∈m.ks,∀r,AD ds f k=some r->GF ds (KI ds k) r):GF ds (KI ds m) r:=by
 rw [Er hh] at h;have hci:=B6.1 hc;have hwi:=Bi.1 hw;obtain ⟨c1,c2⟩:=hci.2.1 hh;cases hl:Bg (AD ds f) m.ks with
 | none=>rw [hl] at h;cases h
 | some o =>
  rw [hl] at h;simp only [Option.map_some,Option.some.injEq] at h;subst h;have hm:=Qh hl ih;cases o with
  | none =>
   intro v hv;exact hm _ ((BA.1 hv).2.2 hh).2
  | some vs =>
   simp only at hm;obtain ⟨k1,k2⟩:=jK hm.1;rw [c2] at k2;have hlen:(AK ds m.ty (Cq m.hd)).1.length=vs.length:=by rw [<- c2,List.length_map,k1]
   have hok:=eM ho hg hwi.1.1 c1 hlen k2;refine ⟨BA.2 ⟨hok,λe=>absurd e hh,λ_=>⟨aJ _ _,?_⟩⟩,λu hu=>?_⟩
   ·have:Bn (Cv m.hd vs)=vs:=by generalize m.hd=h;obtain ⟨a,b,c,d⟩:=h;rfl
    rw [this];exact hm.1
   ·obtain ⟨u1,u2⟩:=(BA.1 hu).2.2 hh;obtain ⟨n1,n2⟩:=Sj (hm.2 _ u2);have hp:=UU u;have hq:=PT m.hd vs;simp only [Cm]
    split
    ·rename_i e;have hos:=n2 (by omega);rw [decide_eq_false_iff_not,G8];have hx:nT u=nT (Cv m.hd vs)/\Cq u=Cq (Cv m.hd vs)/\Bn (Cv m.hd vs)=vs:=by
      generalize m.hd=h at u1;obtain ⟨a,b,c,d⟩:=h;obtain ⟨a',b',c',d'⟩:=u;simp only [A6,Bool.and_eq_true,beq_iff_eq] at u1;simp only [Cv,nT,Cq,Bn];exact ⟨u1.1.2.symm,u1.2.symm,trivial⟩
     rw [hx.1,hx.2.1,hx.2.2]
     split
     ·omega
     ·split
      ·omega
      ·split
       ·rw [if_neg (by omega)];omega
       ·omega
    ·rw [decide_eq_false_iff_not];omega
theorem fL {ds:List Dt} (ho:OkW ds) {t:Ty} (hn:AB ds t=true) {i j:Nat} {x y:Ty} (hi:(A3 ds t)[i]?=some x) (hj:(A3 ds t)[j]?=some y) {u v:Ty} (hu:A6 x u=true) (hv:A6 y v=true) (hij:i<j):BS ds u v<0:=by
 obtain ⟨so,n,z,ps⟩:=t;rw [G8];have hx:AC u=AC x/\nT u=nT x/\Cq u=Cq x:=by
  obtain ⟨a,b,c,d⟩:=x;obtain ⟨a',b',c',d'⟩:=u;simp only [A6,Bool.and_eq_true,beq_iff_eq] at hu;exact ⟨hu.1.1.symm,hu.1.2.symm,hu.2.symm⟩
 have hy:AC v=AC y/\nT v=nT y/\Cq v=Cq y:=by
  obtain ⟨a,b,c,d⟩:=y;obtain ⟨a',b',c',d'⟩:=v;simp only [A6,Bool.and_eq_true,beq_iff_eq] at hv;exact ⟨hv.1.1.symm,hv.1.2.symm,hv.2.symm⟩
 rw [hx.1,hx.2.1,hx.2.2,hy.2.1,hy.2.2];by_cases h2:so=2
 ·subst h2;have e:A3 ds (.mk 2 n z ps)=[.mk 2 0 [] [],.mk 2 1 [] []]:=by simp [A3]
  rw [e] at hi hj;have hj2:j<2:=by have:=(List.getElem?_eq_some_iff.1 hj).1;simpa using this
  have h0:i=0:=by omega
  have h1:j=1:=by omega
  subst h0;subst h1;simp at hi hj;subst hi;subst hj;simp [AC,nT]
 ·by_cases h3:so=3
  ·subst h3;have e:A3 ds (.mk 3 n z ps)=[.mk 3 0 [] []]:=by simp [A3]
   rw [e] at hj;have hj2:j<1:=by have:=(List.getElem?_eq_some_iff.1 hj).1;simpa using this
   omega
  ·by_cases h8:so=8
   ·subst h8;obtain ⟨hp,d,hd⟩:=C5 hn 8 n z ps rfl rfl;have hH:A3 ds (.mk 8 n z ps)=d.cons.map Kj:=by
     rw [show A3 ds (.mk 8 n z ps)=(match ds[(AR z 0 ds).toNat]? with | some d=>d.cons.map λc=>Ty.mk 4 0 c.name [] | none=>[]) from rfl,hd];rfl
    rw [hH] at hi hj;simp only [List.getElem?_map,Option.map_eq_some_iff] at hi hj;obtain ⟨a,ha,rfl⟩:=hi;obtain ⟨b,hb,rfl⟩:=hj;have ca:=TN ho (n:=n) (ps:=ps) hd ha;have cb:=TN ho (n:=n) (ps:=ps) hd hb;have sa:=FA ho.dif (n:=n) (s:=a.name) (ps:=ps) hp (by rw [ca];simp);have sb:=FA ho.dif (n:=n) (s:=b.name) (ps:=ps) hp (by rw [cb];simp);rw [ca] at sa;rw [cb] at sb;rw [show AC (Kj a)=4 from rfl,show Cq (Kj a)=a.name from rfl,show Cq (Kj b)=b.name from rfl,if_neg (by decide),if_neg (by decide),if_pos rfl,sa,sb,if_pos (by omega)];omega
   ·have e:A3 ds (.mk so n z ps)=[]:=by simp [A3,h2,h3,h8]
    rw [e] at hi;simp at hi
theorem ZP {ds:List Dt} (ho:OkW ds) (hg:grtW ds) {N:Nat} (hN:N<=1000000):∀(f:Nat) (m:Mi) (r:Option Ty),Hb ds N m=true->DF ds m->Y0 ds m->AD ds f m=some r->GF ds (KI ds m) r:=by
 intro f
 induction f with
 | zero=>intro m r _ _ _ h;simp [AD] at h
 | succ f ih =>
  intro m r hw hc hnt h;have hwi:=Bi.1 hw;have hci:=B6.1 hc;have hn:=hwi.1.1;have hkn:∀m r,Hb ds N m=true->DF ds m->Y0 ds m->AC m.hd≠0->AD ds (f+1) m=some r->GF ds (KI ds m) r:=λm r hw hc hnt hh h =>
   ZT ho hg hw hc hh h λk hk r hr=>ih k r ((Bi.1 hw).2.2 k hk) ((B6.1 hc).2.2 k hk) ((Ga.1 hnt).2 k hk) hr
  by_cases hh:AC m.hd=0
  case neg=>exact hkn m r hw hc hnt hh h
  by_cases t1:AC m.ty=1
  ·rw [EC hh t1] at h;simp only [Option.some.injEq] at h;subst h;obtain ⟨n,n1,n2,n3⟩:=HR m.nt m.nt.length 0 (by omega);have hfree:=Sp m.nt 0 (Nat.zero_le _) λj hj=>by omega
   have hmin:=eT (nt:=m.nt) m.nt.length 0 λk h1 h2=>by omega
   simp only [Da];rw [Nat.sub_zero] at hfree;rw [show ((0:Nat):Int)=0 from rfl] at hfree hmin;rw [n1] at hfree hmin ⊢;have hnl:=hwi.1.2.2;have key:∀u,KI ds m u->∃k,u = .mk 1 k [] []/\BH m.nt u=false:=λu hu=>by
    obtain ⟨⟨a,b⟩,c,_⟩:=BA.1 hu;refine ⟨nT u,?_,c hh⟩;rw [H7] at a;generalize m.ty=t at *;obtain ⟨so,q,x,ps⟩:=t;obtain ⟨g,k,y,qs⟩:=u;simp only [AC] at t1;subst t1;have:g=1:=by simpa [Kh] using a
    subst this;simp only [CZ,Bool.and_eq_true,FS,if_true,beq_iff_eq] at b;obtain ⟨_,⟨_,rfl⟩,b2⟩:=b;have:qs=[]:=List.eq_nil_of_length_eq_zero (by omega);subst this;rfl
   refine ⟨BA.2 ⟨⟨?_,?_⟩,λ_=>hfree,λe=>absurd hh e⟩,λu hu=>?_⟩
   ·rw [H7];generalize m.ty=t at *;obtain ⟨so,q,x,ps⟩:=t;simp only [AC] at t1;subst t1;simp [Kh]
   ·simp [CZ,CG,FS,Fp];omega
   ·obtain ⟨k,rfl,k2⟩:=key u hu;have:=hmin k k2;simp only [nT] at this;simp only [Cm,Ai,Ah,if_true,BS,decide_eq_false_iff_not];omega
  by_cases t4:AC m.ty=4\/AC m.ty=5\/AC m.ty=6\/AC m.ty=7
  ·rw [EB hh t4] at h;simp only [Option.some.injEq] at h;subst h;have key:∀u,FZ ds m.ty u↔u = .mk 5 0 [] []:=λu=>by
    generalize m.ty=t at *;obtain ⟨so,q,x,ps⟩:=t;obtain ⟨g,k,y,qs⟩:=u;simp only [AC] at t1 t4;simp only [FZ,H7,Kh,if_neg (show ¬so=1 by omega),if_neg (show ¬so=2 by omega),if_neg (show ¬so=3 by omega),if_neg (show ¬so=8 by omega),beq_iff_eq];constructor
    ·rintro ⟨rfl,b⟩;simp only [CZ,Bool.and_eq_true,FS] at b;rw [if_neg (by decide),if_neg (by decide),if_pos (.inr trivial)] at b;simp only [Bool.and_eq_true,beq_iff_eq] at b;obtain ⟨_,⟨rfl,rfl⟩,b2⟩:=b;have:qs=[]:=List.eq_nil_of_length_eq_zero (by omega);subst this;rfl
    ·intro e;cases e;exact ⟨rfl,by simp [CZ,CG,FS]⟩
   have hz:m.nt=[]:=by
    cases hl:m.nt with
    | nil=>rfl
    | cons x r =>
     have:=(Ga.1 hnt).1 x (by rw [hl];simp);rcases this with h | ⟨h,_⟩
     ·have:=Qv h;omega
     ·omega
   refine ⟨BA.2 ⟨(key _).2 rfl,λ_=>by rw [hz];rfl,λe=>absurd hh e⟩,λu hm=>?_⟩;rw [(key u).1 (BA.1 hm).1];simp [Cm,BS]
  rw [Db hh t1 t4] at h;have hs8:AC m.ty=2\/AC m.ty=3\/AC m.ty=8:=by
   have:=of_decide_eq_true hwi.2.1.2;omega
  have hu:∀u,KI ds m u->∃x,x∈A3 ds m.ty/\A6 x u=true/\BH m.nt x=false/\0<AQ ds m x/\AQ ds m x<=Ai u:=λu hu=>by
   obtain ⟨a,b,_⟩:=BA.1 hu;obtain ⟨x,x1,x2⟩:=PJ hn a hs8;have:=(cW ho _ u m.ty (Nat.lt_succ_self _) hn a).2 m x rfl x1 x2;exact ⟨x,x1,x2,by rw [Gr x2];exact b hh,this.1,this.2⟩
  cases hq:AA ds m with
  | none =>
   rw [hq] at h;simp only [Option.some.injEq] at h;subst h;intro u hm;obtain ⟨x,x1,x2,x3,x4,_⟩:=hu u hm;simp only [AA,Option.map_eq_none_iff] at hq;exact (JG hq).2 x x1 ⟨x4,x3⟩
  | some h' =>
   rw [hq] at h;simp only at h;have hmem:=G7 hq;have hfm:=(Bw hmem).2;have hK:=hkn (AZ ds m h') r (KZ ho hn hwi.2.1.2 (Bw hmem).1) (Nc (.inl hmem)) (PR ds m h') hfm h;simp only [AA,Option.map_eq_some_iff] at hq;obtain ⟨p,hp,rfl⟩:=hq;obtain ⟨q1,_,q3⟩:=Ek hp;rcases q1 with q1 | ⟨_,q2,q4,q5⟩
   ·cases q1
   rcases UF hp with e | ⟨_,i,i1,i2⟩
   ·cases e
   obtain ⟨r',r1,_,r3⟩:=Hu ho (f:=f+1000) hn (.inl hmem) λa ha=>by
    have hna:=BK ho.okd (t:=m.ty) (s:=Cq p.1);rw [C4,List.all_eq_true] at hna;exact FE ho 256 a (hna a ha) (GU ho a ha) (Cs ho a).2 _ (by omega)
   have e:=I1 (show f+1<=f+1000+1 by omega) h;rw [r1] at e;cases e;obtain ⟨v,rfl,v2,_⟩:=r3 (by omega);obtain ⟨k1,k2⟩:=hK;have hk1:=(Jm hfm).1 k1;refine ⟨BA.2 ⟨hk1.1,λ_=>by rw [<- Gr hk1.2];exact q5,λe=>absurd hh e⟩,λu hm=>?_⟩;obtain ⟨x,x1,x2,x3,x4,x5⟩:=hu u hm;cases hx:A6 p.1 u with
   | true=>exact k2 u ((Jm hfm).2 ⟨(BA.1 hm).1,hx⟩)
   | false =>
    have hle:=q3 x x1 x4 x3;simp only [Cm]
    split
    ·rename_i en;rw [decide_eq_false_iff_not];obtain ⟨j,hj,e⟩:=List.getElem_of_mem x1;have hjx:(A3 ds m.ty)[j]?=some x:=by rw [List.getElem?_eq_getElem hj,e]
     have hij:i<j:=by
      by_cases hlt:j<i
      ·have:=i2 j x hlt hjx x4 x3;omega
      ·have hne:i≠j:=λe=>by subst e;rw [i1] at hjx;cases hjx;rw [x2] at hx;cases hx
       omega
     have h1:=fL ho hn i1 hjx hk1.2 x2 hij;have h2:=Ff ho _ u m.ty v (Nat.lt_succ_self _) hn (BA.1 hm).1 hk1.1;omega
    ·rw [decide_eq_false_iff_not];omega
def Km (l:List (Ty×Int)) (v:Ty):Prop:=∀x∈l,((Bf x.1 v).2=true↔x.2=1)
theorem bV (v:Ty):Km [] v:=λx hx=>by cases hx
theorem R9 (x:Ty×Int) (l:List (Ty×Int)) (v:Ty):Km (x::l) v↔((Bf x.1 v).2=true↔x.2=1)/\Km l v:=by
 simp only [Km,List.mem_cons,forall_eq_or_imp]
theorem W7 {ds:List Dt} (ho:OkW ds) (hg:grtW ds) {t:Ty} (hn:AB ds t=true):∀(f N:Nat) (m:Mi) (l:List (Ty×Int)) (r:Option Ty),N+f<=1000000->MOk ds t N m->Y0 ds m->Ir ds t l->(∀y∈l,y.2=0\/y.2=1) ->
  Cj ds f m l=some r->GF ds (λv=>KI ds m v/\Km l v) r:=by
 intro f
 induction f with
 | zero=>intro N m l r _ _ _ _ _ h;simp [Cj] at h
 | succ f ih =>
  intro N m l r hN hm hnt hr hb h;cases l with
  | nil =>
   have:=ZP ho hg (by omega) 1000 m r hm.wf hm.coh hnt h;exact Es (λv=>⟨λh=>⟨h,bV v⟩,λh=>h.1⟩) this
  | cons x l =>
   obtain ⟨p,b⟩:=x;obtain ⟨h1,h2,h3⟩:=hr (p,b) (by simp);have hb0:=hb (p,b) (by simp);simp only at h1 h2 h3 hb0;have hl:=λv=>Y6 ho p (v:=v) hm.wf hm.coh (by rw [hm.typ];exact h1) h2;have hty:∀{m:Mi} {v:Ty},MOk ds t N m->KI ds m v->FZ ds t v:=λhm hv=>by have:=(BA.1 hv).1;rwa [hm.typ] at this
   have hty1:∀{m:Mi} {v:Ty},MOk ds t (N+1) m->KI ds m v->FZ ds t v:=λhm hv=>by have:=(BA.1 hv).1;rwa [hm.typ] at this
   simp only [Cj] at h;by_cases h22:(Aw ds p m).1=2
   ·rw [if_pos h22] at h;have hfree:=(hl zT).1 h22;have hfm:AC (Aw ds p m).2.2≠0:=by
     have A:=Nh ho p hm.wf hm.coh (by rw [hm.typ];exact h1) h2 h22;have:∀(path:List Int) (m:Mi),KJ ds (Aw ds p m).2.2 m path->True:=λ_ _ _=>trivial;have key:∀{h:Ty} (path:List Int) (m:Mi),KJ ds h m path->AC h≠0:=by
      intro h path
      induction path with
      | nil=>intro m ⟨_,_,h3⟩;exact (OF h3).1
      | cons i q ihq=>intro m ⟨k,_,_,h3⟩;exact ihq k h3
     exact key _ _ hfree
    have hsp:=λv=>Us ho hfm (Aw ds p m).2.1 (v:=v) hm.wf hfree;have hmT:=hm.split ho h1 h2 h3 h22;cases ha:Cj ds f (A7 ds m (Aw ds p m).2.1 (Aw ds p m).2.2 true) ((p,b)::l) with
    | none=>rw [ha] at h;simp [N7] at h
    | some ra =>
     cases hbb:Cj ds f (A7 ds m (Aw ds p m).2.1 (Aw ds p m).2.2 false) ((p,b)::l) with
     | none=>rw [ha,hbb] at h;simp [N7] at h
     | some rb =>
      rw [ha,hbb] at h;simp only [N7,Option.some.injEq] at h;subst h;have i1:=ih (N+1) _ _ ra (by omega) (hmT true) (PQ true _ hnt hfree) hr hb ha;have i2:=ih (N+1) _ _ rb (by omega) (hmT false) (PQ false _ hnt hfree) hr hb hbb;refine Es (λv=>?_) (cU ho hn (λv hv=>hty1 (hmT true) hv.1) (λv hv=>hty1 (hmT false) hv.1) i1 i2);constructor
      ·rintro (⟨a,c⟩ | ⟨a,c⟩)
       ·exact ⟨(hsp v).1 true a,c⟩
       ·exact ⟨(hsp v).1 false a,c⟩
      ·rintro ⟨a,c⟩;exact ((hsp v).2 a).imp (λa=>⟨a,c⟩) (λa=>⟨a,c⟩)
   ·rw [if_neg h22] at h;have hrg:=KF ds p m;have hm1:∀v,KI ds m v->(((Bf p v).2=true↔b=1)↔(Aw ds p m).1=b):=λv hv=>by
     obtain ⟨c1,c2⟩:=(hl v).2 hv;rcases hrg with e | e | e
     ·have hc:=c2 e;rw [e,hc];constructor
      ·intro h;by_cases hb1:b=1
       ·exact absurd (h.2 hb1) (by simp)
       ·omega
      ·intro h;subst h;simp
     ·have hc:=c1 e;rw [e,hc];constructor
      ·intro h;exact (h.1 rfl).symm
      ·intro h;subst h;simp
     ·exact absurd e h22
    by_cases e:(Aw ds p m).1=b
    ·rw [if_pos e] at h;have i1:=ih N m l r (by omega) hm hnt (λy hy=>hr y (by simp [hy])) (λy hy=>hb y (by simp [hy])) h;refine Es (λv=>?_) i1;rw [R9];constructor
     ·rintro ⟨a,c⟩;exact ⟨a,(hm1 v a).2 e,c⟩
     ·rintro ⟨a,_,c⟩;exact ⟨a,c⟩
    ·rw [if_neg e] at h;simp only [Option.some.injEq] at h;subst h;rintro v ⟨a,c⟩;rw [R9] at c;exact e ((hm1 v a).1 c.1)
theorem SJ (v:Ty):∀(l:List Ty) (i:Nat),-1<=Bk v i l/\Bk v i l<(i:Int)+l.length\/(l=[]/\Bk v i l = -1)
 | [],i=>.inr ⟨rfl,rfl⟩
 | p::r,i=>by
  have:=SJ v r (i+1);left;simp only [Bk,List.length_cons];cases (Bf p v).2
  ·simp only [cond_false];rcases this with h | ⟨h1,h2⟩
   ·omega
   ·rw [h2];omega
  ·simp only [cond_true];omega
theorem SI (v:Ty) (l:List Ty) : -1<=Bk v 0 l/\(Bk v 0 l<l.length):=by
 rcases SJ v l 0 with h | ⟨h1,h2⟩
 ·omega
 ·rw [h2,h1];simp
theorem Yg (c:Cse) (v:Ty):Al Tryz.prog 28 [.agg (dCse c),.agg (dTyc v)] (.tup [.int .i64 (bif DR c v then Bk v 0 c.rows else 0),.bool (DR c v)]):=by
 have hF:=Tb c v;have hb:=SI v c.rows;generalize DR c v=b at *;obtain ⟨ds,⟨c1,c2,c3,c4⟩,rows⟩:=c;obtain ⟨g,m,z,vs⟩:=v;simp only at hb hF ⊢;generalize Bk (.mk g m z vs) 0 rows=n at *;refine Ae A5 Tryz.func28 (by decide +kernel) rfl [3,4,5] rfl rfl ?_;refine bg [] rfl (by simp) ?_;cases b with
 | false =>
  refine Ac rfl (λ_=>hF) (by simp) ?_;refine bg [] rfl (by simp) ?_;refine Aa rfl (λh=>by simp at h) (λh=>?_);refine bd [] rfl (by simp [Ag];rfl) ?_;exact Ab ⟨_,rfl,tV rfl,trivial⟩
 | true =>
  by_cases hn:n<0
  ·have:n = -1:=by omega
   subst this;refine Ac rfl (λ_=>hF) (by simp) ?_;refine bg [] rfl (by simp) ?_;refine Aa rfl (λh=>?_) (λh=>by simp at h);refine bd [] rfl (by simp [Ag]) ?_;exact Ab ⟨_,rfl,tV rfl,trivial⟩
  ·rw [show decide (n<0)=false by simpa using hn] at hF;refine Ac rfl (λ_=>hF) (by simp) ?_;refine bg [] rfl (by simp) ?_;refine Aa rfl (λh=>by simp at h) (λh=>?_);refine bd [] rfl (by simp [Ag];rfl) ?_;refine Ab ⟨_,rfl,tV ?_,trivial⟩;have h1:decide (0<=n)=true:=by simpa using (show 0<=n by omega)
   have h2:decide (n<rows.length)=true:=by simpa using hb.2
   simp [h1,h2]
mutual
def EJ:Ty->Nat
 | .mk _ _ _ ps=>1+CB ps
def CB:List Ty->Nat
 | []=>0
 | t::r=>max (EJ t) (CB r)
end
mutual
theorem Pd:∀(t:Ty) (l d:Int),(0<=BF t l d↔(Ai t:Int)<=l/\(EJ t:Int)<=d)/\(0<=BF t l d->BF t l d=l-Ai t)
 | .mk s n x ps,l,d=>by
  obtain ⟨h1,h2⟩:=Nu ps (l-1) (d-1);simp only [BF,Ai,EJ];by_cases h0:l<1\/d<1
  ·rw [if_pos h0];exact ⟨⟨λh=>by omega,λh=>by omega⟩,λh=>by omega⟩
  ·rw [if_neg h0];by_cases hl:0<=l-1
   ·refine ⟨⟨λh=>?_,λh=>(h1 hl).2 ⟨by omega,.inr (by omega)⟩⟩,λh=>by have:=h2 hl h;omega⟩;obtain ⟨q1,q2⟩:=(h1 hl).1 h;rcases q2 with rfl | q2
    ·simp only [CB,Ah] at q1 ⊢;omega
    ·omega
   ·omega
theorem Nu:∀(ts:List Ty) (l d:Int),(0<=l->(0<=Cb ts l d↔(Ah ts:Int)<=l/\(ts=[]\/(CB ts:Int)<=d)))/\(0<=l->0<=Cb ts l d->Cb ts l d=l-Ah ts)
 | [],l,d=>by simp [Cb,Ah]
 | t::r,l,d=>by
  obtain ⟨a1,a2⟩:=Pd t l d;obtain ⟨b1,b2⟩:=Nu r (BF t l d) d;simp only [Cb,Ah,CB];refine ⟨λhl=>?_,λhl=>?_⟩
  ·rw [if_pos hl];by_cases hw:0<=BF t l d
   ·have e:=a2 hw;obtain ⟨q1,q2⟩:=a1.1 hw;rw [b1 hw,e];constructor
    ·rintro ⟨h,h'⟩;refine ⟨by omega,.inr ?_⟩;rcases h' with rfl | h'
     ·simp [CB];omega
     ·omega
    ·rintro ⟨h,h'⟩;refine ⟨by omega,?_⟩;rcases h' with h' | h'
     ·cases h'
     ·exact .inr (by omega)
   ·have hle:=JC t l d;have:Cb r (BF t l d) d=BF t l d:=by
     cases r with
     | nil=>rfl
     | cons a b=>simp only [Cb];rw [if_neg hw]
    rw [this];refine ⟨λh=>absurd h hw,λ⟨h,h'⟩=>?_⟩;rcases h' with h' | h'
    ·cases h'
    ·exact absurd (a1.2 ⟨by omega,by omega⟩) hw
  ·rw [if_pos hl];intro h;have hw:0<=BF t l d:=by
    by_cases hw:0<=BF t l d
    ·exact hw
    ·exfalso;cases r with
     | nil=>exact hw h
     | cons a b=>simp only [Cb] at h;rw [if_neg hw] at h;exact hw h
   have:=b2 hw h;have:=a2 hw;omega
end
def QM (s:List Int) (n:Int):Nat:=(s.filter λx=>decide (0<x/\x<=n)).length
theorem nE (s:List Int) (n:Int):QM s n<=s.length:=List.length_filter_le _ _
theorem We {a b:Int} (h:a<=b):∀s:List Int,QM s a<=QM s b
 | []=>Nat.le_refl _
 | x::r=>by
  have ih:=We h r;simp only [QM,List.filter_cons] at ih ⊢;by_cases h1:0<x/\x<=a
  ·have h2:0<x/\x<=b:=⟨h1.1,by omega⟩
   simp only [h1,h2,and_self,decide_true,if_true,List.length_cons];omega
  ·by_cases h2:0<x/\x<=b
   ·simp only [decide_eq_false h1,decide_eq_true h2,if_true,Bool.false_eq_true,if_false,List.length_cons];omega
   ·simp only [decide_eq_false h1,decide_eq_false h2,Bool.false_eq_true,if_false];exact ih
theorem gO {a b:Int} (h:a<b) (h0:0<b):∀{s:List Int},b∈s->QM s a<QM s b
 | x::r,hm=>by
  have im:=We (show a<=b by omega) r;simp only [QM,List.filter_cons] at im ⊢;by_cases e:x=b
  ·subst e;have h1:¬(0<x/\x<=a):=λh=>by omega
   have h2:0<x/\x<=x:=⟨h0,Int.le_refl _⟩
   simp only [decide_eq_false h1,decide_eq_true h2,if_true,Bool.false_eq_true,if_false,List.length_cons];omega
  ·have ih:=gO h h0 (s:=r) (by simpa [Ne.symm e] using hm);simp only [QM] at ih;by_cases h1:0<x/\x<=a
   ·have h2:0<x/\x<=b:=⟨h1.1,by omega⟩
    simp only [h1,h2,and_self,decide_true,if_true,List.length_cons];omega
   ·by_cases h2:0<x/\x<=b
    ·simp only [decide_eq_false h1,decide_eq_true h2,if_true,Bool.false_eq_true,if_false,List.length_cons];omega
    ·simp only [decide_eq_false h1,decide_eq_false h2,Bool.false_eq_true,if_false];exact ih
theorem gP {ds:List Dt} (ho:OkW ds) (n:Int):QM (D7 ds) n<=4:=by
 have:=nE (D7 ds) n;rw [(Ms ho).len] at this;have:=ho.d4;omega
theorem jA {ds:List Dt} {t:Ty} (h8:AC t=8) (h:0<Ct ds t):Ct ds t∈D7 ds:=by
 obtain ⟨so,n,x,ps⟩:=t;simp only [AC] at h8;subst h8;simp only [Ct,EN,if_true] at h ⊢;cases hq:(D7 ds)[(Kk ds x).toNat]? with
 | none=>simp [List.getD,hq] at h
 | some y=>simp only [List.getD,hq,Option.getD_some];exact List.mem_of_getElem? hq
theorem NQ {g:Mi->Option (Option Ty)}:∀{ks:List Mi} {vs:List Ty},Bg g ks=some (some vs)->ks.length=vs.length/\∀(i:Nat) k v,ks[i]?=some k->vs[i]?=some v->g k=some (some v)
 | [],vs,h=>by
  simp only [Bg,Option.some.injEq] at h;subst h;exact ⟨rfl,λi k v h=>by simp at h⟩
 | k::r,vs,h=>by
  obtain ⟨v,h1,h2⟩:=NO h;cases v with
  | none=>simp only at h2;cases h2
  | some v =>
   simp only at h2;obtain ⟨q,h3,h4⟩:=h2;cases q with
   | none=>simp at h4
   | some ws =>
    simp only [Option.map_some,Option.some.injEq] at h4;subst h4;obtain ⟨i1,i2⟩:=NQ h3;refine ⟨by simp [i1],λi x y hx hy=>?_⟩;cases i with
    | zero=>simp at hx hy;subst hx;subst hy;exact h1
    | succ i=>exact i2 i x y (by simpa using hx) (by simpa using hy)
theorem KN {l:List Ty} {n:Nat}:CB l<=n↔∀v∈l,EJ v<=n:=by
 induction l with
 | nil=>simp [CB]
 | cons t r ih=>simp only [CB,List.mem_cons,forall_eq_or_imp,<- ih];omega
theorem KM (h:Ty) (vs:List Ty):EJ (Cv h vs)=1+CB vs:=by obtain ⟨a,b,c,d⟩:=h;rfl
theorem Jk {ds:List Dt} {f:Nat} {m:Mi} {v:Ty} (hh:AC m.hd≠0) (h:AD ds (f+1) m=some (some v)):∃vs,v=Cv m.hd vs/\m.ks.length=vs.length/\∀(i:Nat) k u,m.ks[i]?=some k->vs[i]?=some u->AD ds f k=some (some u):=by
 rw [Er hh] at h;cases hl:Bg (AD ds f) m.ks with
 | none=>rw [hl] at h;cases h
 | some o =>
  rw [hl] at h;cases o with
  | none=>simp at h
  | some vs =>
   simp only [Option.map_some,Option.some.injEq] at h;subst h;obtain ⟨h1,h2⟩:=NQ hl;exact ⟨vs,rfl,h1,h2⟩
theorem Sc {ds:List Dt} {m:Mi} {h:Ty} (hq:AA ds m=some h):h∈A3 ds m.ty/\0<AQ ds m h/\∀x∈A3 ds m.ty,0<AQ ds m x->BH m.nt x=false->AQ ds m h<=AQ ds m x:=by
 have hm:=G7 hq;simp only [AA,Option.map_eq_some_iff] at hq;obtain ⟨p,hp,rfl⟩:=hq;obtain ⟨q1,_,q3⟩:=Ek hp;rcases q1 with q1 | ⟨_,q2,q4,_⟩
 ·cases q1
 exact ⟨hm,by omega,λx hx h0 hn=>by have:=q3 x hx h0 hn;omega⟩
theorem V7 {ds:List Dt} (ho:OkW ds):∀(k:Nat) (t:Ty) (f:Nat) (v:Ty),AB ds t=true->Pu t=true->Ct ds t<=k->AD ds f (An t)=some (some v)->EJ v<=QM (D7 ds) (Ct ds t)+1:=by
 intro k
 induction k with
 | zero =>
  intro t f v hn hs hk h;obtain ⟨r,r1,r2,_⟩:=FE ho 0 t hn hs hk (f+2) (by omega);have:=I1 (show f<=f+2 by omega) h;rw [r1] at this;cases this;have:=(Cs ho t).1;cases r2 (by omega)
 | succ k ih =>
  intro t f v hn hs hk h;obtain ⟨f,rfl⟩:∃g,f=g+1:=⟨f-1,by cases f with | zero=>simp [AD] at h | succ f=>rfl⟩
  by_cases t1:AC t=1
  ·rw [EC (m:=An t) rfl t1] at h;simp only [Option.some.injEq] at h;obtain ⟨n,e,_⟩:=HR (An t).nt (An t).nt.length 0 (by omega);rw [<- h,Da,e];simp [EJ,CB]
  by_cases t4:AC t=4\/AC t=5\/AC t=6\/AC t=7
  ·rw [EB (m:=An t) rfl t4] at h;simp only [Option.some.injEq] at h;rw [<- h];simp [EJ,CB]
  rw [Db (m:=An t) rfl t1 t4] at h;cases hq:AA ds (An t) with
  | none=>rw [hq] at h;simp at h
  | some x =>
   rw [hq] at h;simp only at h;obtain ⟨x1,x2,x3⟩:=Sc hq;obtain ⟨vs,e,hl,hv⟩:=Jk (m:=AZ ds (An t) x) (Bw x1).2 h;subst e;rw [KM];have hks:(AZ ds (An t) x).ks=(AK ds t (Cq x)).1.map An:=rfl;rw [hks] at hl hv;by_cases h8:AC t=8
   ·obtain ⟨z1,z2⟩:=OR ho (m:=An t) hn h8;have h0:Ct ds t≠0:=λe=>z1 e x x1 x2;obtain ⟨⟨y,y1,y2,y3⟩,_⟩:=z2 h0;have hc:=x3 y y1 y2 rfl;rw [JY ho (m:=An t) hn (.inl x1)] at x2 hc;have hge:=(M0 ho x2).2;have hb:=(Cs ho t).1;have hty:(An t).ty=t:=rfl;rw [hty] at hge y3 hc;have hmem:=jA (ds:=ds) h8 (by omega);have hna:=BK ho.okd (t:=t) (s:=Cq x);rw [C4,List.all_eq_true] at hna;have:CB vs<=QM (D7 ds) (Ct ds t):=KN.2 λu hu=>by
     obtain ⟨i,hi,e⟩:=List.getElem_of_mem hu;have hui:vs[i]?=some u:=by rw [List.getElem?_eq_getElem hi,e]
     obtain ⟨a,ha⟩:=Am (l:=(AK ds t (Cq x)).1) (i:=i) (by simpa using (by rw [<- hl] at hi;simpa using hi));have hg:=hge a (List.mem_of_getElem? ha);have:=ih a f u (hna a (List.mem_of_getElem? ha)) (GU ho a (List.mem_of_getElem? ha)) (by omega) (hv i _ u (by simp [ha]) hui);have:=gO (show Ct ds a<Ct ds t by omega) (by omega) hmem;omega
    omega
   ·rw [Fv h8] at hl;have:vs=[]:=List.eq_nil_of_length_eq_zero (by simpa using hl.symm);subst this;simp [CB]
mutual
def Ud:Mi->Nat
 | .mk _ nt hd ks=>if AC hd=0 then (if nt=[] then 256 else 769) else 1+Nt ks
def Nt:List Mi->Nat
 | []=>0
 | k::r=>Ud k+Nt r
end
theorem iL (m:Mi):Ud m=if AC m.hd=0 then (if m.nt=[] then 256 else 769) else 1+Nt m.ks:=by obtain ⟨a,b,c,d⟩:=m;simp only [Ud,Mi.hd,Mi.nt,Mi.ks];rfl
theorem Uc:∀{ks:List Mi} {vs:List Ty},ks.length=vs.length->(∀(i:Nat) k u,ks[i]?=some k->vs[i]?=some u->Ai u<=Ud k)->Ah vs<=Nt ks
 | [],[],_,_=>Nat.le_refl _
 | k::r,v::vs,hl,h=>by
  have h1:=h 0 k v rfl rfl;have h2:=Uc (ks:=r) (vs:=vs) (by simpa using hl) λi x y hx hy=>h (i+1) x y (by simpa using hx) (by simpa using hy);simp only [Ah,Nt];omega
 | [],_::_,h,_=>by simp at h
 | _::_,[],h,_=>by simp at h
theorem Vm {ds:List Dt} (ho:OkW ds) {N:Nat} (hN:N<=1000000):∀(f:Nat) (m:Mi) (v:Ty),Hb ds N m=true->DF ds m->AD ds f m=some (some v)->Ai v<=Ud m/\EJ v<=GY m+5:=by
 intro f
 induction f with
 | zero=>intro m v _ _ h;simp [AD] at h
 | succ f ih =>
  intro m v hw hc h;have hwi:=Bi.1 hw;have hci:=B6.1 hc;rw [iL];by_cases hh:AC m.hd=0
  case neg =>
   rw [if_neg hh];obtain ⟨vs,rfl,hl,hv⟩:=Jk hh h;rw [PT,KM];have hk:∀(i:Nat) k u,m.ks[i]?=some k->vs[i]?=some u->Ai u<=Ud k/\EJ u<=GY k+5:=λi k u hk hu=>ih k u (hwi.2.2 k (List.mem_of_getElem? hk)) (hci.2.2 k (List.mem_of_getElem? hk)) (hv i k u hk hu);have h1:=Uc hl λi k u a b=>(hk i k u a b).1;have h2:CB vs<=GY m+4:=KN.2 λu hu=>by
    obtain ⟨i,hi,e⟩:=List.getElem_of_mem hu;obtain ⟨k,hki⟩:=Am (l:=m.ks) (i:=i) (by omega);have:=(hk i k u hki (by rw [List.getElem?_eq_getElem hi,e])).2;have:=LF (List.mem_of_getElem? hki);omega
   omega
  rw [if_pos hh];have hg1:1<=GY m:=by rw [Gc];omega
  have hsr:=of_decide_eq_true hwi.2.1.2;constructor
  ·by_cases hnt:m.nt=[]
   ·rw [if_pos hnt,];have hfr:AD ds (f+1) m=AD ds (f+1) (An m.ty):=NR f rfl hnt hh rfl;rw [hfr] at h;obtain ⟨r,r1,r2,r3⟩:=FE ho 256 m.ty hwi.1.1 hwi.2.1.2 (Cs ho m.ty).2 (f+1+258) (by omega);have:=I1 (show f+1<=f+1+258 by omega) h;rw [r1] at this;cases this;have hb:=Cs ho m.ty;by_cases h0:Ct ds m.ty=0
    ·cases r2 h0
    ·obtain ⟨w,w1,w2,_⟩:=r3 h0;cases w1;omega
   ·rw [if_neg hnt];obtain ⟨r,r1,r2⟩:=Vk ho (f:=f+770) (by omega) hwi.1.1 hwi.2.1.2 (by omega) hh;have:=I1 (show f+1<=f+770+1 by omega) h;rw [r1] at this;cases this;exact (r2 v rfl).1
  ·by_cases t1:AC m.ty=1
   ·rw [EC hh t1] at h;simp only [Option.some.injEq] at h;obtain ⟨n,e,_⟩:=HR m.nt m.nt.length 0 (by omega);rw [<- h,Da,e];simp [EJ,CB]
   by_cases t4:AC m.ty=4\/AC m.ty=5\/AC m.ty=6\/AC m.ty=7
   ·rw [EB hh t4] at h;simp only [Option.some.injEq] at h;rw [<- h];simp [EJ,CB]
   rw [Db hh t1 t4] at h;cases hq:AA ds m with
   | none=>rw [hq] at h;simp at h
   | some x =>
    rw [hq] at h;simp only at h;obtain ⟨x1,_,_⟩:=Sc hq;obtain ⟨vs,e,hl,hv⟩:=Jk (m:=AZ ds m x) (Bw x1).2 h;subst e;rw [KM];have hks:(AZ ds m x).ks=(AK ds m.ty (Cq x)).1.map An:=rfl;rw [hks] at hl hv;have hna:=BK ho.okd (t:=m.ty) (s:=Cq x);rw [C4,List.all_eq_true] at hna;have:CB vs<=5:=KN.2 λu hu=>by
     obtain ⟨i,hi,e⟩:=List.getElem_of_mem hu;have hui:vs[i]?=some u:=by rw [List.getElem?_eq_getElem hi,e]
     obtain ⟨a,ha⟩:=Am (l:=(AK ds m.ty (Cq x)).1) (i:=i) (by rw [<- hl] at hi;simpa using hi);have hd:=V7 ho 256 a f u (hna a (List.mem_of_getElem? ha)) (GU ho a (List.mem_of_getElem? ha)) (Cs ho a).2 (hv i _ u (by simp [ha]) hui);have:=gP ho (Ct ds a);omega
    omega
def Ha (p:Ty):Bool:=decide (AC p=1\/AC p=2)
mutual
def nZ:Ty->Nat
 | .mk f _ _ ps=>if f=1\/f=2 then 0 else 1+GX ps
def GX:List Ty->Nat
 | []=>0
 | p::r=>nZ p+GX r
end
mutual
theorem nY:∀p:Ty,nZ p<=Ai p
 | .mk f n x ps=>by
  have:=WR ps;simp only [nZ,Ai]
  split <;> omega
theorem WR:∀l:List Ty,GX l<=Ah l
 | []=>Nat.le_refl _
 | p::r=>by
  have:=nY p;have:=WR r;simp only [GX,Ah];omega
end
theorem mJ (p:Ty):nZ p=if Ha p=true then 0 else 1+GX (Bn p):=by
 obtain ⟨f,n,x,ps⟩:=p;by_cases h:f=1\/f=2 <;> simp [nZ,Ha,AC,Bn,h]
def IS (i:Nat):List Ty->List Ty
 | []=>[]
 | p::r=>if Ha p=true then IS i r else match (Bn p)[i]? with
  | some q=>q::IS i r
  | none=>IS i r
theorem Uo {i:Nat} {p q:Ty}:∀{ps:List Ty},p∈ps->Ha p=false->(Bn p)[i]?=some q->q∈IS i ps
 | x::r,hm,hw,hq=>by
  simp only [IS];rcases List.mem_cons.1 hm with rfl | hm
  ·rw [if_neg (by rw [hw];simp),hq];simp
  ·have ih:=Uo (ps:=r) hm hw hq
   split
   ·exact ih
   ·split
    ·exact List.mem_cons_of_mem _ ih
    ·exact ih
def N1:List Ty->Nat
 | []=>0
 | p::r=>(if Ha p=true then 0 else 1)+N1 r
theorem Un {p:Ty}:∀{ps:List Ty},p∈ps->Ha p=false->1<=N1 ps
 | x::r,hm,hw=>by
  simp only [N1];rcases List.mem_cons.1 hm with rfl | hm
  ·rw [hw];simp
  ·have:=Un (ps:=r) hm hw;omega
def H4 (ps:List Ty):Nat->Nat->Nat
 | _,0=>0
 | i,n+1=>GX (IS i ps)+H4 ps (i+1) n
theorem N4 (p:Ty) (ps:List Ty):∀(n i:Nat),H4 (p::ps) i n<=(if Ha p=true then 0 else GX ((Bn p).drop i))+H4 ps i n
 | 0,i=>by simp only [H4];omega
 | n+1,i=>by
  have ih:=N4 p ps n (i+1);simp only [H4,IS];cases hw:Ha p with
  | true=>rw [hw] at ih;simp only [if_true] at ih ⊢;omega
  | false =>
   rw [hw] at ih;simp only [Bool.false_eq_true,if_false] at ih ⊢;cases hq:(Bn p)[i]? with
   | none =>
    have h1:(Bn p).length<=i:=List.getElem?_eq_none_iff.1 hq;rw [List.drop_eq_nil_of_le (by omega)] at ih;simp only [GX] at ih ⊢;omega
   | some q =>
    rw [Ao hq];simp only [GX];omega
theorem Mv:∀(ps:List Ty) (n:Nat),H4 ps 0 n+N1 ps<=GX ps
 | [],n=>by
  have:∀n i,H4 [] i n=0:=λn=>by
   induction n with
   | zero=>intro i;rfl
   | succ n ih=>intro i;simp [H4,IS,GX,ih]
  simp [this,N1,GX]
 | p::r,n=>by
  have h1:=N4 p r n 0;have h2:=Mv r n;have h3:=mJ p;simp only [GX,N1];cases hw:Ha p with
  | true=>rw [hw] at h1 h3;simp only [if_true] at h1 h3 ⊢;omega
  | false=>rw [hw] at h1 h3;simp only [Bool.false_eq_true,if_false,List.drop_zero] at h1 h3 ⊢;omega
mutual
def KR:Mi->List Ty->Prop
 | .mk _ nt hd ks,ps=>(nt≠[]\/AC hd≠0->∃p∈ps,Ha p=false)/\LT ks 0 ps
def LT:List Mi->Nat->List Ty->Prop
 | [],_,_=>True
 | k::r,i,ps=>KR k (IS i ps)/\LT r (i+1) ps
end
theorem LU (m:Mi) (ps:List Ty):KR m ps↔(m.nt≠[]\/AC m.hd≠0->∃p∈ps,Ha p=false)/\LT m.ks 0 ps:=by obtain ⟨a,b,c,d⟩:=m;simp only [KR,Mi.nt,Mi.hd,Mi.ks]
theorem JX {ps:List Ty}:∀{ks:List Mi} {i:Nat},LT ks i ps↔∀(j:Nat) k,ks[j]?=some k->KR k (IS (i+j) ps)
 | [],i=>by simp [LT]
 | k::r,i=>by
  simp only [LT,JX (ks:=r) (i:=i+1)];constructor
  ·rintro ⟨h1,h2⟩ j x hx;cases j with
   | zero=>simp at hx;subst hx;exact h1
   | succ j=>have:=h2 j x (by simpa using hx);rwa [show i+1+j=i+(j+1) by omega] at this
  ·intro h;exact ⟨h 0 k rfl,λj x hx=>by have:=h (j+1) x (by simpa using hx);rwa [show i+(j+1)=i+1+j by omega] at this⟩
theorem SR (t:Ty) (ps:List Ty):KR (An t) ps:=(LU _ _).2 ⟨λh=>by rcases h with h | h <;> exact absurd rfl h,by simp [An,Mi.ks,LT]⟩
theorem SQ {ds:List Dt} {m:Mi} {h p:Ty} {ps:List Ty} (hp:p∈ps) (hw:Ha p=false):KR (AZ ds m h) ps:=(LU _ _).2 ⟨λ_=>⟨p,hp,hw⟩,JX.2 λj k hk=>by
 simp only [AZ,Mi.ks,List.getElem?_map,Option.map_eq_some_iff] at hk;obtain ⟨t,_,rfl⟩:=hk;exact SR t _⟩
theorem VV {ds:List Dt} {m:Mi} {p:Ty} {ps:List Ty} (hp:p∈ps) (hw:Ha p=false) (h:KR m ps):KR (Af ds m) ps:=by
 rcases CK (ds:=ds) m with e | ⟨_,x,_,e⟩
 ·rw [e];exact h
 ·rw [e];exact SQ hp hw
mutual
theorem MY {ds:List Dt} (is:Bool):∀(p:Ty) {m:Mi} {ps:List Ty},p∈ps->KR m ps->(Aw ds p m).1=2->KR (A7 ds m (Aw ds p m).2.1 (Aw ds p m).2.2 is) ps
 | .mk f n x qs,m,ps,hp,hc,hl=>by
  by_cases h12:f=1\/f=2
  ·simp only [Aw,if_pos h12] at hl;cases hl
  have hw:Ha (.mk f n x qs)=false:=decide_eq_false h12;have hs:=VV (ds:=ds) hp hw hc;have el:Aw ds (.mk f n x qs) m=if AC (Af ds m).hd=0/\BH (Af ds m).nt (AO (.mk f n x qs))=false then (2,[],AO (.mk f n x qs)) else
   if AC (Af ds m).hd=0\/A6 (Af ds m).hd (AO (.mk f n x qs))=false then (0,[],zT) else AY ds 0 qs (Af ds m).ks:=by simp only [Aw,if_neg h12]
  rw [el] at hl ⊢
  split
  ·cases is with
   | true=>exact SQ hp hw
   | false =>
    rw [LU] at hc ⊢;exact ⟨λ_=>⟨_,hp,hw⟩,hc.2⟩
  ·rename_i h1;rw [if_neg h1] at hl
   split
   ·rename_i h2;rw [if_pos h2] at hl;cases hl
   ·rename_i h2;rw [if_neg h2] at hl;have h0:AC (Af ds m).hd≠0:=λe=>h2 (.inl e);obtain ⟨hs1,hs2⟩:=(LU _ _).1 hs;obtain ⟨j,q,k,j1,j2,j3,j4,j5,j6⟩:=QF (ds:=ds) is qs (l:=(Af ds m).ks) (i:=0) hl;rw [j4,j5];have hz:(0+(j:Int)).toNat=j:=by omega
    simp only [A7,hz,j2];rw [LU];refine ⟨λ_=>⟨_,hp,hw⟩,JX.2 λi y hy=>?_⟩;rw [JX] at hs2;by_cases e:j=i
    ·subst e;replace hy:((Af ds m).ks.set j (A7 ds k (Aw ds q k).2.1 (Aw ds q k).2.2 is))[j]?=some y:=hy;rw [List.getElem?_set_self (List.getElem?_eq_some_iff.1 j2).1] at hy;cases hy;exact j6 (IS (0+j) ps) (by rw [Nat.zero_add];exact Uo hp hw j1) (hs2 j k j2)
    ·replace hy:((Af ds m).ks.set j (A7 ds k (Aw ds q k).2.1 (Aw ds q k).2.2 is))[i]?=some y:=hy;rw [List.getElem?_set_ne e] at hy;exact hs2 i y hy
theorem QF {ds:List Dt} (is:Bool):∀(qs:List Ty) {l:List Mi} {i:Int},(AY ds i qs l).1=2->∃(j:Nat) (q:Ty) (k:Mi),qs[j]?=some q/\l[j]?=some k/\(Aw ds q k).1=2/\(AY ds i qs l).2.1=(i+j)::(Aw ds q k).2.1/\(AY ds i qs l).2.2=(Aw ds q k).2.2 /\
  ∀ps,q∈ps->KR k ps->KR (A7 ds k (Aw ds q k).2.1 (Aw ds q k).2.2 is) ps
 | [],l,i,h=>by simp [AY] at h
 | q::r,[],i,h=>by simp [AY] at h
 | q::r,k::ks,i,h=>by
  simp only [AY] at h ⊢;by_cases h1:(Aw ds q k).1=1
  ·rw [if_pos h1] at h ⊢;obtain ⟨j,y,z,a,b,c,d,e,g⟩:=QF is r h;exact ⟨j+1,y,z,by simpa using a,by simpa using b,c,by rw [d];simp;omega,e,g⟩
  ·rw [if_neg h1] at h ⊢;exact ⟨0,q,k,rfl,rfl,h,by simp,rfl,λps hp hk=>MY is q hp hk h⟩
end
mutual
theorem YK:∀(m:Mi) {ps:List Ty},KR m ps->(∀N ds,Hb ds N m=true->Ud m<=256+513*GX ps)
 | .mk ty nt hd ks,ps,hc,N,ds,hw=>by
  simp only [KR] at hc;obtain ⟨h1,h2⟩:=hc;have hwi:=Bi.1 hw;simp only [Mi.ks] at hwi;simp only [Ud];have hone:(nt≠[]\/AC hd≠0)->1<=N1 ps/\N1 ps<=GX ps:=λh=>by
   obtain ⟨p,hp,hpw⟩:=h1 h;have:=Mv ps 0;exact ⟨Un hp hpw,by omega⟩
  split
  ·split
   ·omega
   ·rename_i h;have:=hone (.inl h);omega
  ·rename_i h;have ho:=hone (.inr h);have hk:=VU ks h2 N ds hwi.2.2;have hs:=Mv ps ks.length;have h3:=hwi.1.2.1;omega
theorem VU:∀(ks:List Mi) {i:Nat} {ps:List Ty},LT ks i ps->(∀N ds,(∀k∈ks,Hb ds N k=true)->Nt ks<=ks.length*256+513*H4 ps i ks.length)
 | [],i,ps,_,N,ds,_=>by simp [Nt]
 | k::r,i,ps,hc,N,ds,hw=>by
  simp only [LT] at hc;have h1:=YK k hc.1 N ds (hw k (by simp));have h2:=VU r hc.2 N ds (λx hx=>hw x (by simp [hx]));simp only [Nt,List.length_cons,H4,Nat.mul_add,Nat.add_mul];omega
end
theorem To {ds:List Dt} (ho:OkW ds) {t:Ty}:∀(f N:Nat) (m:Mi) (l:List (Ty×Int)) (v:Ty) (ps:List Ty),N+f<=1000000->MOk ds t N m->KR m ps->(∀x∈l,x.1∈ps)->Ir ds t l->Cj ds f m l=some (some v)->Ai v<=256+513*GX ps/\EJ v<=19:=by
 intro f
 induction f with
 | zero=>intro N m l v ps _ _ _ _ _ h;simp [Cj] at h
 | succ f ih =>
  intro N m l v ps hN hm hc hp hr h;cases l with
  | nil =>
   obtain ⟨b1,b2⟩:=Vm ho (by omega) 1000 m v hm.wf hm.coh h;have:=YK m hc N ds hm.wf;have:=hm.hgt;exact ⟨by omega,by omega⟩
  | cons x l =>
   obtain ⟨p,b⟩:=x;obtain ⟨h1,h2,h3⟩:=hr (p,b) (by simp);have hpm:=hp (p,b) (by simp);simp only at h1 h2 h3 hpm;simp only [Cj] at h;by_cases h22:(Aw ds p m).1=2
   ·rw [if_pos h22] at h;have hmT:=hm.split ho h1 h2 h3 h22;cases ha:Cj ds f (A7 ds m (Aw ds p m).2.1 (Aw ds p m).2.2 true) ((p,b)::l) with
    | none=>rw [ha] at h;simp [N7] at h
    | some ra =>
     cases hbb:Cj ds f (A7 ds m (Aw ds p m).2.1 (Aw ds p m).2.2 false) ((p,b)::l) with
     | none=>rw [ha,hbb] at h;simp [N7] at h
     | some rb =>
      rw [ha,hbb] at h;simp only [N7,Option.some.injEq] at h;rcases Tk (ds:=ds) ra rb with e | e
      ·rw [e] at h;subst h;exact ih (N+1) _ _ v ps (by omega) (hmT true) (MY true p hpm hc h22) hp hr ha
      ·rw [e] at h;subst h;exact ih (N+1) _ _ v ps (by omega) (hmT false) (MY false p hpm hc h22) hp hr hbb
   ·rw [if_neg h22] at h
    split at h
    ·exact ih N m l v ps (by omega) hm hc (λy hy=>hp y (by simp [hy])) (λy hy=>hr y (by simp [hy])) h
    ·simp at h
end Go.Hk
namespace Go.Hk
structure oT where
 dx:D
 es:List (List V)
 es2:List (List V)
 sz:Nat
 bytes:Nat
 dst:Option Nat
 todo:List DI
def YS:D->Option (List (List V))
 | .nils=>some []
 | .clip es=>some es
 | _=>none
def lG (tt:TT) (n:Nat) (env:Env) (todo:List DI):Option oT :=
 match AS todo ([],[]) with
 | some (_,o,todo')=>match o.guard,o.op with
  | none,.call { callee:=.builtin .append,args:=⟨[x,y]⟩,argTypes:=⟨[t,t']⟩ }=>match Nat.beq t t',lk tt t,CQ env x,CQ env y with
   | true,some { sh:=.sl e,.. },some dx,some (.imm (.sl (e1::es2)))=>match lk tt e,YS dx with
    | some i,some es=>match Nat.beq i.zero.length i.size&&Nat.blt 0 i.size,B1 n o.dst with
     | true,true=>some ⟨dx,es,e1::es2,i.size,i.bytes,o.dst,todo'⟩
     | _,_=>none
    | _,_=>none
   | _,_,_,_=>none
  | _,_=>none
 | none=>none
section
variable {P:Program} {n:Nat} {F:List Nat} {Q:DQ} {tt:TT} {env env':Env} {st st':St} {ids ids':List Nat} {k todo todo':List DI} {I:Imm} {μ:Mu} {w w':World} {a:Act} {Pn:V->Prop} {d:D} {cx:Prop} {ob:List Prop}
theorem StRep.growI (hst:StRep I μ st ids w) (hg:w.grownBy w' none) {c:Nat} {o:Obj} (hc:w.heap.size<=c) (ho:w'.heap[c]?=some o):∃I',I' c=some o/\I.le I'/\StRep I' μ st ids w'/\Ext I μ st w I' μ st w':=by
 have hnew:I c=none:=by
  cases h:I c with
  | none=>rfl
  | some o'=>have:=BG (hst.imm _ _ h);omega
 have hold:∀b,b<w.heap.size->w'.heap[b]?=w.heap[b]?:=λb hb=>hg.block b hb (by simp);have hle:I.le (λb=>if b=c then some o else I b):=λb o' h=>by
  have:b≠c:=λe=>by rw [e,hnew] at h;cases h
  simp [this,h]
 refine ⟨λb=>if b=c then some o else I b,by simp,hle,?_,?_⟩
 ·refine { imm:=λb o' h=>?_,blk:=λid blk hl=>?_,apart:=λid blk g b hl hg' hb=>?_,inj:=hst.inj,nodup:=hst.nodup,idsFree:=hst.idsFree }
  ·by_cases hb:b=c
   ·subst hb;simp at h;subst h;exact ho
   ·simp [hb] at h;have:=hst.imm _ _ h;rw [hold b (BG this)];exact this
  ·obtain ⟨g,h1,h2⟩:=hst.blk id blk hl;exact ⟨g,h1,(h2.mono hle (Mu.le_refl μ)).world (λb hb=>hold b (hst.apart id blk g b hl h1 hb).2)⟩
  ·obtain ⟨h1,h2⟩:=hst.apart id blk g b hl hg' hb;have:b≠c:=by omega
   exact ⟨by simp [this,h1],Nat.lt_of_lt_of_le h2 hg.size⟩
 ·exact { imm:=hle,os:=hg.os,tape:=hg.tape,output:=hg.output,size:=hg.size,block:=λb hb _=>hold b hb,fresh:=λb _ h=>h,old:=λb hb _=>if_neg (by omega) }
theorem W9 {e:TypeId} {sz:Nat} {u:Value} {es:List (List V)} {xs:List Value} (h:w.ownsRow 0 e sz u es.length xs) (hr:RepVL I xs es.flatten) (hsz:∀c∈es,c.length=sz) (h1:∀v∈xs,v.oneCell'=true) {b:Nat} {o:Obj} (hb:u.ownBlock=some b) (ho:w.heap[b]?=some o) (hI:I b=some o):RepV I u (.sl es):=by
 rcases h.2 with ⟨rfl,_⟩ | ⟨g,cap,cur,rfl,_,hheap,hle,hcm,hcs,htake⟩
 ·cases hb
 ·have hb:g=b:=by simpa [Value.ownBlock] using hb
  subst hb;rw [hheap] at ho;cases ho;have hxl:=h.1;refine .sl g 0 es.length cap sz es (λi j=>(xs[i*sz+j]?).getD undef) rfl hle hcm hsz ?_ ?_
  ·intro i c j x hi hj;have hf:=BY hsz i c j x hi hj;have hlt:i*sz+j<xs.length:=by rw [hr.1];exact (List.getElem?_eq_some_iff.1 hf).1
   have hxs:xs[i*sz+j]?=some xs[i*sz+j]:=List.getElem?_eq_getElem hlt;rw [hxs,Option.getD_some];refine ⟨?_,h1 _ (List.getElem_mem hlt)⟩;unfold Imm.cell;rw [hI];have hcur:cur[i*sz+j]?=some xs[i*sz+j]:=by
    have e1:(cur.toList.take (es.length*sz))[i*sz+j]?=some xs[i*sz+j]:=by rw [htake];exact hxs
    have e2:=e1;rw [List.getElem?_take] at e2
    split at e2
    ·simpa using e2
    ·cases e2
   simp only [Nat.zero_add,hcur]
  ·intro i c j x hi hj;have hf:=BY hsz i c j x hi hj;have hlt:i*sz+j<xs.length:=by rw [hr.1];exact (List.getElem?_eq_some_iff.1 hf).1
   have hxs:xs[i*sz+j]?=some xs[i*sz+j]:=List.getElem?_eq_getElem hlt;rw [hxs,Option.getD_some];exact hr.2 _ _ x hxs hf
theorem SC (htt:TTok P tt) {c:oT} (h:lG tt n env todo=some c) (hok:gV c.sz c.bytes (.clip []) c.es c.es2) (hes:∀x∈c.es,x.length=c.sz)
  (hk:G P n F Q c.todo (Bz c.dst (.imm (.sl (c.es++c.es2))) env) st ids):G P n F Q todo env st ids:=by
 unfold lG at h
 split at h
 ·rename_i all o todo' hn1
  split at h
  ·rename_i x y t t' hg hop
   split at h
   ·rename_i e _ _ _ _ dx e1 es2 htt' ht hx hy;have:=Nat.eq_of_beq_eq_true htt';subst this
    split at h
    ·rename_i i es hi hb
     split at h
     ·rename_i hz hd;cases h;simp only at hok hes hk;refine Bq (fr:=[]) (wr:=[]) (rd:=[]) hn1 ?_ hd (λc hc=>by rw [hop] at hc;cases hc) hk;intro I μ st1 ids1 a w hag hst hon;refine ⟨λ_=>?_,λhw=>by rw [A0 hg] at hw;cases hw⟩;have hops:=AJ hon;rw [hop] at hops;have rx:=hops x (by simp [Op.operands,Call.operands]) _ hx;have ry:=(hops y (by simp [Op.operands,Call.operands]) _ hy).immInv;obtain ⟨inf,z,z1,z2,z3,z4,z5,z6⟩:=(htt e i hi).info;have hu:P.underlying t=some (.slice e):=htt.sh ht;simp only [Bool.and_eq_true,Nat.blt_eq] at hz;have hzl:z.cells.size=i.size:=by
       have:=(z5 I μ).1;rw [Nat.eq_of_beq_eq_true hz.1] at this;simpa using this
      obtain ⟨k1,k2,k3,_⟩:=hok;have hrun:∀{u w'},(Builtin.append_ #[t,t] o.type #[a.eval x,a.eval y]).run P w = .ok u w'->(execOp a.eval o).run P w = .ok (.value u) w':=by
       intro u w' h;simp only [execOp,hop,resolve,invoke,builtin,Sem.run_bind,Sem.run_pure,Result.andThen_ok,List.map_toArray,List.map_cons,List.map_nil,h]
      rcases Ll hst.imm ry k1 hz.2 with ⟨_,e0⟩ | ⟨yb,yo,yc,news,ey,_,_,n1,n2,n3,n4,n5⟩
      ·cases e0
      have fin:∀{u:Value} {w':World} {xs:List Value},(Builtin.append_ #[t,t] o.type #[a.eval x,a.eval y]).run P w = .ok u w'->w'.ownsRow 0 e i.size u (es.length+(e1::es2).length) (xs++news)->w.grownBy w' none->(∀b,u.ownBlock=some b->w.heap.size<=b)->RepVL I xs es.flatten->(∀v∈xs,v.oneCell'=true) ->
        valX P ((execOp a.eval o).run P w) (λv w'=>∃I' μ',StRep I' μ' ([]++st1) ids1 w'/\RepD I' μ' v (.imm (.sl (es++e1::es2)))/\μ.le μ'/\Ext I μ st1 w I' μ' ([]++st1) w') (Kg (Lu Q) I μ st1 w):=by
       intro u w' xs r1 r2 r3 r4 r5 r6;rw [hrun r1];obtain ⟨b,hb,hlt⟩:∃b,u.ownBlock=some b/\b<w'.heap.size:=by
        rcases r2.2 with ⟨_,hh⟩ | ⟨g,cap,cur,rfl,_,hheap,_⟩
        ·simp at hh
        ·exact ⟨g,rfl,BG hheap⟩
       have ho:w'.heap[b]?=some w'.heap[b]:=Array.getElem?_eq_getElem hlt;obtain ⟨I',q1,q2,q3,q4⟩:=hst.growI r3 (r4 b hb) ho;refine ⟨I',μ,q3,.imm _ _ (W9 (es:=es++e1::es2) (by rw [List.length_append];exact r2) ?_ ?_ ?_ hb ho q1),Mu.le_refl μ,q4⟩
       ·rw [List.flatten_append];exact (r5.append n4).mono q2
       ·intro c hc;exact (List.mem_append.1 hc).elim (hes c) (k1 c)
       ·intro v hv;exact (List.mem_append.1 hv).elim (r6 v) (n3 v)
      have hnil:a.eval x = .slice none 0 0->es=[]->valX P ((execOp a.eval o).run P w) (λv w'=>∃I' μ',StRep I' μ' ([]++st1) ids1 w'/\RepD I' μ' v (.imm (.sl (es++e1::es2)))/\μ.le μ'/\Ext I μ st1 w I' μ' ([]++st1) w') (Kg (Lu Q) I μ st1 w):=λhv he=>by
       subst he;obtain ⟨v',w',q1,q2,q3,_⟩:=run_append_own (P:=P) w w.heap.size t o.type e inf z i.size i.bytes hu z1 z4 z2 z3 hzl hz.2 (.slice none 0 0) 0 [] (World.ownsRow_nil w _ e i.size) ⟨yb,yo,none⟩ (e1::es2).length yc news n1 n2 n3
        (by simpa using k2) (by simpa using k3) (Nat.le_refl _)
       have q2':w'.ownsRow 0 e i.size v' (0+(e1::es2).length) ([]++news):=⟨q2.1,q2.2.imp id λ⟨g,cap,cur,a1,_,a2⟩=>⟨g,cap,cur,a1,Nat.zero_le _,a2⟩⟩
       exact fin (by rw [hv,ey];exact q1) q2' ⟨q3.os,q3.tape,q3.output,q3.size,λb hb _=>q3.block b hb (by simp [Value.ownBlock])⟩ (λb h=>(q2.lt b h).1) .nil (by simp)
      have hgrow:∀(ad:Addr) (cap:Nat) (xs:List Value),a.eval x = .slice (some ad) es.length cap->xs.length=es.length*i.size->(∀j u,xs[j]?=some u->w.cell? (ad.add j)=some u)->cap<es.length+(e1::es2).length->RepVL I xs es.flatten->(∀v∈xs,v.oneCell'=true) ->
        valX P ((execOp a.eval o).run P w) (λv w'=>∃I' μ',StRep I' μ' ([]++st1) ids1 w'/\RepD I' μ' v (.imm (.sl (es++e1::es2)))/\μ.le μ'/\Ext I μ st1 w I' μ' ([]++st1) w') (Kg (Lu Q) I μ st1 w):=λad cap xs hv hl hcell hlt hr h1=>by
       have hsmall:es.length+(e1::es2).length<=9223372036854775807:=by simp only [maxLen] at k2;omega
       have hr':=run_append_grow (P:=P) w t o.type e inf z hu z1 z4 ad es.length cap xs (by rw [z2];exact hl) hcell ⟨yb,yo,none⟩ (e1::es2).length yc news (by rw [z2];exact n1) n2 hlt (by omega) (by rw [z3];exact growslice_fits hlt k3);have hge:=grownCap_ge w (es.length+(e1::es2).length) cap e;have hcm:grownCap w (es.length+(e1::es2).length) cap e<=maxLen:=grownCap_le_maxLen w _ cap e k2;have hlen:(xs++news).length=(es.length+(e1::es2).length)*i.size:=by rw [List.length_append,hl,n1,Nat.add_mul]
       refine fin (by rw [hv,ey];exact hr') (xs:=xs) ⟨hlen,.inr ⟨w.heap.size,_,_,rfl,Nat.zero_le _,Dr w.drew _,hge,hcm,?_,?_⟩⟩ ⟨rfl,rfl,rfl,by simp,λk hk _=>F5 w.drew _ hk⟩
        (λb h=>by simp [Value.ownBlock] at h;omega) hr h1
       ·simp only [Array.size_append,List.size_toArray,size_zeroCells,hzl,hl,n1,<- Nat.add_mul];congr 1;omega
       ·simp only [Array.toList_append,List.append_assoc];rw [<- List.append_assoc,<- hlen];exact List.take_left
      cases dx with
      | nils =>
       simp only [YS,Option.some.injEq] at hb;subst hb;have hv:a.eval x = .slice none 0 0:=by
        generalize a.eval x=v at rx;cases rx;rfl
       exact hnil hv rfl
      | clip es' =>
       simp only [YS,Option.some.injEq] at hb;subst hb;have rx':∃ad len,a.eval x = .slice ad len len/\RepV I (.slice ad len len) (.sl es'):=by
        generalize a.eval x=v at rx;cases rx with
        | clip ad len _ h=>exact ⟨ad,len,rfl,h⟩
       obtain ⟨ad,len,hv,hr⟩:=rx';rcases Ll hst.imm hr hes hz.2 with ⟨⟨adx,ex⟩,e0⟩ | ⟨xb,xo,xc,xs,ex,_,_,p1,p2,p3,p4,p5⟩
       ·cases adx with
        | none=>exact hnil (hv.trans ex) e0
        | some adx =>
         subst e0;exact hgrow adx 0 [] (hv.trans ex) (by simp) (λj u h=>by simp at h) (by simp) .nil (by simp)
       ·cases ex;exact hgrow ⟨xb,xo,none⟩ _ xs hv p1 p2 (by simp) p4 p3
      | _=>simp [YS] at hb
     ·cases h
    ·cases h
   ·cases h
  ·cases h
 ·cases h
end
end Go.Hk
namespace Go.Hk
structure PCl where
 es:List (List V)
 m:Int
 m2:Int
 dst:Option Nat
 todo:List DI
def lC (tt:TT) (n:Nat) (env:Env) (todo:List DI):Option PCl :=
 match AS todo ([],[]) with
 | some (_,o,todo')=>match o.guard,o.op with
  | none,.slice t x none (some h) (some c)=>match lk tt t,CQ env x,CQ env h,CQ env c,B1 n o.dst with
   | some { sh:=.sl e,.. },some (.imm (.sl es)),some (.imm (.int _ m)),some (.imm (.int _ m2)),true=>match lk tt e with
    | some _=>some ⟨es,m,m2,o.dst,todo'⟩
    | none=>none
   | _,_,_,_,_=>none
  | _,_=>none
 | none=>none
section
variable {P:Program} {n:Nat} {F:List Nat} {Q:DQ} {tt:TT} {env env':Env} {st st':St} {ids ids':List Nat} {k todo todo':List DI} {I:Imm} {μ:Mu} {w w':World} {a:Act}
theorem mY (htt:TTok P tt) {c:PCl} (h:lC tt n env todo=some c) (h1:c.m=c.es.length) (h2:c.m2=c.es.length)
  (hk:G P n F Q c.todo (Bz c.dst (.clip c.es) env) st ids):G P n F Q todo env st ids:=by
 unfold lC at h
 split at h
 ·rename_i all o todo' hn1
  split at h
  ·rename_i t x hh cc hg hop
   split at h
   ·rename_i e _ _ _ _ es k1 m k2 m2 ht hx hhh hcc hd
    split at h
    ·rename_i ti hti;cases h;simp only at h1 h2 hk;subst h1;subst h2;refine Bq (fr:=[]) (wr:=[]) (rd:=[]) hn1 ?_ hd (λc hc=>by rw [hop] at hc;cases hc) hk;intro I μ st1 ids1 a w hag hst hon;refine ⟨λ_=>?_,λhw=>by rw [A0 hg] at hw;cases hw⟩;have hops:=AJ hon;rw [hop] at hops;have rx:=(hops x (by simp [Op.operands]) _ hx).immInv;have e1:a.eval hh = .int k1 es.length:=(hops hh (by simp [Op.operands]) _ hhh).immInv.intInv;have e2:a.eval cc = .int k2 es.length:=(hops cc (by simp [Op.operands]) _ hcc).immInv.intInv;have hb:∀(k:IntKind) (x y:Nat) (c:BoundsCode),x<=y->(Instr.sliceBound (.int k x) y c).run P w = .ok x w:=by
      intro k x y c hxy;simp [Instr.sliceBound,asIntOf,hxy]
     have hb0:∀(k:IntKind) (c:BoundsCode),(Instr.sliceBound (.int k 0) 0 c).run P w = .ok 0 w:=by
      intro k c;simp [Instr.sliceBound,asIntOf]
     have key:∃ad,(Instr.sliceAt t (a.eval x) none (some (.int k1 es.length)) (some (.int k2 es.length))).run P w = .ok (.slice ad es.length es.length) w/\RepV I (.slice ad es.length es.length) (.sl es):=by
      generalize a.eval x=v at rx;cases rx with
      | slnil=>exact ⟨none,by simp [Instr.sliceAt,run_underlying (htt.sh ht),Instr.slice,Instr.sliceBounds,hb0,(htt e ti hti).sizeOf w],.slnil⟩
      | sl0 ad=>exact ⟨ad,by simp [Instr.sliceAt,run_underlying (htt.sh ht),Instr.slice,Instr.sliceBounds,hb0,(htt e ti hti).sizeOf w],.sl0 ad⟩
      | sl b o len cap sz _ vs hl hc hm hsz hcell hrep =>
       subst hl;refine ⟨some ⟨b,o,none⟩,?_,.sl b o _ _ sz es vs rfl (Nat.le_refl _) (by omega) hsz hcell hrep⟩;simp [Instr.sliceAt,run_underlying (htt.sh ht),Instr.slice,Instr.sliceBounds,hb _ _ _ _ hc,hb _ _ _ _ (Nat.le_refl es.length),(htt e ti hti).sizeOf w,De]
     obtain ⟨ad,r1,r2⟩:=key;have hrun:(execOp a.eval o).run P w = .ok (.value (.slice ad es.length es.length)) w:=by
      simp only [execOp,hop,e1,e2,Option.map_none,Option.map_some,Sem.run_bind,r1,Result.andThen_ok,Sem.run_pure]
     rw [hrun];exact ⟨I,μ,hst,.clip _ _ _ r2,Mu.le_refl μ,Ext.refl _ _ _ _⟩
    ·cases h
   ·cases h
  ·cases h
 ·cases h
end
end Go.Hk
namespace Go.Hk
open Go.Proofs
def Bu (l:List Ty):List (List V):=l.map Bh
@[simp] theorem hdsV_length (l:List Ty):(Bu l).length=l.length:=by simp [Bu]
@[simp] theorem headV_length (h:Ty):(Bh h).length=3:=by obtain ⟨a,b,c,d⟩:=h;rfl
theorem Jr {l:List Ty} {i:Nat} {h:Ty} (e:l[i]?=some h):(Bu l)[i]?=some (Bh h):=by simp [Bu,e]
theorem NU (a b:List Ty):Bu (a++b)=Bu a++Bu b:=by simp [Bu]
theorem Y9 (l:List Ty):∀c∈Bu l,c.length=3:=λc hc=>by obtain ⟨h,_,rfl⟩:=List.mem_map.1 hc;simp
def TD (h:Ty):Int->List Ty->Int
 | _,[]=>-1
 | i,x::r=>if A6 h x=true then i else TD h (i+1) r
theorem Vw (h:Ty):∀(l:List Ty) (i:Int),0<=i->decide (0<=TD h i l)=BH l h
 | [],i,_=>rfl
 | x::r,i,hi=>by
  have ih:=Vw h r (i+1) (by omega);have e:BH (x::r) h=(A6 h x||BH r h):=by rw [GH h x];rfl
  rw [e];by_cases hb:A6 h x=true
  ·simp only [TD,if_pos hb];rw [hb];simp [hi]
  ·simp only [TD,if_neg hb];rw [ih];simp [hb]
theorem bJ (l:List Ty) (h:Ty):Al Tryz.prog 197 [.sl (Bu l),.agg (Bh h)] (.int .i64 (TD h 0 l)):=by
 obtain ⟨h1,h2,h3,h4⟩:=h;refine AI λhv=>?_;simp [Cf,Ey,maxLen,Bh] at hv;refine Ae Ak Tryz.func197 (by decide +kernel) rfl [1,2] rfl rfl ?_;refine mg [] rfl (by simp) ?_;refine Aj (λi:Nat=>[(8,.imm (.int .i64 i)),(7,.imm (.int .i64 l.length)),(0,.imm (.sl (Bu l))),(3,.ref 1 0)]) (λ_=>[(1,some (.immb 150 3 (Bh (.mk h1 h2 h3 h4))))]) [2] (λi=>l.length-i) (λi=>i<=l.length/\TD (.mk h1 h2 h3 h4) 0 l=TD (.mk h1 h2 h3 h4) i (l.drop i)) 0
  ⟨Nat.zero_le _,rfl⟩ ⟨rfl,As (by simp),rfl,rfl,trivial⟩ ⟨rfl,trivial⟩ rfl λi hi ih=>?_
 obtain ⟨hi1,hi2⟩:=hi;refine md [] rfl (by simp) ?_;refine Aa rfl (λh=>?_) (λh=>?_)
 ·simp at h;obtain ⟨x,hx⟩:=Am h;rw [Ao hx] at hi2;simp only [TD] at hi2;refine md [] rfl (by simp) ?_;refine mi rfl (c:=Bh x) (λ_=>⟨by simp,by simpa using Jr hx,by simp⟩) (by simp [Ag]) ?_;obtain ⟨x1,x2,x3,x4⟩:=x;refine mg [] rfl (by simp [Ag]) ?_;refine V5 Ak rfl LG (by simp [Ag]) ?_;refine mg [] rfl (by simp [Ag];rfl) ?_;by_cases e:A6 (.mk h1 h2 h3 h4) (.mk x1 x2 x3 x4)=true
  ·rw [if_pos e] at hi2;simp only [A6] at e;refine Aa rfl (λh=>?_) (λh=>by exfalso;simp at h e;grind);refine md [] rfl (by simp) ?_;refine Ab ⟨_,rfl,tV ?_,trivial⟩;rw [hi2]
  ·rw [if_neg e] at hi2;simp only [A6] at e;refine Aa rfl (λh=>by exfalso;simp at h e;grind) (λh=>?_);refine md [] rfl (by simp) ?_;exact Ad (ih (i+1) (by omega) ⟨by omega,hi2⟩) ⟨As (B9 (by omega) (by omega)),rfl,rfl,rfl,trivial⟩ ⟨rfl,trivial⟩ rfl
 ·simp at h;rw [List.drop_eq_nil_of_le (by omega)] at hi2;refine Ar rfl ?_;refine md [] rfl (by simp) ?_;refine Ab ⟨_,rfl,tV ?_,trivial⟩;rw [hi2];rfl
theorem Gm (l:List Ty) (h:Ty):Al Tryz.prog 152 [.sl (Bu l),.agg (Bh h)] (.bool (BH l h)):=by
 have hI:=bJ l h;have hh:=Vw h l 0 (by omega);generalize TD h 0 l=k at *;obtain ⟨h1,h2,h3,h4⟩:=h;refine Ae Ak Tryz.func152 (by decide +kernel) rfl [1,2] rfl rfl ?_;refine mg [] rfl (by simp) ?_;refine Ac rfl (λ_=>hI) (by simp) ?_;refine mg [] rfl (by simp) ?_;rw [<- hh];exact Ab ⟨_,rfl,tV rfl,trivial⟩
theorem Uj (h:Ty) (hf:AC h≠0):Al Tryz.prog 130 [.agg (Bh h)] (.agg (nD h)):=by
 obtain ⟨h1,h2,h3,h4⟩:=h;refine Ae Ak Tryz.func130 (by decide +kernel) rfl [1,2] rfl rfl ?_;refine mg [] rfl (by simp) ?_;simp only [nD,AC] at hf ⊢;rw [if_neg hf];exact gG 2 [.imm (.int .i64 h1),.imm (.int .i64 h2),.imm (.str h3),.imm .nilsl] rfl (by simp [nX]) (Ab ⟨_,rfl,tV rfl,trivial⟩)
theorem bM (path:List Int) (hl:path.length<=1000000):Al Tryz.prog 153 [.sl (AX path)] (.sl (AX path)):=by
 have hs:∀c∈AX path,c.length=1:=λc hc=>by simp only [AX,List.mem_map] at hc;obtain ⟨q,_,rfl⟩:=hc;rfl
 have hl:(AX path).length<=1000000:=by simpa using hl
 generalize AX path=l at *;refine Ae Ak Tryz.func153 (by decide +kernel) rfl [1,2] rfl rfl ?_;refine mg [] rfl (by simp) ?_;refine SP Ak rfl λb hb=>?_;cases b with
 | true =>
  have he:l=[]:=by
   cases l with
   | nil=>rfl
   | cons a b=>exact absurd (hb (by simp)) (by simp)
  subst he;refine md [] rfl (by simp) ?_;refine Aa rfl (λh=>?_) (λh=>by simp at h);refine md [] rfl (by simp) ?_;exact Ab ⟨_,rfl,tV rfl,trivial⟩
 | false =>
  refine md [] rfl (by simp) ?_;refine Aa rfl (λh=>by simp at h) (λh=>?_);cases l with
  | nil =>
   refine md [] rfl (by simp) ?_;refine aN Ak rfl ?_;refine mg [] rfl (by simp) ?_;exact Ab ⟨_,rfl,tV rfl,trivial⟩
  | cons a b =>
   refine md [] rfl (by simp) ?_;refine SC Ak rfl ⟨hs,by simp only [maxLen,List.length_nil] at *;omega,by simp only [List.length_nil] at *;omega,λc hc=>by simp at hc,by simp⟩ (by simp) ?_;refine mg [] rfl (by simp) ?_;exact Ab ⟨_,rfl,tV rfl,trivial⟩
theorem iF (path:List Int):AV Tryz.prog 154 [.imm (.sl (AX path))] [] (.ret (.clip (AX path)) []):=by
 generalize AX path=l at *;refine Ae Ak Tryz.func154 (by decide +kernel) rfl [1,2] rfl rfl ?_;refine mg [] rfl (by simp) ?_;refine mY Ak rfl rfl rfl ?_;refine mg [] rfl (by simp) ?_;exact Ab ⟨_,rfl,rfl,trivial⟩
set_option maxHeartbeats 1000000 in
theorem WV (nt:List Ty) (hl:nt.length<=1000000):Al Tryz.prog 159 [.sl (Bu nt)] (.agg (Bh (Da nt))):=by
 have hA:=λh=>Gm nt h;refine Ae Ak Tryz.func159 (by decide +kernel) rfl [1,2,3] rfl rfl ?_;refine mg [] rfl (by simp) ?_;refine Aj (λi:Nat=>[(3,.imm (.int .i64 i)),(2,.ref 1 0),(0,.imm (.sl (Bu nt)))]) (λ_=>[(1,some (.immb 150 3 [.int .i64 0,.int .i64 0,.str []]))]) [2,3] (λi=>nt.length+1-i)
  (λi=>i<=nt.length/\Da nt=Jf nt (nt.length-i) i/\∀j:Nat,j<i->BH nt (.mk 1 j [] [])=true) 0 ⟨Nat.zero_le _,rfl,λj h=>by omega⟩ ⟨rfl,rfl,rfl,trivial⟩ ⟨rfl,trivial⟩ rfl λi hi ih=>?_
 obtain ⟨hi1,hi2,hi3⟩:=hi;rw [So hi1 hi3] at hi2;have h1:=hA (.mk 1 i [] []);have h2:=hA (.mk 1 (0-i) [] []);have hih:BH nt (.mk 1 i [] [])=true->BH nt (.mk 1 (0-i) [] [])=true->_:=λe1 e2=>ih (i+1) (by omega) ⟨KC (i:=i+1) (λj hj=>by
   by_cases e:j=i
   ·rw [e];exact e1
   ·exact hi3 j (by omega)),by rw [hi2,e1,e2];simp,λj hj=>by
   by_cases e:j=i
   ·rw [e];exact e1
   ·exact hi3 j (by omega)⟩
 generalize Da nt=R at *;generalize BH nt (.mk 1 i [] [])=b1 at *;generalize BH nt (.mk 1 (0-i) [] [])=b2 at *;clear ih hi3;have hw:IntKind.i64.wrap (0-(i:Int))=0-i:=B9 (by omega) (by omega);have hn:∀q:Nat,q<2->∃x:Ty,[[V.int .i64 1,.int .i64 i,.str []],[.int .i64 1,.int .i64 (IntKind.i64.wrap (0-(i:Int))),.str []]][q]?=some (Bh x)/\x=(if q=0 then .mk 1 i [] [] else .mk 1 (0-i) [] []):=λq hq=>by
  have:q=0\/q=1:=by omega
  rcases this with rfl | rfl
  ·exact ⟨_,rfl,rfl⟩
  ·exact ⟨.mk 1 (0-i) [] [],by rw [hw];rfl,rfl⟩
 refine md [] rfl (by simp) ?_;obtain ⟨L2,hL⟩:∃L2,L2=[[V.int .i64 1,.int .i64 i,.str []],[.int .i64 1,.int .i64 (IntKind.i64.wrap (0-(i:Int))),.str []]]:=⟨_,rfl⟩
 rw [<- hL] at hn;have hl2:L2.length=2:=by rw [hL];rfl
 refine Aj (λq:Nat=>[(15,.imm (.int .i64 q)),(14,.imm (.int .i64 2)),(13,.imm (.sl L2)),(3,.imm (.int .i64 i)),(2,.ref 1 0),(0,.imm (.sl (Bu nt)))]) (λ_=>[(1,some (.immb 150 3 [.int .i64 0,.int .i64 0,.str []]))]) [2,3] (λq=>2-q)
  (λq=>q<=2/\(1<=q->b1=true)/\(2<=q->b2=true)) 0 ⟨Nat.zero_le _,λh=>by omega,λh=>by omega⟩ ⟨rfl,rfl,by rw [hL];rfl,rfl,rfl,rfl,trivial⟩ ⟨rfl,trivial⟩ rfl λq hq jh=>?_
 obtain ⟨hq1,hq2,hq3⟩:=hq;refine md [] rfl (by simp) ?_;refine Aa rfl (λh=>?_) (λh=>?_)
 ·have hq:q<2:=by simp at h;omega
  obtain ⟨x,x1,x2⟩:=hn q hq;refine md [] rfl (by simp) ?_;refine mi rfl (c:=Bh x) (λ_=>⟨by simp,by simpa using x1,by simp⟩) (by simp) ?_;have hx:Al Tryz.prog 152 [.sl (Bu nt),.agg (Bh x)] (.bool (if q=0 then b1 else b2)):=by
   rw [x2];by_cases e:q=0
   ·rw [if_pos e,if_pos e];exact h1
   ·rw [if_neg e,if_neg e];exact h2
  have hb:(if q=0 then b1 else b2)=false->R=x:=λhb=>by
   rw [hi2,x2];by_cases e:q=0
   ·rw [if_pos e] at hb ⊢;rw [if_pos hb]
   ·rw [if_neg e] at hb ⊢;rw [if_neg (by rw [hq2 (by omega)];simp),if_pos hb]
  have hb':(if q=0 then b1 else b2)=true->(1<=q+1->b1=true)/\(2<=q+1->b2=true):=λhb=>by
   by_cases e:q=0
   ·rw [if_pos e] at hb;exact ⟨λ_=>hb,λh=>by omega⟩
   ·rw [if_neg e] at hb;exact ⟨λ_=>hq2 (by omega),λ_=>hb⟩
  generalize (if q=0 then b1 else b2)=bq at *;obtain ⟨y1,y2,y3,y4⟩:=x;refine mg [] rfl (by simp) ?_;refine Ac rfl (λ_=>hx) (by simp) ?_;refine mg [] rfl (by simp) ?_;cases bq with
  | false =>
   refine Aa rfl (λh=>?_) (λh=>by simp at h);refine md [] rfl (by simp) ?_;rw [hb rfl];exact Ab ⟨_,rfl,tV rfl,trivial⟩
  | true =>
   refine Aa rfl (λh=>by simp at h) (λh=>?_);refine md [] rfl (by simp) ?_;exact Ad (jh (q+1) (by omega) ⟨by omega,hb' rfl⟩) ⟨As (B9 (by omega) (by omega)),rfl,rfl,rfl,rfl,rfl,trivial⟩ ⟨rfl,trivial⟩ rfl
 ·have hq:¬q<2:=by simp at h;omega
  refine Ar rfl ?_;refine md [] rfl (by simp) ?_;exact Ad (hih (hq2 (by omega)) (hq3 (by omega))) ⟨As (B9 (by omega) (by omega)),rfl,rfl,trivial⟩ ⟨rfl,trivial⟩ rfl
end Go.Hk
namespace Go.Hk
theorem dX {P:Program} {f:FuncId} {vs:List V} {k:Nat} {e:TypeId} {sz:Nat} {es:List (List V)} (h:AV P f (vs.map .imm) [] (.ret (.own k es.length) [(k,some (.row e sz es))])):Al P f vs (.sl es):=by
 intro I μ w xs hst hx;refine (h I μ w xs hst hx).mono (λu w' hu=>?_) (λ_ _ h=>h.elim);obtain ⟨I',μ',r1,r2,r3,r4⟩:=hu;have hlive:Aq [(k,some (Blk.row e sz es))] k (.row e sz es):=by simp [Aq,lk]
 obtain ⟨g,hg,ys,hown,hrep,hsz,hone,hp⟩:=r2.blk k _ hlive;have hu:u=g:=by
  cases r1 with
  | own _ _ ad cap hm=>rw [hm] at hg;cases hg;rfl
 subst hu;have hno0:∀b,¬Bv μ [] b:=λb ⟨i,bi,g,h,_⟩=>by simp [Aq,lk] at h
 obtain ⟨J,hJ,hJs,hJr,hJo⟩:∃J:Imm,I'.le J/\(∀b,b<w.heap.size->J b=I' b)/\RepV J u (.sl es)/\(∀k o,J k=some o->(I' k=some o\/w'.heap[k]?=some o)):=by
  rcases hown.2 with ⟨rfl,h0⟩ | ⟨gb,cap,cur,rfl,_,hheap,hle,hcm,hcs,htake⟩
  ·have:es=[]:=List.eq_nil_of_length_eq_zero h0;subst this;exact ⟨I',Imm.le_refl I',λ_ _=>rfl,.slnil,λk o h=>.inl h⟩
  ·have hno:=(r2.apart k _ _ gb hlive hg rfl).1;have hge:w.heap.size<=gb:=by
    rcases Nat.lt_or_ge gb w.heap.size with hlt | hge
    ·exact absurd (r4.fresh gb hlt ⟨k,_,_,hlive,hg,rfl⟩) (hno0 gb)
    ·exact hge
   have hle':I'.le (λk=>if k=gb then some (.cells cur e (0,0)) else I' k):=λk o h=>by
    have:k≠gb:=λe=>by rw [e,hno] at h;cases h
    simp [this,h]
   refine ⟨_,hle',λb hb=>if_neg (by omega),?_,λk o h=>?_⟩
   ·refine W9 (w:=w') (xs:=ys) (u:=.slice (some ⟨gb,0,none⟩) es.length cap) hown (hrep.mono hle') hsz ?_ (b:=gb) rfl hheap (by simp);intro v hv;obtain ⟨q,hq⟩:=List.mem_iff_getElem?.1 hv;have hlt:q<es.flatten.length:=by rw [<- hrep.1];exact (List.getElem?_eq_some_iff.1 hq).1
    obtain ⟨c,hc,hx⟩:=List.mem_flatten.1 (List.getElem_mem hlt);exact (hrep.2 q v _ hq (List.getElem?_eq_getElem hlt)).one (hone c hc _ hx)
   ·by_cases hk:k=gb
    ·subst hk;simp at h;subst h;exact .inr hheap
    ·simp [hk] at h;exact .inl h
 refine ⟨J,μ',.imm _ _ hJr,?_,r3,?_⟩
 ·exact { imm:=λb o h=>(hJo b o h).elim (λh=>r2.imm b o h) id,blk:=λi b h=>by simp [Aq,lk] at h,apart:=λi b g k h=>by simp [Aq,lk] at h,inj:=λi j bi bj gi gj k h=>by simp [Aq,lk] at h,nodup:=r2.nodup,idsFree:=r2.idsFree }
 ·exact { imm:=λb o h=>hJ b o (r4.imm b o h),os:=r4.os,tape:=r4.tape,output:=r4.output,size:=r4.size,block:=r4.block,fresh:=λb _ ⟨i,bi,g,h,_⟩=>by simp [Aq,lk] at h,old:=λb hb ho=>by rw [hJs b hb];exact r4.old b hb ho }
end Go.Hk
namespace Go.Hk
open Go.Proofs
set_option maxHeartbeats 2000000 in
theorem SA (c:Cse) (sz:List (List V)) (t:Ty) (ho:OkW c.datas) (ht:AB c.datas t=true) :
  AV Tryz.prog 195 [.imm (AM c sz),.imm (.agg (dTyc t))] [] (.ret (.own 2 (Bu (A3 c.datas t)).length) [(2,some (.row 150 3 (Bu (A3 c.datas t))))]):=by
 obtain ⟨ds,⟨c1,c2,c3,c4⟩,rows⟩:=c;obtain ⟨so,n,x,ps⟩:=t;simp only at ho ht ⊢;simp only [A3];refine Ae Ak Tryz.func195 (by decide +kernel) rfl [1,2,3,4] rfl rfl ?_;refine mg [] rfl (by simp) ?_;by_cases h2:so=2
 ·subst h2;refine Aa rfl (λh=>?_) (λh=>by simp at h);refine pC 4 rfl (by simp) ?_;refine fP Ak 2 rfl (by simp) ?_;refine mg [] rfl (by simp) ?_;exact Ab ⟨_,rfl,rfl,rfl,trivial⟩
 rw [if_neg h2];refine Aa rfl (λh=>absurd (by simpa using h) h2) (λh=>?_);clear h;refine md [] rfl (by simp) ?_;by_cases h3:so=3
 ·subst h3;refine Aa rfl (λh=>?_) (λh=>by simp at h);refine pC 3 rfl (by simp) ?_;refine fP Ak 2 rfl (by simp) ?_;refine mg [] rfl (by simp) ?_;exact Ab ⟨_,rfl,rfl,rfl,trivial⟩
 rw [if_neg h3];refine Aa rfl (λh=>absurd (by simpa using h) h3) (λh=>?_);clear h;refine md [] rfl (by simp) ?_;by_cases h8:so=8
 case neg =>
  rw [if_neg h8];refine Aa rfl (λh=>absurd (by simpa using h) h8) (λh=>?_);refine md [] rfl (by simp) ?_;refine CI (e:=150) (sz:=3) 4 2 (by decide) rfl ?_;exact Ab ⟨_,rfl,rfl,rfl,trivial⟩
 subst h8;rw [if_pos rfl];obtain ⟨hp,d,hd⟩:=C5 ht 8 n x ps rfl rfl;have hdl:=(ho.lim d (List.mem_of_getElem? hd)).1;rw [hd];simp only;refine Aa rfl (λh=>?_) (λh=>by simp at h);clear h;refine md [] rfl (by simp) ?_;refine FF Ak rfl rfl rfl (Ej _) (by simp [Ag]) (z:=.int .i64 0) rfl (λ_=>.int _ _) (Hr ds x) ?_;refine mg [] rfl (by simp) ?_;rw [show Kk ds x=AR x 0 ds by simp [Kk,hp]];refine mi rfl (c:=C7 d) (λ_=>⟨hp,by simpa using Bp hd,by simp⟩) (by simp) ?_;obtain ⟨dn,dc⟩:=d;simp only at hdl;refine mg [] rfl (by simp;rfl) ?_;refine CI (e:=150) (sz:=3) 5 2 (by decide) rfl ?_
 have el:∀i c,dc[i]?=some c->Bu ((dc.take (i+1)).map Kj)=Bu ((dc.take i).map Kj)++[Bh (Kj c)]:=λi c hc=>by rw [Be hc,List.map_append,NU];rfl
 refine Aj (λi:Nat=>[(37,.imm (.int .i64 i)),(36,.imm (.int .i64 dc.length)),(35,.imm (.sl (dc.map Dy))),(5,.own 2 (Bu ((dc.take i).map Kj)).length)]) (λi=>[(2,some (.row 150 3 (Bu ((dc.take i).map Kj))))]) [3,4] (λi=>dc.length-i)
  (λi=>i<=dc.length) 0 (Nat.zero_le _) ⟨rfl,As (by simp),rfl,rfl,trivial⟩ ⟨rfl,trivial⟩ rfl λi hi ih=>?_
 refine md [] rfl (by simp) ?_;refine Aa rfl (λh=>?_) (λh=>?_)
 ·simp at h;obtain ⟨e,he⟩:=Am h;have et:=el i e he;have hlen:(Bu ((dc.take i).map Kj)).length<=5:=by simp;omega
  have hih:=ih (i+1) (by omega) (by omega);rw [et] at hih;generalize Bu ((dc.take i).map Kj)=l at *;refine md [] rfl (by simp) ?_;refine mi rfl (c:=Dy e) (λ_=>⟨by omega,by simpa using Bp he,by simp⟩) (by simp) ?_;obtain ⟨en,ea⟩:=e;refine mg [] rfl (by simp) ?_;refine BC Ak rfl ⟨by simp [Kj],by simp [maxLen] at hlen ⊢;omega,by simp at hlen ⊢;omega,trivial⟩ ?_;refine mg [] rfl (by simp) ?_;refine A4 2 4 rfl ?_;exact Ad hih ⟨As (B9 (by omega) (by omega)),rfl,rfl,by simp only [List.length_append];rfl,trivial⟩ ⟨rfl,trivial⟩ rfl
 ·simp at h;refine Ar rfl ?_;refine md [] rfl (by simp) ?_;rw [List.take_of_length_le (by omega)];exact Ab ⟨_,rfl,rfl,rfl,trivial⟩
theorem fK (c:Cse) (sz:List (List V)) (t:Ty) (ho:OkW c.datas) (ht:AB c.datas t=true):Al Tryz.prog 195 [AM c sz,.agg (dTyc t)] (.sl (Bu (A3 c.datas t))) :=
 dX (SA c sz t ho ht)
def ptr (b:Nat):Value:=.pointer (some ⟨b,0,none⟩)
def Si (I:Imm) (w:World) (nt:List Ty) (nv:Value):Prop:=(∃xs,w.ownsRow 0 150 3 nv nt.length xs/\RepVL I xs (Bu nt).flatten)/\(nt=[]->nv = .slice none 0 0)
def JP (w:World) (kbs:List Nat) (kv:Value):Prop:=w.ownsRow 0 109 1 kv kbs.length (kbs.map ptr)
def H8 (I:Imm) (w:World) (ty:Ty) (nt:List Ty) (hd:Ty) (nv kv:Value) (kbs:List Nat) (b:Nat):Prop :=
 (∃vs ts hs,w.heap[b]?=some (.cells vs 177 (0,0))/\vs.toList=ts++hs++[nv,kv]/\RepVL I ts (dTyc ty)/\RepVL I hs (Bh hd))/\Si I w nt nv/\JP w kbs kv
def AG (nv kv:Value) (b:Nat):List Nat:=b::(nv.ownBlock.toList++kv.ownBlock.toList)
mutual
def E9 (I:Imm) (w:World):Mi->Nat->List Nat->Prop
 | .mk ty nt hd ks,b,F=>∃nv kv kbs Fk,H8 I w ty nt hd nv kv kbs b/\Dj I w ks kbs Fk/\F=AG nv kv b++Fk/\F.Nodup
def Dj (I:Imm) (w:World):List Mi->List Nat->List Nat->Prop
 | [],kbs,F=>kbs=[]/\F=[]
 | k::r,kbs,F=>∃kb kr F1 F2,kbs=kb::kr/\E9 I w k kb F1/\Dj I w r kr F2/\F=F1++F2
end
section
variable {I J:Imm} {w w':World}
theorem BJ {e:TypeId} {sz n:Nat} {v:Value} {xs:List Value} (h:∀q∈v.ownBlock.toList,w'.heap[q]?=w.heap[q]?) (hr:w.ownsRow 0 e sz v n xs):w'.ownsRow 0 e sz v n xs:=by
 refine ⟨hr.1,?_⟩;rcases hr.2 with h0 | ⟨g,cap,cur,rfl,h1,h2,h3⟩
 ·exact .inl h0
 ·exact .inr ⟨g,cap,cur,rfl,h1,(h g (by simp [Value.ownBlock])).trans h2,h3⟩
theorem Fh {ty:Ty} {nt:List Ty} {hd:Ty} {nv kv:Value} {kbs:List Nat} {b:Nat} (h:∀q∈AG nv kv b,w'.heap[q]?=w.heap[q]?) (hn:H8 I w ty nt hd nv kv kbs b):H8 I w' ty nt hd nv kv kbs b:=by
 obtain ⟨⟨vs,ts,hs,h1,h2⟩,⟨⟨xs,h3,h4⟩,h5⟩,h6⟩:=hn;exact ⟨⟨vs,ts,hs,(h b (by simp [AG])).trans h1,h2⟩,⟨⟨xs,BJ (λq hq=>h q (by simp only [AG,List.mem_cons,List.mem_append];exact .inr (.inl hq))) h3,h4⟩,h5⟩,BJ (λq hq=>h q (by simp only [AG,List.mem_cons,List.mem_append];exact .inr (.inr hq))) h6⟩
theorem En {ty:Ty} {nt:List Ty} {hd:Ty} {nv kv:Value} {kbs:List Nat} {b:Nat} (h:I.le J) (hn:H8 I w ty nt hd nv kv kbs b):H8 J w ty nt hd nv kv kbs b:=by
 obtain ⟨⟨vs,ts,hs,h1,h2,h3,h4⟩,⟨⟨xs,h5,h6⟩,h7⟩,h8⟩:=hn;exact ⟨⟨vs,ts,hs,h1,h2,h3.mono h,h4.mono h⟩,⟨⟨xs,h5,h6.mono h⟩,h7⟩,h8⟩
mutual
theorem GB:∀{c:Mi} {b:Nat} {F:List Nat},(∀q∈F,w'.heap[q]?=w.heap[q]?)->E9 I w c b F->E9 I w' c b F
 | .mk ty nt hd ks,b,F,h,⟨nv,kv,kbs,Fk,h1,h2,h3,h4⟩=>⟨nv,kv,kbs,Fk,Fh (λq hq=>h q (by rw [h3];simp [hq])) h1,Cu (λq hq=>h q (by rw [h3];simp [hq])) h2,h3,h4⟩
theorem Cu:∀{ks:List Mi} {kbs:List Nat} {F:List Nat},(∀q∈F,w'.heap[q]?=w.heap[q]?)->Dj I w ks kbs F->Dj I w' ks kbs F
 | [],_,_,_,h=>h
 | k::r,kbs,F,h,⟨kb,kr,F1,F2,h1,h2,h3,h4⟩=>⟨kb,kr,F1,F2,h1,GB (λq hq=>h q (by rw [h4];simp [hq])) h2,Cu (λq hq=>h q (by rw [h4];simp [hq])) h3,h4⟩
end
mutual
theorem Ho (hI:I.le J):∀{c:Mi} {b:Nat} {F:List Nat},E9 I w c b F->E9 J w c b F
 | .mk ty nt hd ks,b,F,⟨nv,kv,kbs,Fk,h1,h2,h3,h4⟩=>⟨nv,kv,kbs,Fk,En hI h1,D4 hI h2,h3,h4⟩
theorem D4 (hI:I.le J):∀{ks:List Mi} {kbs:List Nat} {F:List Nat},Dj I w ks kbs F->Dj J w ks kbs F
 | [],_,_,h=>h
 | k::r,kbs,F,⟨kb,kr,F1,F2,h1,h2,h3,h4⟩=>⟨kb,kr,F1,F2,h1,Ho hI h2,D4 hI h3,h4⟩
end
theorem Ix {c:Mi} {b:Nat} {F:List Nat} (h:E9 I w c b F):F.Nodup:=by
 obtain ⟨ty,nt,hd,ks⟩:=c;obtain ⟨_,_,_,_,_,_,_,h⟩:=h;exact h
theorem GE:∀{ks:List Mi} {kbs:List Nat} {F:List Nat},Dj I w ks kbs F->kbs.length=ks.length
 | [],_,_,h=>by rw [h.1];rfl
 | k::r,_,_,⟨kb,kr,F1,F2,h1,_,h3,_⟩=>by rw [h1];simp [GE h3]
theorem KG:∀{ks:List Mi} {kbs:List Nat} {F:List Nat} {i:Nat} {k:Mi},Dj I w ks kbs F->ks[i]?=some k->∃kb F1 Fk F2,kbs[i]?=some kb/\E9 I w k kb Fk/\F=F1++Fk++F2 /\
  ∀J w2 k' Fk',I.le J->(∀q∈F1++F2,w2.heap[q]?=w.heap[q]?)->E9 J w2 k' kb Fk'->Dj J w2 (ks.set i k') kbs (F1++Fk'++F2)
 | [],_,_,i,k,_,h=>by simp at h
 | x::r,kbs,F,0,k,⟨kb,kr,F1,F2,h1,h2,h3,h4⟩,h=>by
  simp at h;subst h;subst h1;refine ⟨kb,[],F1,F2,rfl,h2,by simpa using h4,λJ w2 k' Fk' hI hw hk=>?_⟩;simp only [List.set_cons_zero];exact ⟨kb,kr,Fk',F2,rfl,hk,D4 hI (Cu (λq hq=>hw q (by simp [hq])) h3),by simp⟩
 | x::r,kbs,F,i+1,k,⟨kb,kr,F1,F2,h1,h2,h3,h4⟩,h=>by
  subst h1;obtain ⟨kb',G1,Gk,G2,g1,g2,g3,g4⟩:=KG h3 (i:=i) (k:=k) (by simpa using h);refine ⟨kb',F1++G1,Gk,G2,by simpa using g1,g2,by rw [h4,g3];simp,λJ w2 k' Fk' hI hw hk=>?_⟩;simp only [List.set_cons_succ];exact ⟨kb,kr,F1,G1++Fk'++G2,rfl,Ho hI (GB (λq hq=>hw q (by simp [hq])) h2),g4 J w2 k' Fk' hI (λq hq=>hw q (by simp at hq ⊢;rcases hq with h | h <;> simp [h])) hk,by simp⟩
end
def AW (c:Mi) (b:Nat):Asn where
 P _ I w bs:=∃F,E9 I w c b F/\∀q∈F,q∈bs
 mono:=λh ⟨F,h1,h2⟩=>⟨F,Ho h h1,h2⟩
 loc:=λh ⟨F,h1,h2⟩=>⟨F,GB (λq hq=>h q (h2 q hq)) h1,h2⟩
def H2 (c:Mi):Asn where
 P us I w bs:=∃b F,us=[ptr b]/\E9 I w c b F/\∀q∈F,q∈bs
 mono:=λh ⟨b,F,h0,h1,h2⟩=>⟨b,F,h0,Ho h h1,h2⟩
 loc:=λh ⟨b,F,h0,h1,h2⟩=>⟨b,F,h0,GB (λq hq=>h q (h2 q hq)) h1,h2⟩
def CD (ty:Ty) (nt:List Ty) (hd:Ty) (ks:List Mi) (nv kv:Value) (kbs:List Nat) (b:Nat):Asn where
 P _ I w bs:=∃Fk,H8 I w ty nt hd nv kv kbs b/\Dj I w ks kbs Fk/\(AG nv kv b++Fk).Nodup/\∀q∈AG nv kv b++Fk,q∈bs
 mono:=λh ⟨F,h1,h2,h3⟩=>⟨F,En h h1,D4 h h2,h3⟩
 loc:=λh ⟨F,h1,h2,h3,h4⟩=>⟨F,Fh (λq hq=>h q (h4 q (by simp [hq]))) h1,Cu (λq hq=>h q (h4 q (by simp [hq]))) h2,h3,h4⟩
def FV (b x:Nat) (T:Mi->Mi):Asn where
 P _ I w bs:=∀J w2 k F,I.le J->(∀q∈bs,w2.heap[q]?=w.heap[q]?)->E9 J w2 k x F->(∀q∈F,q∉bs)->∃G,E9 J w2 (T k) b G/\∀q∈G,q∈bs\/q∈F
 mono:=λh h1 J w2 k F hJ=>h1 J w2 k F (λb o hb=>hJ b o (h b o hb))
 loc:=λh h1 J w2 k F hJ hw=>h1 J w2 k F hJ λq hq=>(hw q hq).trans (h q hq)
theorem JI {I:Imm} {w:World} {ty:Ty} {nt:List Ty} {hd:Ty} {ks:List Mi} {b:Nat} {us:List Value} {bs:List Nat} (h:(AW (.mk ty nt hd ks) b).P us I w bs):∃x:Value×Value×List Nat,(CD ty nt hd ks x.1 x.2.1 x.2.2 b).P us I w bs:=by
 obtain ⟨F,⟨nv,kv,kbs,Fk,h1,h2,h3,h4⟩,h5⟩:=h;subst h3;exact ⟨(nv,kv,kbs),Fk,h1,h2,h4,h5⟩
theorem JJ {I:Imm} {w:World} {ty:Ty} {nt:List Ty} {hd:Ty} {ks:List Mi} {nv kv:Value} {kbs:List Nat} {b:Nat} {us vs:List Value} {bs:List Nat} (h:(CD ty nt hd ks nv kv kbs b).P us I w bs):(AW (.mk ty nt hd ks) b).P vs I w bs:=by
 obtain ⟨Fk,h1,h2,h3,h4⟩:=h;exact ⟨_,⟨nv,kv,kbs,Fk,h1,h2,rfl,h3⟩,h4⟩
theorem RA {I:Imm} {w:World} {b x:Nat} {T:Mi->Mi} {k:Mi} {us vs:List Value} {b1 b2:List Nat} (h:(FV b x T).P us I w b1) (hk:(AW k x).P vs I w b2) (hd:∀q∈b1,q∉b2):∃bs,(∀q∈bs,q∈b1\/q∈b2)/\(AW (T k) b).P [] I w bs:=by
 obtain ⟨F,h1,h2⟩:=hk;obtain ⟨G,g1,g2⟩:=h I w k F (Imm.le_refl I) (λ_ _=>rfl) h1 (λq hq hq1=>hd q hq1 (h2 q hq));exact ⟨G,λq hq=>(g2 q hq).imp id (h2 q),G,g1,λq hq=>hq⟩
theorem Zh {I:Imm} {w:World} {b x y:Nat} {T S:Mi->Mi} {us vs:List Value} {b1 b2:List Nat} (h:(FV b x T).P us I w b1) (hk:(FV x y S).P vs I w b2) (hd:∀q∈b1,q∉b2):(FV b y (λk=>T (S k))).P [] I w (b1++b2):=by
 intro J w2 k F hJ hw hm hF;obtain ⟨G,g1,g2⟩:=hk J w2 k F hJ (λq hq=>hw q (by simp [hq])) hm (λq hq hq2=>hF q hq (by simp [hq2]));obtain ⟨G',g3,g4⟩:=h J w2 (S k) G hJ (λq hq=>hw q (by simp [hq])) g1 (λq hq hq1=>by
  rcases g2 q hq with h | h
  ·exact hd q hq1 h
  ·exact hF q h (by simp [hq1]))
 refine ⟨G',g3,λq hq=>?_⟩;rcases g4 q hq with h | h
 ·exact .inl (by simp [h])
 ·rcases g2 q h with h | h
  ·exact .inl (by simp [h])
  ·exact .inr h
theorem iN {I:Imm} {w:World} {b:Nat} {us:List Value} {bs:List Nat}:(FV b b (λk=>k)).P us I w bs:=λJ w2 k F _ _ hm _=>⟨F,hm,λq hq=>.inr hq⟩
end Go.Hk
namespace Go.Hk
section
variable {P:Program} {n:Nat} {F:List Nat} {Q:DQ} {tt:TT} {env env':Env} {st st':St} {ids ids':List Nat} {k todo todo':List DI} {I:Imm} {μ:Mu} {w w':World} {a:Act}
theorem GM (id t j:Nat) {B:Asn} (A:Asn) {v:Value} (hl:lk st id=some (some (.hp B))) (ht:lk env t=some (.raw v)) (h1:v.oneCell'=true)
  (hA:∀us I w bs,B.P us I w bs->A.P [v] I w bs) (h:DGo P n F Q todo ((t,.hv j 0)::env) ((j,some (.hp A))::(id,none)::st) ids'):DGo P n F Q todo env st (j::ids'):=by
 refine Ds λI μ a w hc=>?_;obtain ⟨g,hg,us,bs,rfl,hP⟩:=hc.blk id _ hl;obtain ⟨q1,q2,q3⟩:=StRep.relay (R:=[id]) (new:=[(j,MQ [v] bs,.hp A)]) (ids':=ids') hc.toStRep
  (λp hp b hb=>by
   rw [List.mem_singleton.1 hp] at hb;exact ⟨id,_,_,by simp,hl,hg,AL.2 (AL.1 hb)⟩)
  (λp hp q hq b _ _=>by rw [List.mem_singleton.1 hp,List.mem_singleton.1 hq]) (Imm.le_refl I) hc.imm (λb o h=>.inl h)
  (λ_ p hp=>by rw [List.mem_singleton.1 hp];exact ⟨[v],bs,rfl,hA us I w bs hP⟩)
 have hmj:E7 [(j,MQ [v] bs,.hp A)] μ j=some (MQ [v] bs):=by simp [E7,lk]
 refine ⟨I,_,_,_,ids',q2,λt' d hd=>?_,q3,.of_le q1,h⟩;by_cases e:t=t'
 ·subst e;rw [Ap] at hd;cases hd;have hv:=(hc.env t _ ht).rawInv;rw [hv];exact .hv v j 0 [v] bs hmj rfl h1
 ·rw [Au _ _ e] at hd;exact (hc.env t' d hd).mono (Imm.le_refl I) q1
end
end Go.Hk
namespace Go.Hk
open Go.Proofs
def HP:Value:=.slice none 0 0
theorem IW {I:Imm} {v:Value} (h:RepD I noMu v .nils):v=HP:=by cases h;rfl
theorem QN {I:Imm} {w:World} {ty:Ty} {hd:Ty} {b:Nat} {us:List Value} {bs:List Nat} (h:(Rf b 177 ((dTyc ty++Bh hd).map .imm++[.nils,.nils])).P us I w bs):(AW (.mk ty [] hd []) b).P us I w bs:=by
 obtain ⟨h1,vs,h2,h3,h4⟩:=h;obtain ⟨t1,t2,t3,t4⟩:=ty;obtain ⟨f1,f2,f3,f4⟩:=hd;have hl:=h3.1;simp only [dTyc,Bh,List.map_append,List.map_cons,List.map_nil,List.cons_append,List.nil_append,List.length_cons,List.length_nil] at hl h3
 match hvs:vs.toList,hl with
 | [a0,a1,a2,a3,a4,a5,a6,a7,a8],_ =>
 rw [hvs] at h3;have e7:a7=HP:=IW (h3.2 7 a7 _ rfl rfl);have e8:a8=HP:=IW (h3.2 8 a8 _ rfl rfl);subst e7;subst e8;subst h1;refine ⟨[b],⟨HP,HP,[],[],⟨⟨vs,[a0,a1,a2,a3],[a4,a5,a6],h2,by rw [hvs];rfl,?_,?_⟩,⟨⟨[],World.ownsRow_nil w 0 _ 3,.nil⟩,λ_=>rfl⟩,World.ownsRow_nil w 0 _ 1⟩,⟨rfl,rfl⟩,rfl,by simp⟩,λq hq=>hq⟩
 ·exact .mk (h3.2 0 a0 _ rfl rfl).immInv (.mk (h3.2 1 a1 _ rfl rfl).immInv (.mk (h3.2 2 a2 _ rfl rfl).immInv (.mk (h3.2 3 a3 _ rfl rfl).immInv .nil)))
 ·exact .mk (h3.2 4 a4 _ rfl rfl).immInv (.mk (h3.2 5 a5 _ rfl rfl).immInv (.mk (h3.2 6 a6 _ rfl rfl).immInv .nil))
theorem GJ (wd:V) (t:Ty):AV Tryz.prog 58 [.imm wd,.imm (.agg (dTyc t))] [] (.ret (.hv 2 0) [(2,some (.hp (H2 (An t))))]):=by
 obtain ⟨t1,t2,t3,t4⟩:=t;refine Ae Ak Tryz.func58 (by decide +kernel) rfl [1,3,4,2] rfl rfl ?_;refine mg [] rfl (by simp) ?_;refine Gg 3 4 rfl rfl λb=>?_;refine GM 4 4 2 (H2 (An (.mk t1 t2 t3 t4))) rfl rfl rfl (λus I w bs h=>?_) ?_
 ·obtain ⟨F,h1,h2⟩:=QN (ty:=.mk t1 t2 t3 t4) (hd:=zT) h;exact ⟨b,F,rfl,h1,h2⟩
 exact Ab ⟨_,rfl,rfl,rfl,trivial⟩
section
variable {I J:Imm} {w w':World} {ty:Ty} {nt:List Ty} {hd:Ty} {ks:List Mi} {nv kv:Value} {kbs:List Nat} {b:Nat} {us:List Value} {bs:List Nat}
theorem PF {e:TypeId} {sz n:Nat} {v:Value} {xs:List Value} {q:Nat} (h:w.ownsRow 0 e sz v n xs) (hq:q∈v.ownBlock.toList):q<w.heap.size:=by
 rcases h.2 with ⟨rfl,_⟩ | ⟨g,cap,cur,rfl,_,h2,_⟩
 ·simp [Value.ownBlock] at hq
 ·simp [Value.ownBlock] at hq;subst hq;exact BG h2
theorem T2 (h:H8 I w ty nt hd nv kv kbs b):∀q∈AG nv kv b,q<w.heap.size:=by
 obtain ⟨⟨vs,ts,hs,h1,_⟩,⟨⟨xs,h2,_⟩,_⟩,h3⟩:=h;intro q hq;simp only [AG,List.mem_cons,List.mem_append] at hq;rcases hq with rfl | hq | hq
 ·exact BG h1
 ·exact PF h2 hq
 ·exact PF h3 hq
mutual
theorem Y4:∀{c:Mi} {b:Nat} {F:List Nat},E9 I w c b F->∀q∈F,q<w.heap.size
 | .mk ty nt hd ks,b,F,⟨nv,kv,kbs,Fk,h1,h2,h3,_⟩,q,hq=>by
  rw [h3] at hq;rcases List.mem_append.1 hq with hq | hq
  ·exact T2 h1 q hq
  ·exact OK h2 q hq
theorem OK:∀{ks:List Mi} {kbs:List Nat} {F:List Nat},Dj I w ks kbs F->∀q∈F,q<w.heap.size
 | [],_,_,h,q,hq=>by rw [h.2] at hq;cases hq
 | k::r,kbs,F,⟨kb,kr,F1,F2,h1,h2,h3,h4⟩,q,hq=>by
  rw [h4] at hq;rcases List.mem_append.1 hq with hq | hq
  ·exact Y4 h2 q hq
  ·exact OK h3 q hq
end
theorem Ks:∀{ks:List Mi} {kbs:List Nat} {F:List Nat} {ks2:List Mi} {kbs2:List Nat} {F2:List Nat},Dj I w ks kbs F->Dj I w ks2 kbs2 F2->Dj I w (ks++ks2) (kbs++kbs2) (F++F2)
 | [],_,_,_,_,_,h,h2=>by rw [h.1,h.2];exact h2
 | k::r,kbs,F,_,_,_,⟨kb,kr,F1,F2',h1,h2,h3,h4⟩,h5=>⟨kb,_,F1,_,by rw [h1];rfl,h2,Ks h3 h5,by rw [h4];simp⟩
theorem Fs {off:Nat} {ds sub:List D} (h:CR I w b 0 ds) (hs:∀(j:Nat) d,sub[j]?=some d->ds[off+j]?=some d):CR I w b off sub:=by
 obtain ⟨vs,t,k,h1,h2⟩:=h;refine ⟨vs,t,k,h1,λj d hd=>?_⟩;obtain ⟨c,h3,h4⟩:=h2 _ _ (hs j d hd);exact ⟨c,by simpa using h3,h4⟩
def eQ (ty hd:Ty) (nv kv:Value):List D:=(dTyc ty++Bh hd).map .imm++[.raw nv,.raw kv]
theorem Eg (h:H8 I w ty nt hd nv kv kbs b):CR I w b 0 (eQ ty hd nv kv):=by
 obtain ⟨⟨vs,ts,hs,h1,h2,h3,h4⟩,⟨⟨xs,h5,_⟩,_⟩,h6⟩:=h;obtain ⟨t1,t2,t3,t4⟩:=ty;obtain ⟨f1,f2,f3,f4⟩:=hd;have hl3:=h3.1;have hl4:=h4.1;have h3:=h3.2;have h4:=h4.2;simp only [dTyc,Bh,List.length_cons,List.length_nil] at hl3 hl4 h3 h4;have hn:=Hj h5;have hk:=Hj h6
 match ts,hl3 with
 | [a0,a1,a2,a3],_ =>
 match hs,hl4 with
 | [a4,a5,a6],_ =>
 have g:∀(j:Nat) (c:Value),([a0,a1,a2,a3,a4,a5,a6,nv,kv]:List Value)[j]?=some c->vs[0+j]?=some c:=λj c hc=>by
  have:vs.toList[j]?=some c:=by rw [h2];exact hc
  simpa using this
 refine ⟨vs,_,_,h1,λj d hd=>?_⟩;simp only [eQ,dTyc,Bh,List.map_append,List.map_cons,List.map_nil,List.cons_append,List.nil_append] at hd;have r0:=h3 0 a0 _ rfl rfl;have r1:=h3 1 a1 _ rfl rfl;have r2:=h3 2 a2 _ rfl rfl;have r3:=h3 3 a3 _ rfl rfl;have r4:=h4 0 a4 _ rfl rfl;have r5:=h4 1 a5 _ rfl rfl;have r6:=h4 2 a6 _ rfl rfl
 match j,hd with
 | 0,hd=>cases hd;exact ⟨a0,g 0 a0 rfl,r0.one rfl,.imm _ _ r0⟩
 | 1,hd=>cases hd;exact ⟨a1,g 1 a1 rfl,r1.one rfl,.imm _ _ r1⟩
 | 2,hd=>cases hd;exact ⟨a2,g 2 a2 rfl,r2.one rfl,.imm _ _ r2⟩
 | 3,hd=>cases hd;exact ⟨a3,g 3 a3 rfl,r3.one rfl,.imm _ _ r3⟩
 | 4,hd=>cases hd;exact ⟨a4,g 4 a4 rfl,r4.one rfl,.imm _ _ r4⟩
 | 5,hd=>cases hd;exact ⟨a5,g 5 a5 rfl,r5.one rfl,.imm _ _ r5⟩
 | 6,hd=>cases hd;exact ⟨a6,g 6 a6 rfl,r6.one rfl,.imm _ _ r6⟩
 | 7,hd=>cases hd;exact ⟨nv,g 7 nv rfl,hn,.raw _ hn⟩
 | 8,hd=>cases hd;exact ⟨kv,g 8 kv rfl,hk,.raw _ hk⟩
 | j+9,hd=>simp at hd
theorem JK (h:(CD ty nt hd ks nv kv kbs b).P us I w bs):CR I w b 0 ((dTyc ty).map .imm):=by
 obtain ⟨F,h,_⟩:=h;obtain ⟨t1,t2,t3,t4⟩:=ty;obtain ⟨f1,f2,f3,f4⟩:=hd;exact Fs (off:=0) (Eg h) λj d hd=>by match j,hd with | 0,hd=>exact hd | 1,hd=>exact hd | 2,hd=>exact hd | 3,hd=>exact hd | j+4,hd=>simp [dTyc] at hd
theorem ZK (h:(CD ty nt hd ks nv kv kbs b).P us I w bs):CR I w b 0 [.imm (.int .i64 (AC ty))]:=by
 obtain ⟨F,h,_⟩:=h;obtain ⟨t1,t2,t3,t4⟩:=ty;obtain ⟨f1,f2,f3,f4⟩:=hd;exact Fs (off:=0) (Eg h) λj d hd=>by match j,hd with | 0,hd=>exact hd | j+1,hd=>simp at hd
theorem OG (h:(CD ty nt hd ks nv kv kbs b).P us I w bs):CR I w b 4 ((Bh hd).map .imm):=by
 obtain ⟨F,h,_⟩:=h;obtain ⟨t1,t2,t3,t4⟩:=ty;obtain ⟨f1,f2,f3,f4⟩:=hd;exact Fs (Eg h) λj d hd=>by match j,hd with | 0,hd=>exact hd | 1,hd=>exact hd | 2,hd=>exact hd | j+3,hd=>simp [Bh] at hd
theorem MK (h:(CD ty nt hd ks nv kv kbs b).P us I w bs):CR I w b 4 [.imm (.int .i64 (AC hd))]:=by
 obtain ⟨F,h,_⟩:=h;obtain ⟨t1,t2,t3,t4⟩:=ty;obtain ⟨f1,f2,f3,f4⟩:=hd;exact Fs (Eg h) λj d hd=>by match j,hd with | 0,hd=>exact hd | j+1,hd=>simp at hd
theorem Iz (h:(CD ty nt hd ks nv kv kbs b).P us I w bs):CR I w b 7 [.raw nv]:=by
 obtain ⟨F,h,_⟩:=h;obtain ⟨t1,t2,t3,t4⟩:=ty;obtain ⟨f1,f2,f3,f4⟩:=hd;exact Fs (Eg h) λj d hd=>by match j,hd with | 0,hd=>exact hd | j+1,hd=>simp at hd
theorem JL (h:(CD ty nt hd ks nv kv kbs b).P us I w bs):CR I w b 8 [.raw kv]:=by
 obtain ⟨F,h,_⟩:=h;obtain ⟨t1,t2,t3,t4⟩:=ty;obtain ⟨f1,f2,f3,f4⟩:=hd;exact Fs (Eg h) λj d hd=>by match j,hd with | 0,hd=>exact hd | j+1,hd=>simp at hd
theorem CF {b q:Nat} {cs:Array Value} (h:q≠b):(w.setRow b cs).heap[q]?=w.heap[q]?:=setRow_other w b q cs h
theorem KA {nv kv:Value} {b:Nat} {F:List Nat} (h:(AG nv kv b++F).Nodup):(∀q∈nv.ownBlock.toList++kv.ownBlock.toList++F,q≠b):=by
 simp only [AG,List.cons_append,List.nodup_cons] at h;intro q hq e;subst e;exact h.1 (by simpa using hq)
theorem KB {off:Nat} {ds:List D} {nt':List Ty} {hd':Ty} {ks':List Mi} {nv' kv':Value} {kbs':List Nat} (hoff:off+ds.length<=9)
  (hcell:∀(I:Imm) (ts hs cs:List Value),RepVL I ts (dTyc ty)->RepVL I hs (Bh hd)->RepL I noMu cs ds->∃hs',(ts++hs++[nv,kv]).take off++cs++(ts++hs++[nv,kv]).drop (off+ds.length)=ts++hs'++[nv',kv']/\RepVL I hs' (Bh hd'))
  (hnot:∀I w,Si I w nt nv->Si I w nt' nv') (hrow:∀w,JP w kbs kv->JP w kbs' kv') (hkids:∀I w F,Dj I w ks kbs F->∃F',Dj I w ks' kbs' F'/\F'.Sublist F)
  (hn:nv'.ownBlock.toList.Sublist nv.ownBlock.toList) (hk:kv'.ownBlock.toList.Sublist kv.ownBlock.toList) :
  Mh (CD ty nt hd ks nv kv kbs b) (CD ty nt' hd' ks' nv' kv' kbs' b) b off ds:=by
 intro us I w bs ⟨Fk,⟨⟨vs,ts,hs,h1,h2,h3,h4⟩,h5,h6⟩,h7,h8,h9⟩;have hl:vs.toList.length=9:=by
  have:=h3.1;have:=h4.1;obtain ⟨t1,t2,t3,t4⟩:=ty;obtain ⟨f1,f2,f3,f4⟩:=hd;rw [h2];simp [dTyc,Bh] at *;omega
 have hvl:vs.size=9:=by simpa using hl
 refine ⟨h9 b (by simp [AG]),vs,_,h1,by omega,λcs hcs hone=>?_⟩;obtain ⟨hs',e1,e2⟩:=hcell I ts hs cs h3 h4 hcs;obtain ⟨F',g1,g2⟩:=hkids I w Fk h7;have hne:=KA h8;have hsub:(AG nv' kv' b++F').Sublist (AG nv kv b++Fk):=by
  simp only [AG,List.cons_append];exact .cons_cons _ ((hn.append hk).append g2)
 have hnot':=hnot I w h5;have hrow':=hrow w h6;refine ⟨F',⟨⟨_,ts,hs',setRow_heap w b vs _ _ _ h1,by rw [List.toList_toArray,h2];exact e1,h3,e2⟩,⟨?_,hnot'.2⟩,?_⟩,?_,h8.sublist hsub,λq hq=>h9 q (hsub.subset hq)⟩
 ·obtain ⟨⟨xs,x1,x2⟩,_⟩:=hnot';exact ⟨xs,BJ (λq hq=>CF (hne q (by simp only [List.mem_append];exact .inl (.inl (hn.subset hq))))) x1,x2⟩
 ·exact BJ (λq hq=>CF (hne q (by simp only [List.mem_append];exact .inl (.inr (hk.subset hq))))) hrow'
 ·exact Cu (λq hq=>CF (hne q (by simp only [List.mem_append];exact .inr (g2.subset hq)))) g1
theorem dQ {cs:List Value} {xs:List V} (h:RepL I noMu cs (xs.map .imm)):RepVL I cs xs:=by
 refine ⟨by simpa using h.1,λi v x hv hx=>(h.2 i v (.imm x) hv (by simp [hx])).immInv⟩
theorem iS {ts hs cs:List Value} {nv kv:Value} (h1:ts.length=4) (h2:hs.length=3) (h3:cs.length=3):(ts++hs++[nv,kv]).take 4++cs++(ts++hs++[nv,kv]).drop (4+3)=ts++cs++[nv,kv]:=by
 match ts,h1 with
 | [a0,a1,a2,a3],_ =>
 match hs,h2 with
 | [a4,a5,a6],_=>simp
theorem Pi:(dTyc ty).length=4:=by obtain ⟨t1,t2,t3,t4⟩:=ty;rfl
theorem cS (h:Ty):Mh (CD ty nt hd ks nv kv kbs b) (CD ty nt h ks nv kv kbs b) b 4 ((Bh h).map .imm):=by
 refine KB (by simp) (λI ts hs cs h1 h2 h3=>⟨cs,?_,dQ h3⟩) (λ_ _ h=>h) (λ_ h=>h) (λ_ _ F h=>⟨F,h,.refl _⟩) (.refl _) (.refl _);have e3:cs.length=3:=by have:=h3.1;simpa using this
 have:=iS (nv:=nv) (kv:=kv) (by rw [h1.1,Pi]) (by rw [h2.1];simp) e3;simpa using this
theorem cQ:Mh (CD ty nt hd ks nv kv kbs b) (CD ty [] hd ks HP kv kbs b) b 7 [.nils]:=by
 refine KB (by simp) (λI ts hs cs h1 h2 h3=>⟨hs,?_,h2⟩) (λI w _=>⟨⟨[],World.ownsRow_nil w 0 _ 3,.nil⟩,λ_=>rfl⟩) (λ_ h=>h) (λ_ _ F h=>⟨F,h,.refl _⟩) (by simp [HP,Value.ownBlock]) (.refl _);have e1:ts.length=4:=by rw [h1.1,Pi]
 have e2:hs.length=3:=by rw [h2.1];simp
 have e3:=h3.1
 match ts,e1 with
 | [a0,a1,a2,a3],_ =>
 match hs,e2 with
 | [a4,a5,a6],_ =>
 match cs,e3,h3 with
 | [c],_,h3 =>
  have:c=HP:=IW (h3.2 0 c _ rfl rfl);subst this;simp
theorem cR:Mh (CD ty nt hd ks nv kv kbs b) (CD ty nt hd [] nv HP [] b) b 8 [.nils]:=by
 refine KB (by simp) (λI ts hs cs h1 h2 h3=>⟨hs,?_,h2⟩) (λ_ _ h=>h) (λw _=>World.ownsRow_nil w 0 _ 1) (λ_ _ F h=>⟨[],⟨rfl,rfl⟩,List.nil_sublist _⟩) (.refl _) (by simp [HP,Value.ownBlock]);have e1:ts.length=4:=by rw [h1.1,Pi]
 have e2:hs.length=3:=by rw [h2.1];simp
 have e3:=h3.1
 match ts,e1 with
 | [a0,a1,a2,a3],_ =>
 match hs,e2 with
 | [a4,a5,a6],_ =>
 match cs,e3,h3 with
 | [c],_,h3 =>
  have:c=HP:=IW (h3.2 0 c _ rfl rfl);subst this;simp
end
end Go.Hk
namespace Go.Hk
open Go.Proofs
section
variable {I J:Imm} {w w':World} {ty:Ty} {nt:List Ty} {hd:Ty} {ks:List Mi} {nv kv:Value} {kbs:List Nat} {b:Nat} {us:List Value} {bs:List Nat}
def YR (I:Imm) (w:World) (ty hd:Ty) (nv kv:Value) (b:Nat):Prop:=∃vs ts hs,w.heap[b]?=some (.cells vs 177 (0,0))/\vs.toList=ts++hs++[nv,kv]/\RepVL I ts (dTyc ty)/\RepVL I hs (Bh hd)
def YX (ty:Ty) (nt:List Ty) (hd:Ty) (ks:List Mi) (b:Nat):Asn where
 P us I w bs:=∃v nv kv kbs Fk,us=[v]/\YR I w ty hd nv kv b/\Si I w nt nv/\JP w kbs v/\Dj I w ks kbs Fk/\(AG nv v b++Fk).Nodup/\∀q∈AG nv v b++Fk,q∈bs
 mono:=λh ⟨v,nv,kv,kbs,Fk,h0,⟨vs,ts,hs,h1,h2,h3,h4⟩,⟨⟨xs,h5,h6⟩,h7⟩,h8,h9,h10⟩=>⟨v,nv,kv,kbs,Fk,h0,⟨vs,ts,hs,h1,h2,h3.mono h,h4.mono h⟩,⟨⟨xs,h5,h6.mono h⟩,h7⟩,h8,D4 h h9,h10⟩
 loc:=λh ⟨v,nv,kv,kbs,Fk,h0,⟨vs,ts,hs,h1,h2⟩,⟨⟨xs,h5,h6⟩,h7⟩,h8,h9,h10,h11⟩=>⟨v,nv,kv,kbs,Fk,h0,⟨vs,ts,hs,(h b (h11 b (by simp [AG]))).trans h1,h2⟩,
  ⟨⟨xs,BJ (λq hq=>h q (h11 q (by simp only [AG,List.cons_append,List.mem_cons,List.mem_append];exact .inr (.inl (.inl hq))))) h5,h6⟩,h7⟩,BJ (λq hq=>h q (h11 q (by simp only [AG,List.cons_append,List.mem_cons,List.mem_append];exact .inr (.inl (.inr hq))))) h8,
  Cu (λq hq=>h q (h11 q (by simp [hq]))) h9,h10,h11⟩
theorem T0 {e:TypeId} {sz:Nat} {base v':Value} {len:Nat} {xs news:List Value} (h:TS w e sz base len xs news v' w') {q:Nat} (hq:q∈v'.ownBlock.toList):(q∈base.ownBlock.toList)\/w.heap.size<=q:=by
 have hq:v'.ownBlock=some q:=by simpa [Option.mem_toList] using hq
 rcases h.2.2 q hq with h | h
 ·exact .inl (by simp [h])
 ·exact .inr h
theorem YU {k:Mi} {bytes:Nat} (hb:bytes<=100000) (hl:ks.length<=100):iI (CD ty nt hd ks nv kv kbs b) (iB 109 (H2 k)) (YX ty nt hd (ks++[k]) b) 109 1 bytes kv:=by
 intro us vs I w b1 b2 ⟨Fk,⟨hcell,hnot,hrow⟩,h2,h3,h4⟩ ⟨c,u,us2,bs',g1,g2,g3,g4,⟨kb,F,g5,g6,g7⟩,g8,g9⟩ hdis;subst g5;have hkb:kbs.length<=100:=by rw [GE h2];exact hl
 have hu:u=ptr kb:=by simpa using g2.symm
 subst hu;refine ⟨kbs.length,1,1,kbs.map ptr,[ptr kb],⟨c,0,none⟩,hrow,λq hq=>h4 q (by simp [AG,hq]),by rw [g1];rfl,rfl,λj u hu=>?_,λu hu=>by simp at hu;subst hu;rfl,⟨by simp only [maxLen];omega,?_⟩,λv' w' hg=>?_⟩
 ·match j with
  | 0 =>
   simp at hu;subst hu;rw [De];exact Dk g3 0 _ (by simp)
  | j+1=>simp at hu
 ·have:(kbs.length+1)*bytes<=101*100000:=Nat.mul_le_mul (by omega) hb;omega
 have hb2:∀q∈F,q∈b2:=λq hq=>by rw [g9];exact List.mem_cons_of_mem _ (g7 q hq)
 have hne:∀q,q<w.heap.size->q∉kv.ownBlock.toList->w'.heap[q]?=w.heap[q]?:=λq hq hk=>hg.2.1.block q hq (λe=>hk (by simp [e]));have hbase:∀q∈kv.ownBlock.toList,q∈b1:=λq hq=>h4 q (by simp only [AG,List.cons_append,List.mem_cons,List.mem_append];exact .inr (.inl (.inr hq)));have hnod:=h3;simp only [AG,List.cons_append,List.append_assoc] at hnod;obtain ⟨n1,n2⟩:=List.nodup_cons.1 hnod;obtain ⟨n3,n4,n5⟩:=List.nodup_append.1 n2;obtain ⟨n6,n7,n8⟩:=List.nodup_append.1 n4;have hbk:b∉kv.ownBlock.toList:=λh=>n1 (by simp only [List.mem_append];exact .inr (.inl h));have hnk:∀q∈nv.ownBlock.toList,q∉kv.ownBlock.toList:=λq hq hk=>n5 q hq q (by simp only [List.mem_append];exact .inl hk) rfl
 have hFk:∀q∈Fk,q∉kv.ownBlock.toList:=λq hq hk=>n8 q hk q hq rfl;have hltn:=T2 (I:=I) (w:=w) (ty:=ty) (nt:=nt) (hd:=hd) (nv:=nv) (kv:=kv) (kbs:=kbs) (b:=b) ⟨hcell,hnot,hrow⟩;have hltb:b<w.heap.size:=hltn b (by simp [AG]);have hltnv:∀q∈nv.ownBlock.toList,q<w.heap.size:=λq hq=>hltn q (by simp only [AG,List.mem_cons,List.mem_append];exact .inr (.inl hq));have hltF:=OK h2;have hltG:=Y4 g6;have hFb:∀q∈F,q∉kv.ownBlock.toList:=λq hq hk=>hdis q (hbase q hk) (hb2 q hq);refine ⟨AG nv v' b++(Fk++F),λq hq=>?_,v',nv,kv,kbs++[kb],Fk++F,rfl,?_,?_,?_,?_,?_,λq hq=>hq⟩
 ·simp only [AG,List.cons_append,List.mem_cons,List.mem_append] at hq;have hw:q∈b1\/q∈b2\/(w.heap.size<=q/\q∈v'.ownBlock.toList):=by
   rcases hq with rfl | (hq | hq) | hq | hq
   ·exact .inl (h4 q (by simp [AG]))
   ·exact .inl (h4 q (by simp only [AG,List.cons_append,List.mem_cons,List.mem_append];exact .inr (.inl (.inl hq))))
   ·rcases T0 hg hq with h | h
    ·exact .inl (hbase q h)
    ·exact .inr (.inr ⟨h,hq⟩)
   ·exact .inl (h4 q (by simp [hq]))
   ·exact .inr (.inl (hb2 q hq))
  rcases hw with h | h | ⟨h,hq⟩
  ·exact .inl (.inl h)
  ·exact .inl (.inr h)
  ·exact .inr ⟨h,PF hg.1 hq⟩
 ·obtain ⟨vs0,ts,hs,c1,c2⟩:=hcell;exact ⟨vs0,ts,hs,(hne b hltb hbk).trans c1,c2⟩
 ·obtain ⟨⟨xs,x1,x2⟩,x3⟩:=hnot;exact ⟨⟨xs,BJ (λq hq=>hne q (hltnv q hq) (hnk q hq)) x1,x2⟩,x3⟩
 ·have:=hg.1;simp only [JP,List.map_append,List.length_append,List.length_cons,List.length_nil,List.map_cons,List.map_nil];exact this
 ·exact Ks (Cu (λq hq=>hne q (hltF q hq) (hFk q hq)) h2) ⟨kb,[],F,[],rfl,GB (λq hq=>hne q (hltG q hq) (hFb q hq)) g6,⟨rfl,rfl⟩,by simp⟩
 ·have hv1:∀q∈v'.ownBlock.toList,q∈kv.ownBlock.toList\/w.heap.size<=q:=λq hq=>T0 hg hq;have hvn:v'.ownBlock.toList.Nodup:=by cases v'.ownBlock <;> simp
  simp only [AG,List.cons_append,List.append_assoc];refine List.nodup_cons.2 ⟨λh=>?_,List.nodup_append.2 ⟨n3,List.nodup_append.2 ⟨hvn,List.nodup_append.2 ⟨n7,Ix g6,λx hx y hy e=>?_⟩,λx hx y hy e=>?_⟩,λx hx y hy e=>?_⟩⟩
  ·simp only [List.mem_append] at h;rcases h with h | h | h | h
   ·exact n1 (by simp only [List.mem_append];exact .inl h)
   ·rcases hv1 b h with h | h
    ·exact hbk h
    ·omega
   ·exact n1 (by simp only [List.mem_append];exact .inr (.inr h))
   ·exact hdis b (h4 b (by simp [AG])) (hb2 b h)
  ·subst e;exact hdis x (h4 x (by simp [hx])) (hb2 x hy)
  ·subst e;rcases List.mem_append.1 hy with hy | hy
   ·rcases hv1 x hx with h | h
    ·exact hFk x hy h
    ·have:=hltF x hy;omega
   ·rcases hv1 x hx with h | h
    ·exact hFb x hy h
    ·have:=hltG x hy;omega
  ·subst e;have hxb1:x∈b1:=h4 x (by simp only [AG,List.cons_append,List.mem_cons,List.mem_append];exact .inr (.inl (.inl hx)));simp only [List.mem_append] at hy;rcases hy with hy | hy | hy
   ·rcases hv1 x hy with h | h
    ·exact hnk x hx h
    ·have:=hltnv x hx;omega
   ·exact n5 x hx x (by simp only [List.mem_append];exact .inr hy) rfl
   ·exact hdis x hxb1 (hb2 x hy)
theorem Y1 {vs:List Value} (h:(CD ty nt hd ks nv kv kbs b).P us I w bs):(CD ty nt hd ks nv kv kbs b).P vs I w bs:=h
theorem U8:QZ (YX ty nt hd ks b) (AW (.mk ty nt hd ks) b) b 8 0:=by
 intro us I w bs ⟨v,nv,kv,kbs,Fk,h0,⟨vs,ts,hs,h1,h2,h3,h4⟩,h5,h6,h7,h8,h9⟩;have e1:ts.length=4:=by rw [h3.1,Pi]
 have e2:hs.length=3:=by rw [h4.1];simp
 have hl:vs.toList.length=9:=by rw [h2];simp [e1,e2]
 refine ⟨h9 b (by simp [AG]),vs,_,h1,by simp at hl;omega,λu hu h1u=>?_⟩;subst h0;have hu:v=u:=by simpa using hu
 subst hu;have hne:=KA h8;refine ⟨AG nv v b++Fk,⟨nv,v,kbs,Fk,⟨⟨_,ts,hs,setRow_heap w b vs _ _ _ h1,?_,h3,h4⟩,⟨?_,h5.2⟩,?_⟩,?_,rfl,h8⟩,h9⟩
 ·rw [List.toList_toArray,h2]
  match ts,e1 with
  | [a0,a1,a2,a3],_ =>
  match hs,e2 with
  | [a4,a5,a6],_=>simp
 ·obtain ⟨⟨xs,x1,x2⟩,_⟩:=h5;exact ⟨xs,BJ (λq hq=>CF (hne q (by simp only [List.mem_append];exact .inl (.inl hq)))) x1,x2⟩
 ·exact BJ (λq hq=>CF (hne q (by simp only [List.mem_append];exact .inl (.inr hq)))) h6
 ·exact Cu (λq hq=>CF (hne q (by simp only [List.mem_append];exact .inr hq))) h7
end
set_option maxHeartbeats 2000000 in
theorem X2 (c:Cse) (sz:List (List V)) (m:Mi) (h:Ty) (b:Nat) (ho:OkW c.datas) (hn:AB c.datas m.ty=true) :
  AV Tryz.prog 156 [.imm (AM c sz),.raw (ptr b),.imm (.agg (Bh h))] [(1,some (.hp (AW m b)))] (.ret Hd [(2,some (.hp (AW (AZ c.datas m h) b)))]):=by
 have hA:=OW c sz m.ty (Cq h) ho.dif hn;have hlen:=Eu ho m.ty (Cq h);simp only [AZ];generalize AK c.datas m.ty (Cq h)=L at *;obtain ⟨L,lb⟩:=L;simp only at hA hlen ⊢;obtain ⟨⟨so,n,x,ps⟩,nt,⟨f,hd2,hd3,hd4⟩,ks⟩:=m;obtain ⟨h1,h2,h3,h4⟩:=h;simp only [Mi.ty] at *;refine Ae Ak Tryz.func156 (by decide +kernel) rfl [2,3,4,5,6,7,8] rfl rfl ?_;refine JW 1 2 (λy:Value×Value×List Nat=>CD _ nt _ ks y.1 y.2.1 y.2.2 b) rfl (λvs I w bs h=>let ⟨y,hy⟩:=JI h;⟨y,bs,λq hq=>hq,Y1 hy⟩) λy=>?_;obtain ⟨nv,kv,kbs⟩:=y;refine md [] rfl (by simp) ?_;refine Qy Ak 2 _ rfl rfl (cS (.mk h1 h2 h3 h4)) ?_;refine mg [] rfl (by simp) ?_;refine Qy Ak 2 _ rfl rfl cQ ?_;refine mg [] rfl (by simp) ?_;refine Qy Ak 2 _ rfl rfl cR ?_
 refine mg [] rfl (by simp) ?_;refine Br Ak 2 ((dTyc (.mk so n x ps)).map .imm) rfl rfl (λ_ vs I w bs h=>JK h) rfl rfl (by simp [Ag]) ?_;refine mg [] rfl (by simp [Ag]) ?_;refine Ac rfl (λ_=>hA) (by simp [Ag]) ?_;refine mg [] rfl (by simp [Ag];rfl) ?_;have el:∀i t,L[i]?=some t->(L.take (i+1)).map An=(L.take i).map An++[An t]:=λi t ht=>by rw [Be ht,List.map_append];rfl
 refine BN 2 (λ_:Unit=>AW (.mk (.mk so n x ps) [] (.mk h1 h2 h3 h4) []) b) rfl (λvs I w bs h=>⟨(),JJ h⟩) λ_=>?_;refine Aj (λi:Nat=>[(33,.imm (.int .i64 i)),(32,.imm (.int .i64 L.length)),(31,.imm (.sl (AT L))),(1,.raw (ptr b)),(0,.imm (AM c sz))])
  (λi=>[(2,some (.hp (AW (.mk (.mk so n x ps) [] (.mk h1 h2 h3 h4) ((L.take i).map An)) b)))]) [4,5,6,7,8] (λi=>L.length-i)
  (λi=>i<=L.length) 0 (Nat.zero_le _) ⟨rfl,As (by simp),rfl,rfl,rfl,trivial⟩ ⟨rfl,trivial⟩ rfl λi hi ih=>?_
 refine md [] rfl (by simp) ?_;refine Aa rfl (λh=>?_) (λh=>?_)
 ·simp at h;obtain ⟨t,ht⟩:=Am h;have hih:=ih (i+1) (by omega) (by omega);rw [el i t ht] at hih;have hkl:((L.take i).map An).length<=100:=by simp;omega
  generalize (L.take i).map An=K at *;refine BN 2 (λy:Value×Value×List Nat=>CD (.mk so n x ps) [] (.mk h1 h2 h3 h4) K y.1 y.2.1 y.2.2 b) rfl (λvs I w bs h=>JI h) λy=>?_;obtain ⟨nv,kv,kbs⟩:=y;refine md [] rfl (by simp) ?_;refine mi rfl (c:=dTyc t) (λ_=>⟨by simp,by simpa using Ax ht,by simp⟩) (by simp) ?_;obtain ⟨t1,t2,t3,t4⟩:=t;refine mg [] rfl (by simp) ?_;refine Br Ak 2 [.raw kv] rfl rfl (λ_ vs I w bs h=>JL h) rfl rfl (by simp [Ag]) ?_;refine mg [] rfl (by simp [Ag]) ?_;refine Ce [] [(2,5)] [] (fr:=[5]) (nm:=[5]) rfl trivial (by simp) (GJ (AM c sz) (.mk t1 t2 t3 t4)) trivial rfl trivial rfl rfl rfl ?_;refine mg [] rfl (by simp) ?_;refine fQ Ak 5 6 rfl rfl ?_;refine mg [] rfl (by simp) ?_
  refine fR Ak 2 6 7 (YX (.mk so n x ps) [] (.mk h1 h2 h3 h4) (K++[An (.mk t1 t2 t3 t4)]) b) rfl rfl rfl (by decide) (YU (bytes:=8) (by decide) hkl) ?_;refine mg [] rfl (by simp) ?_;refine MR Ak 7 _ rfl rfl U8 ?_;refine mg [] rfl (by simp [Ag];rfl) ?_;refine A4 2 7 rfl ?_;exact Ad hih ⟨As (B9 (by omega) (by omega)),rfl,rfl,rfl,rfl,trivial⟩ ⟨rfl,trivial⟩ rfl
 ·simp at h;refine Ar rfl ?_;rw [List.take_of_length_le (by omega)];exact Cp ⟨_,rfl,rfl,rfl,trivial⟩
end Go.Hk
