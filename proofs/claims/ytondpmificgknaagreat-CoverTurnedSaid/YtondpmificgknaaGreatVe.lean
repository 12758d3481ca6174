/- Loads and stores of nodes; a part more. (And what it stands on.) -/
import Derived.Test.YtondpmificgknaaGreatVd
import Derived.Test.YtondpmificgknaaGreatVc
set_option linter.unusedSimpArgs false
set_option linter.unusedVariables false

set_option maxRecDepth 100000
namespace Go.Hk
structure PRc where
 b:Nat
 off:Nat
 cap:Nat
 l:Int
 m:Int
 sz:Nat
 dst:Option Nat
 todo:List DI
def iL (env:Env) (d:Int):Option Operand->Option Int
 | none=>some d
 | some x=>match Di env x with
  | some (.imm (.int _ m))=>some m
  | _=>none
def jW (tt:TT) (n:Nat) (env:Env) (todo:List DI):Option PRc :=
 match AU todo ([],[]) with
 | some (_,o,todo')=>match o.guard,o.op with
  | none,.slice t x lo hi none=>match lk tt t,Di env x,iL env 0 lo,B3 n o.dst with
   | some { sh:=.sl e,.. },some (.raw (.slice (some ⟨b,off,none⟩) len cap)),some l,true=>match lk tt e,iL env len hi with
    | some ti,some m=>some ⟨b,off,cap,l,m,ti.size,o.dst,todo'⟩
    | _,_=>none
   | _,_,_,_=>none
  | _,_=>none
 | none=>none
structure PRk where
 e:TypeId
 sz:Nat
 b:Nat
 off:Nat
 len:Nat
 todo:List DI
def jZ (tt:TT) (env:Env) (id:Nat) (todo:List DI):Option PRk :=
 match AU todo ([id],[id]) with
 | some (_,o,todo')=>match o.guard,o.dst,o.op with
  | none,none,.call { callee:=.builtin .clear,args:=⟨[x]⟩,argTypes:=⟨[t]⟩ }=>match lk tt t,Di env x with
   | some { sh:=.sl e,.. },some (.raw (.slice (some ⟨b,off,none⟩) len _))=>match lk tt e with
    | some ti=>match Nat.blt 0 len,Nat.beq ti.zero.length ti.size with
     | true,true=>some ⟨e,ti.size,b,off,len,todo'⟩
     | _,_=>none
    | none=>none
   | _,_=>none
  | _,_,_=>none
 | none=>none
def TM (A A':Asn) (b off k:Nat):Prop:=∀us I w bs,A.P us I w bs->b∈bs/\∃cur t,w.heap[b]?=some (.cells cur t (0,0))/\off+k<=cur.size /\
 ∀news:List Value,news.length=k->(∀u∈news,u.oneCell'=true)->A'.P us I (w.setRow b (cur.toList.take off++news++cur.toList.drop (off+k)).toArray) bs
section
variable {P:Program} {n:Nat} {F:List Nat} {Q:DQ} {tt:TT} {env env':Env} {st st' st0 st1:St} {ids ids' fr:List Nat} {k todo todo':List DI} {I J:Imm} {μ:Mu} {w:World} {a:Act} {Pn:V->Prop} {d:D} {cx:Prop} {ob:List Prop}
theorem Vf {lo:Option Operand} {d l:Int} (h:iL env d lo=some l) (hx:∀x,lo=some x->∀d,Di env x=some d->RepD I μ (a.eval x) d):(lo=none/\l=d)\/∃x k,lo=some x/\a.eval x = .int k l:=by
 unfold iL at h
 split at h
 ·cases h;exact .inl ⟨rfl,rfl⟩
 ·rename_i x
  split at h
  ·rename_i k m hm;cases h;exact .inr ⟨x,k,rfl,(hx x rfl _ hm).immInv.intInv⟩
  ·cases h
theorem eN (htt:TTok P tt) {c:PRc} (h:jW tt n env todo=some c) (hc:0<=c.l/\c.l<=c.m/\c.m<=c.cap/\c.l<c.cap)
  (hk:G P n F Q c.todo (B1 c.dst (.raw (.slice (some ⟨c.b,c.off+c.l.toNat*c.sz,none⟩) (c.m.toNat-c.l.toNat) (c.cap-c.l.toNat))) env) st ids):G P n F Q todo env st ids:=by
 unfold jW at h
 split at h
 ·rename_i all o todo' h1
  split at h
  ·rename_i t x lo hi hgd hop
   split at h
   ·rename_i e _ _ _ _ b off len cap l ht hx hlo hd
    split at h
    ·rename_i ti m hti hhi;cases h;simp only at hc hk;refine By (fr:=[]) (wr:=[]) (rd:=[]) h1 ?_ hd (λc hc=>by rw [hop] at hc;cases hc) hk;intro I μ st1 ids1 a w hag hst hon;refine ⟨λ_=>?_,λhw=>by rw [A3 hgd] at hw;cases hw⟩;have hops:=AT hon;rw [hop] at hops;have e1:a.eval x = .slice (some ⟨b,off,none⟩) len cap:=(hops x (by simp [Op.operands]) _ hx).rawInv;obtain ⟨c1,c2,c3,c4⟩:=hc;obtain ⟨l',rfl⟩:∃k:Nat,l=k:=⟨l.toNat,by omega⟩
     obtain ⟨m',rfl⟩:∃k:Nat,m=k:=⟨m.toNat,by omega⟩
     have r1:=Vf (I:=I) (μ:=μ) (a:=a) hlo (λy hy=>hops y (by subst hy;simp [Op.operands]));have r2:=Vf (I:=I) (μ:=μ) (a:=a) hhi (λy hy=>hops y (by subst hy;cases lo <;> simp [Op.operands]));have hb:∀(k:IntKind) (x y:Nat) (c:BoundsCode),x<=y->(Instr.sliceBound (.int k x) y c).run P w = .ok x w:=by
      intro k x y c hxy;simp [Instr.sliceBound,asIntOf,hxy]
     have hl1:l'<=m':=by omega
     have hm1:m'<=cap:=by omega
     have hne:cap≠l':=by omega
     have hrun:(Instr.sliceAt t (.slice (some ⟨b,off,none⟩) len cap) (lo.map a.eval) (hi.map a.eval) none).run P w = .ok (.slice (some ⟨b,off+l'*ti.size,none⟩) (m'-l') (cap-l')) w:=by
      have hadd:(⟨b,off,none⟩:Addr).add (l'*ti.size)=⟨b,off+l'*ti.size,none⟩:=Da _ _ _;rcases r1 with ⟨rfl,h1⟩ | ⟨y,k,rfl,h1⟩ <;> rcases r2 with ⟨rfl,h2⟩ | ⟨z,k2,rfl,h2⟩
      all_goals
       simp only [Option.map_none,Option.map_some]
       try rw [h1]
       try rw [h2]
      ·have hl0:l'=0:=by omega
       have hml:m'=len:=by omega
       subst hl0;subst hml;simp [Instr.sliceAt,run_underlying (htt.sh ht),Instr.slice,Instr.sliceBounds,hb _ _ _ _ hm1,(htt e ti hti).sizeOf w,hne,Da]
      ·have hl0:l'=0:=by omega
       subst hl0;simp [Instr.sliceAt,run_underlying (htt.sh ht),Instr.slice,Instr.sliceBounds,hb _ _ _ _ hm1,(htt e ti hti).sizeOf w,hne,Da]
      ·have hml:m'=len:=by omega
       subst hml;simp [Instr.sliceAt,run_underlying (htt.sh ht),Instr.slice,Instr.sliceBounds,hb _ _ _ _ hl1,hb _ _ _ _ hm1,(htt e ti hti).sizeOf w,hne,Da]
      ·simp [Instr.sliceAt,run_underlying (htt.sh ht),Instr.slice,Instr.sliceBounds,hb _ _ _ _ hl1,hb _ _ _ _ hm1,(htt e ti hti).sizeOf w,hne,Da]
     have hrun':(execOp a.eval o).run P w = .ok (.value (.slice (some ⟨b,off+l'*ti.size,none⟩) (m'-l') (cap-l'))) w:=by
      simp only [execOp,hop,e1,Option.map_none,Sem.run_bind,hrun,Result.andThen_ok,Sem.run_pure]
     rw [hrun'];exact ⟨I,μ,hst,.raw _ rfl,Mu.le_refl μ,Ext.refl _ _ _ _⟩
    ·cases h
   ·cases h
  ·cases h
 ·cases h
theorem lY (htt:TTok P tt) (id:Nat) {A:Asn} (A':Asn) {c:PRk} (h:jZ tt env id todo=some c) (hl:lk st id=some (some (.hp A))) (hA:TM A A' c.b c.off (c.len*c.sz))
  (hk:G P n F Q c.todo env ((id,some (.hp A'))::st) ids):G P n F Q todo env st ids:=by
 unfold jZ at h
 split at h
 ·rename_i all o todo' h1
  split at h
  ·rename_i x t hgd hdst hop
   split at h
   ·rename_i e _ _ _ _ b off len cap ht hx
    split at h
    ·rename_i ti hti
     split at h
     ·rename_i hlen hz;cases h;simp only at hA hk;have hlen:0<len:=by simpa [Nat.blt_eq] using hlen
      have hk:G P n F Q todo' (B1 o.dst (.undef) env) ([(id,some (.hp A'))]++st) ids:=by rw [hdst];exact hk
      refine By (fr:=[]) (wr:=[(id,some (.hp A'))]) (rd:=[id]) h1 ?_ (by simp [B3,hdst]) (λc hc=>by rw [hop] at hc;cases hc) hk;intro I μ st1 ids1 a w hag hst hon;refine ⟨λ_=>?_,λhw=>by rw [A3 hgd] at hw;cases hw⟩;have hops:=AT hon;rw [hop] at hops;have e1:a.eval x = .slice (some ⟨b,off,none⟩) len cap:=(hops x (by simp [Op.operands,Call.operands]) _ hx).rawInv;have hl1:Ap st1 id (.hp A):=by unfold Ap;rw [hag id (by simp)];exact hl
      obtain ⟨gg,hg',us,bs,rfl,e2⟩:=hst.blk id _ hl1;obtain ⟨k1,cur,bt,k2,k3,k4⟩:=hA us I w bs e2;obtain ⟨inf,z,z1,z2,z3,z4,z5,z6⟩:=(htt e ti hti).info;have hzl:z.cells.size=ti.size:=by
       have:=(z5 (λ_=>none) noMu).1;rw [Nat.eq_of_beq_eq_true hz] at this;simpa using this
      have hnl:(Builtin.zeroCells z.cells len).toList.length=len*ti.size:=by rw [Array.length_toList,size_zeroCells,hzl]
      have hone:∀u∈(Builtin.zeroCells z.cells len).toList,u.oneCell'=true:=by
       intro u hu;simp only [Builtin.zeroCells,Array.toList_map,List.mem_map,Array.toList_range,List.mem_range] at hu;obtain ⟨q,hq,rfl⟩:=hu;have hpos:0<z.cells.size:=by
        rcases Nat.eq_zero_or_pos z.cells.size with h0 | h0
        ·rw [h0] at hq;simp at hq
        ·exact h0
       have hlt:q % z.cells.size<z.cells.size:=Nat.mod_lt _ hpos;rw [getElem!_pos z.cells _ hlt];exact z6 _ (by simp)
      have hst2:=run_storeCells_at P b off bt (Builtin.zeroCells z.cells len).toList 0 cur w k2 (by rw [hnl];simpa using k3) hone;simp only [Nat.add_zero] at hst2;rw [hnl] at hst2;have hrun:(execOp a.eval o).run P w = .ok (.value (.tuple #[])) (w.setRow b (cur.toList.take off++(Builtin.zeroCells z.cells len).toList++cur.toList.drop (off+len*ti.size)).toArray):=by
       obtain ⟨len',rfl⟩:∃l,len=l+1:=⟨len-1,by omega⟩
       simp only [execOp,hop,resolve,invoke,builtin,Sem.run_bind,Sem.run_pure,Result.andThen_ok,List.map_toArray,List.map_cons,List.map_nil,e1];simp [Builtin.clear_,run_underlying (htt.sh ht),zeroValue,typeInfo,z1,z4,hst2]
      rw [hrun];have hnew:BlkRep I μ (w.setRow b (cur.toList.take off++(Builtin.zeroCells z.cells len).toList++cur.toList.drop (off+len*ti.size)).toArray) (MX us bs) (.hp A'):=⟨us,bs,rfl,k4 _ hnl hone⟩
      obtain ⟨q1,q2⟩:=hst.update (id:=id) (blk:=.hp A) (g:=MX us bs) (b:=b) hl1 hg' (AJ.2 k1) (w':=w.setRow b _) (setRow_size w b _) rfl rfl rfl (λk hk=>setRow_other w b k _ hk) hnew;exact ⟨I,μ,q1,.undef _,Mu.le_refl μ,q2⟩
     ·cases h
    ·cases h
   ·cases h
  ·cases h
 ·cases h
theorem Ol (id t j:Nat) {A:Asn} {e:TypeId} {sz:Nat} (es:List (List V)) {v:Value} (hl:lk st id=some (some (.hp A))) (ht:lk env t=some (.raw v))
  (hA:∀vs I w bs,A.P vs I w bs->∃xs,w.ownsRow 0 e sz v es.length xs/\RepVL I xs es.flatten/\(∀c∈es,c.length=sz)/\(∀c∈es,∀x∈c,V.one x=true)/\0<sz/\∀k,v.ownBlock=some k->k∈bs)
  (h:DGo P n F Q todo ((t,.own j es.length)::env) ((j,some (.row e sz es))::(id,none)::st) ids'):DGo P n F Q todo env st (j::ids'):=by
 refine Du λI μ a w hc=>?_;obtain ⟨g,hg,vs,bs,rfl,hP⟩:=hc.blk id _ hl;obtain ⟨xs,k1,k2,k3,k4,k5,k6⟩:=hA vs I w bs hP;have hown:∀b,Db v b->v.ownBlock=some b:=λb hb=>by
  rcases k1.2 with ⟨rfl,_⟩ | ⟨g,cap,cur,rfl,_⟩
  ·cases hb
  ·have:g=b:=hb;rw [<- this];rfl
 obtain ⟨q1,q2,q3⟩:=StRep.relay (R:=[id]) (new:=[(j,v,.row e sz es)]) (ids':=ids') hc.toStRep
  (λp hp b hb=>by
   rw [List.mem_singleton.1 hp] at hb;exact ⟨id,_,_,by simp,hl,hg,AJ.2 (k6 b (hown b hb))⟩)
  (λp hp q hq b _ _=>by rw [List.mem_singleton.1 hp,List.mem_singleton.1 hq]) (Imm.le_refl I) hc.imm (λb o h=>.inl h)
  (λ_ p hp=>by rw [List.mem_singleton.1 hp];exact ⟨xs,k1,k2,k3,k4,k5⟩)
 refine ⟨I,_,_,_,ids',q2,λt' d hd=>?_,q3,.of_le q1,h⟩;by_cases e':t=t'
 ·subst e';rw [Ao] at hd;cases hd;have hv:=(hc.env t _ ht).rawInv;rw [hv];obtain ⟨ad,cap,rfl⟩:=NL k1;exact .own j es.length ad cap (by simp [E2,lk])
 ·rw [Av _ _ e'] at hd;exact (hc.env t' d hd).mono (Imm.le_refl I) q1
end
end Go.Hk
namespace Go.Hk
open Go.Proofs
def gS:TT:=mM++[
 (177,⟨.struct [(0,26),(4,150),(7,174),(8,175)],true,9,136,[.imm (.int .i64 0),.imm (.int .i64 0),.imm (.str []),.nils,.imm (.int .i64 0),.imm (.int .i64 0),.imm (.str []),.nils,.nils]⟩),
 (109,⟨.ptr 177,false,1,8,[.imm .nilp]⟩),
 (174,⟨.sl 150,false,1,24,[.nils]⟩),
 (175,⟨.sl 109,false,1,24,[.nils]⟩),
 (107,⟨.struct [(0,35),(4,4)],true,5,64,[.imm (.int .i64 0),.imm (.int .i64 0),.imm (.str []),.nils,.imm (.bool false)]⟩),
 (170,⟨.struct [(0,39),(1,150)],true,4,56,[.nils,.imm (.int .i64 0),.imm (.int .i64 0),.imm (.str [])]⟩),
 (165,⟨.ptr 170,false,1,8,[.imm .nilp]⟩),
 (164,⟨.iface,false,1,16,[.imm .niliface]⟩),
 (111,⟨.sl 164,false,1,24,[.nils]⟩),
 (124,⟨.struct [(0,62)],true,4,56,[.imm (.int .i64 0),.imm (.int .i64 0),.imm (.str []),.nils]⟩),
 (182,⟨.struct [(0,62)],true,4,56,[.imm (.int .i64 0),.imm (.int .i64 0),.imm (.str []),.nils]⟩),
 (68,⟨.struct [(0,3),(1,39),(2,33),(3,66)],true,4,80,[.imm (.int .i64 0),.nils,.nils,.nils]⟩),
 (66,⟨.sl 68,false,1,24,[.nils]⟩),
 (136,⟨.struct [(0,102),(1,3)],true,2,16,[.imm .nilp,.imm (.int .i64 0)]⟩),
 (134,⟨.ptr 136,false,1,8,[.imm .nilp]⟩),
 (122,⟨.struct [(0,26),(4,33),(5,35),(9,120)],true,10,160,[.imm (.int .i64 0),.imm (.int .i64 0),.imm (.str []),.nils,.nils,.imm (.int .i64 0),.imm (.int .i64 0),.imm (.str []),.nils,.nils]⟩),
 (120,⟨.sl 122,false,1,24,[.nils]⟩),
 (46,⟨.struct [(0,4),(1,35)],true,5,64,[.imm (.bool false),.imm (.int .i64 0),.imm (.int .i64 0),.imm (.str []),.nils]⟩),
 (273,⟨.func,false,1,8,[.imm .nilfn]⟩)]
theorem Aj:TTok Tryz.prog gS:=.of_eq (l:=[4,3,9,186,26,62,183,27,5,24,23,193,184,60,188,192,90,22,190,87,85,36,35,32,33,29,55,101,181,150,221,178,179,39,102,114,250,207,155,177,109,174,175,107,170,165,164,111,124,182,68,66,136,134,122,120,46,273]) (by kernel_rfl)
section
variable {n:Nat} {F:List Nat} {Q:DQ} {env env':Env} {st st':St} {ids ids':List Nat} {k todo:List DI} {ob:List Prop}
theorem md (path:List Pt) (h:run gS n 300 path todo env st ids [] = .at k env' st' ids' ob) (hob:AA ob) (hd:G Tryz.prog n F Q k env' st' ids'):DGo Tryz.prog n F Q todo env st ids:=Kw Aj Em 300 path h hob hd
theorem mg (path:List Pt) (h:run gS n 300 path todo env st ids [] = .at k env' st' ids' ob) (hob:AA ob) (hd:G Tryz.prog n F Q k env' st' ids'):G Tryz.prog n F Q todo env st ids:=Jw Aj Em 300 path h hob hd
theorem oB (f:Nat) (h:run gS n f [] todo env st ids [] = .at k env' st' ids' ob) (hob:AA ob) (hd:G Tryz.prog n F Q k env' st' ids'):DGo Tryz.prog n F Q todo env st ids:=Kw Aj Em f [] h hob hd
theorem oA (f:Nat) (h:run gS n f [] todo env st ids [] = .at k env' st' ids' ob) (hob:AA ob) (hd:G Tryz.prog n F Q k env' st' ids'):G Tryz.prog n F Q todo env st ids:=Jw Aj Em f [] h hob hd
theorem mi {es:List (List V)} {m:Int} {sz:Nat} {e:TypeId} {g:Option (Bool×Bool)} {ob:List Prop} {t:Nat} {todo':List DI} {c:List V} (h:O4 gS n env todo=some ⟨es,m,sz,e,g,ob,some t,todo'⟩)
  (hc:Ah g->0<=m/\es[m.toNat]?=some c/\c.length=sz) (hob:AA ob) (hk:G Tryz.prog n F Q todo' ((t,gD g (.ip e c 0))::env) st ids):G Tryz.prog n F Q todo env st ids:=Fy Aj h hc hob hk
end
def AC:Ty->Int
 | .mk f _ _ _=>f
def C4:Ty->Str
 | .mk _ _ x _=>x
def zT:Ty:=.mk 0 0 [] []
inductive Mi where
 | mk (ty:Ty) (nt:List Ty) (hd:Ty) (ks:List Mi)
def Mi.ty:Mi->Ty
 | .mk t _ _ _=>t
def Mi.nt:Mi->List Ty
 | .mk _ n _ _=>n
def Mi.hd:Mi->Ty
 | .mk _ _ h _=>h
def Mi.ks:Mi->List Mi
 | .mk _ _ _ k=>k
def Aq (t:Ty):Mi:=.mk t [] zT []
def A0 (ds:List Dt):Ty->List Ty
 | .mk so _ x _=>if so=2 then [.mk 2 0 [] [],.mk 2 1 [] []] else if so=3 then [.mk 3 0 [] []] else if so=8 then (match ds[(AQ x 0 ds).toNat]? with
  | some d=>d.cons.map λc=>.mk 4 0 c.name []
  | none=>[]) else []
def BD (l:List Ty) (h:Ty):Bool:=l.any λx=>A5 x h
def AX (ds:List Dt) (m:Mi) (h:Ty):Mi:=.mk m.ty [] h ((AK ds m.ty (C4 h)).1.map Aq)
def Hl (ds:List Dt) (m:Mi):List Ty:=(A0 ds m.ty).filter λh=>!BD m.nt h
def Af (ds:List Dt) (m:Mi):Mi:=if AC m.hd≠0 then m else match Hl ds m with
 | [h]=>AX ds m h
 | _=>m
def A7 (ds:List Dt):Mi->List Int->Ty->Bool->Mi
 | m,[],h,true=>AX ds m h
 | m,[],h,false=>.mk m.ty (m.nt++[h]) m.hd m.ks
 | m,i::p,h,is=>match (Af ds m).ks[i.toNat]? with
  | some k=>.mk (Af ds m).ty (Af ds m).nt (Af ds m).hd ((Af ds m).ks.set i.toNat (A7 ds k p h is))
  | none=>m
mutual
def Ax (ds:List Dt):Ty->Mi->Int×List Int×Ty
 | .mk f n x ps,m=>if f=1\/f=2 then (1,[],zT) else
  if AC (Af ds m).hd=0/\BD (Af ds m).nt (AN (.mk f n x ps))=false then (2,[],AN (.mk f n x ps)) else
  if AC (Af ds m).hd=0\/A5 (Af ds m).hd (AN (.mk f n x ps))=false then (0,[],zT) else AW ds 0 ps (Af ds m).ks
def AW (ds:List Dt):Int->List Ty->List Mi->Int×List Int×Ty
 | _,[],_=>(1,[],zT)
 | _,_::_,[]=>(1,[],zT)
 | i,p::r,k::ks=>if (Ax ds p k).1=1 then AW ds (i+1) r ks else ((Ax ds p k).1,i::(Ax ds p k).2.1,(Ax ds p k).2.2)
end
def Jj (nt:List Ty):Nat->Int->Ty
 | 0,i=>.mk 1 i [] []
 | f+1,i=>if BD nt (.mk 1 i [] [])=false then .mk 1 i [] [] else if BD nt (.mk 1 (0-i) [] [])=false then .mk 1 (0-i) [] [] else Jj nt f (i+1)
def CW (nt:List Ty):Ty:=Jj nt nt.length 0
def AP (ds:List Dt) (m:Mi) (h:Ty):Int:=if AC h=4 then AM ds (D7 ds) 1 (AK ds m.ty (C4 h)).1 else 1
def F3:Option (Ty×Int)->Int->Bool
 | none,_=>true
 | some p,n=>decide (n<p.2)
def Dm (ds:List Dt) (m:Mi):Option (Ty×Int)->List Ty->Option (Ty×Int)
 | b,[]=>b
 | b,h::r=>Dm ds m (if 0<AP ds m h/\BD m.nt h=false/\F3 b (AP ds m h)=true then some (h,AP ds m h) else b) r
def A9 (ds:List Dt) (m:Mi):Option Ty:=(Dm ds m none (A0 ds m.ty)).map (·.1)
def Bd (g:Mi->Option (Option Ty)):List Mi->Option (Option (List Ty))
 | []=>some (some [])
 | k::r=>match g k with
  | none=>none
  | some none=>some none
  | some (some v)=>match Bd g r with
   | none=>none
   | some none=>some none
   | some (some vs)=>some (some (v::vs))
def Cs:Ty->List Ty->Ty
 | .mk a b c _,l=>.mk a b c l
def AD (ds:List Dt):Nat->Mi->Option (Option Ty)
 | 0,_=>none
 | f+1,m=>if AC m.hd=0 then
   (if AC m.ty=1 then some (some (CW m.nt)) else
   if AC m.ty=4\/AC m.ty=5\/AC m.ty=6\/AC m.ty=7 then some (some (.mk 5 0 [] [])) else
   match A9 ds m with
   | none=>some none
   | some h=>(Bd (AD ds f) (AX ds m h).ks).map (·.map (Cs h)))
  else (Bd (AD ds f) m.ks).map (·.map (Cs m.hd))
def Dl (n:Int):Int:=if 0<n then 2*n-1 else -2*n
mutual
def BL (ds:List Dt):Ty->Ty->Int
 | .mk f n x ps,.mk _ n' x' ps'=>if f=1 then Dl n-Dl n' else if f=2 then n-n' else if f=4 then (if (BP ds x).2-(BP ds x').2≠0 then (BP ds x).2-(BP ds x').2 else BH ds ps ps') else 0
def BH (ds:List Dt):List Ty->List Ty->Int
 | [],_=>0
 | _::_,[]=>0
 | p::r,q::s=>if BL ds p q≠0 then BL ds p q else BH ds r s
end
def BY (ds:List Dt) (a b:Ty):Bool:=if Ai a=Ai b then decide (BL ds a b<0) else decide (Ai a<Ai b)
def GZ (ds:List Dt):Option Ty->Option Ty->Option Ty
 | none,b=>b
 | some a,none=>some a
 | some a,some b=>if BY ds b a then some b else some a
def dY (ds:List Dt) (m:Mi):Option (Option Ty):=AD ds 1000 m
def ND (ds:List Dt):Option (Option Ty)->Option (Option Ty)->Option (Option Ty)
 | some a,some b=>some (GZ ds a b)
 | _,_=>none
def Ci (ds:List Dt):Nat->Mi->List (Ty×Int)->Option (Option Ty)
 | 0,_,_=>none
 | _+1,m,[]=>dY ds m
 | f+1,m,(p,b)::r=>if (Ax ds p m).1=2 then ND ds (Ci ds f (A7 ds m (Ax ds p m).2.1 (Ax ds p m).2.2 true) ((p,b)::r)) (Ci ds f (A7 ds m (Ax ds p m).2.1 (Ax ds p m).2.2 false) ((p,b)::r)) else
  if (Ax ds p m).1=b then Ci ds f m r else some none
end Go.Hk
namespace Go.Hk
section
variable {P:Program} {n:Nat} {F:List Nat} {Q:DQ} {tt:TT} {env env':Env} {st st':St} {ids ids':List Nat} {todo:List DI}
end
end Go.Hk
namespace Go.Hk
section
variable {P:Program} {n:Nat} {F:List Nat} {Q:DQ} {tt:TT} {env env':Env} {st st':St} {ids ids':List Nat} {todo:List DI} {d:D} {ob:List Prop}
end
end Go.Hk
namespace Go.Hk
mutual
def unn:V->V
 | .nilsl=>.sl []
 | .agg xs=>.agg (Mw xs)
 | .tup xs=>.tup (Mw xs)
 | .sl es=>.sl (Ue es)
 | .ip t cs off=>.ip t (Mw cs) off
 | .iface t x=>.iface t (unn x)
 | x=>x
def Mw:List V->List V
 | []=>[]
 | x::r=>unn x::Mw r
def Ue:List (List V)->List (List V)
 | []=>[]
 | x::r=>Mw x::Ue r
end
theorem GV:∀l:List V,Mw l=l.map unn
 | []=>rfl
 | x::r=>by simp [Mw,GV r]
theorem Pi:∀l:List (List V),Ue l=l.map Mw
 | []=>rfl
 | x::r=>by simp [Ue,Pi r]
theorem RepV.unn {I:Imm} {v:Value} {x:V} (h:RepV I v x):RepV I v (unn x):=by
 have gL:∀{xs:List V} {i:Nat} {y:V},(Mw xs)[i]?=some y->∃z,xs[i]?=some z/\y=Go.Hk.unn z:=by
  intro xs i y hy;rw [GV,List.getElem?_map] at hy;cases hz:xs[i]? with
  | none=>rw [hz] at hy;cases hy
  | some z=>rw [hz] at hy;cases hy;exact ⟨z,rfl,rfl⟩
 have gLL:∀{es:List (List V)} {i:Nat} {e:List V},(Ue es)[i]?=some e->∃z,es[i]?=some z/\e=Mw z:=by
  intro es i y hy;rw [Pi,List.getElem?_map] at hy;cases hz:es[i]? with
  | none=>rw [hz] at hy;cases hy
  | some z=>rw [hz] at hy;cases hy;exact ⟨z,rfl,rfl⟩
 induction h with
 | agg cs xs hl h1 _ ih=>exact .agg cs _ (by rw [GV,List.length_map,hl]) h1 λi c y hc hy=>by obtain ⟨z,hz,rfl⟩:=gL hy;exact ih i c z hc hz
 | tup cs xs hl _ ih=>exact .tup cs _ (by rw [GV,List.length_map,hl]) λi c y hc hy=>by obtain ⟨z,hz,rfl⟩:=gL hy;exact ih i c z hc hz
 | slnil=>exact .slnil
 | sl0 a=>exact .sl0 a
 | nilsl=>exact .slnil
 | sl b o len cap sz es vs hl hc hm hsz hcell _ ih =>
  refine .sl b o len cap sz _ vs (by rw [Pi,List.length_map,hl]) hc hm (λe he=>?_) (λi e j x hi hj=>?_) (λi e j x hi hj=>?_)
  ·obtain ⟨i,hi⟩:=List.getElem?_of_mem he;obtain ⟨z,hz,rfl⟩:=gLL hi;rw [GV,List.length_map];exact hsz z (List.mem_of_getElem? hz)
  ·obtain ⟨z,hz,rfl⟩:=gLL hi;obtain ⟨y,hy,rfl⟩:=gL hj;exact hcell i z j y hz hy
  ·obtain ⟨z,hz,rfl⟩:=gLL hi;obtain ⟨y,hy,rfl⟩:=gL hj;exact ih i z j y hz hy
 | iface t v x _ ih=>exact .iface t v _ ih
 | ip b o t cs off vs hcell _ ih =>
  refine .ip b o t _ off vs (λj y hj=>?_) (λj y hj=>?_)
  ·obtain ⟨z,hz,rfl⟩:=gL hj;exact hcell j z hz
  ·obtain ⟨z,hz,rfl⟩:=gL hj;exact ih j z hz
 | bool b=>exact .bool b
 | int k n=>exact .int k n
 | str s l hs=>exact .str s l hs
 | niliface=>exact .niliface
 | nilp=>exact .nilp
 | nilmap=>exact .nilmap
 | nilfn=>exact .nilfn
 | fn f=>exact .fn f
 | mapv b es clock kv hI hl hs h1 h2 _ _=>exact .mapv b es clock kv hI hl hs h1 h2
 | clo f first cap xs ys hf hc h1 h2 _ _=>exact .clo f first cap xs ys hf hc h1 h2
def mW:List D->List D->Prop
 | [],[]=>True
 | d::r,d'::r'=>(d=d'\/(d = .nils/\d' = .imm .nilsl))/\mW r r'
 | _,_=>False
theorem PR:∀{ds ds':List D},mW ds ds'->ds.length=ds'.length/\∀(i:Nat) (d':D),ds'[i]?=some d'->∃d,ds[i]?=some d/\(d=d'\/(d = .nils/\d' = .imm .nilsl))
 | [],[],_=>⟨rfl,λi d h=>by simp at h⟩
 | d::r,d'::r',h=>by
  obtain ⟨h1,h2⟩:=PR h.2;refine ⟨by simp [h1],λi x hx=>?_⟩;cases i with
  | zero=>simp at hx;subst hx;exact ⟨d,rfl,h.1⟩
  | succ i=>exact h2 i x (by simpa using hx)
 | [],_::_,h=>h.elim
 | _::_,[],h=>h.elim
theorem iD {I:Imm} {μ:Mu} {vs:List Value} {ds ds':List D} (h:mW ds ds') (hr:RepL I μ vs ds):RepL I μ vs ds':=by
 obtain ⟨h1,h2⟩:=PR h;refine ⟨by rw [hr.1,h1],λi v y hv hy=>?_⟩;obtain ⟨d,k1,k2⟩:=h2 i y hy;have:=hr.2 i v d hv k1;rcases k2 with rfl | ⟨rfl,rfl⟩
 ·exact this
 ·cases this;exact .imm _ _ .nilsl
section
variable {P:Program} {n:Nat} {F:List Nat} {Q:DQ} {tt:TT} {env env':Env} {st st':St} {ids ids':List Nat} {todo:List DI}
theorem fG (k:Nat) {t:TypeId} {sz:Nat} {ds:List D} (ds':List D) (hk:lk st k=some (some (.cells t sz ds))) (hcl:mW ds ds') (h:DGo P n F Q todo env ((k,some (.cells t sz ds'))::st) ids):DGo P n F Q todo env st ids:=by
 refine Du λI μ a w hc=>?_;obtain ⟨p1,p2⟩:=hc.toStRep.retell (st1:=(k,some (.cells t sz ds'))::st) (λi bb hlb=>by
  rcases Aw.1 hlb with ⟨rfl,rfl⟩ | ⟨_,h2⟩
  ·refine ⟨_,hk,λgb hb=>?_⟩;obtain ⟨hs,b,us,e1,e2,e3,e4⟩:=hb;exact ⟨by rw [<- (PR hcl).1,hs],b,us,e1,e2,iD hcl e3,e4⟩
  ·exact ⟨bb,h2,λ_ h=>h⟩)
 exact ⟨I,μ,env,_,ids,p1,hc.env,p2,.refl _ _,h⟩
def nZ (j:Nat):List D->List D->Prop
 | [],[]=>True
 | d::r,d'::r'=>(d=d'\/(d = .imm .nilsl/\d' = .own j 0))/\nZ j r r'
 | _,_=>False
theorem UG {j:Nat}:∀{ds ds':List D},nZ j ds ds'->ds.length=ds'.length/\∀(i:Nat) (d':D),ds'[i]?=some d'->∃d,ds[i]?=some d/\(d=d'\/(d = .imm .nilsl/\d' = .own j 0))
 | [],[],_=>⟨rfl,λi d h=>by simp at h⟩
 | d::r,d'::r',h=>by
  obtain ⟨h1,h2⟩:=UG h.2;refine ⟨by simp [h1],λi x hx=>?_⟩;cases i with
  | zero=>simp at hx;subst hx;exact ⟨d,rfl,h.1⟩
  | succ i=>exact h2 i x (by simpa using hx)
 | [],_::_,h=>h.elim
 | _::_,[],h=>h.elim
theorem V4 (k j:Nat) {e t:TypeId} {sz sz':Nat} {xs:List V} (ds':List D) (hsz:0<sz) (hk:lk st k=some (some (.immb t sz' xs))) (hcl:nZ j (xs.map .imm) ds')
  (h:DGo P n F Q todo env ((k,some (.cells t sz' ds'))::(j,some (.row e sz []))::st) ids'):DGo P n F Q todo env st (j::ids'):=by
 refine Du λI μ a w hc=>?_;obtain ⟨gk,hgk,_⟩:=hc.blk k _ hk;have hjk:j≠k:=λe=>by rw [<- e,hc.idsFree j (by simp)] at hgk;cases hgk
 obtain ⟨q1,q2,q3⟩:=StRep.relay (R:=[]) (new:=[(j,.slice none 0 0,.row e sz [])]) (ids':=ids') hc.toStRep
  (λp hp b hb=>by rw [List.mem_singleton.1 hp] at hb;exact hb.elim)
  (λp hp q hq b _ _=>by rw [List.mem_singleton.1 hp,List.mem_singleton.1 hq]) (Imm.le_refl I) hc.imm (λb o h=>.inl h)
  (λ_ p hp=>by rw [List.mem_singleton.1 hp];exact ⟨[],World.ownsRow_nil w 0 e sz,.nil,by simp,by simp,hsz⟩)
 have hmj:E2 [(j,Value.slice none 0 0,Blk.row e sz [])] μ j=some (.slice none 0 0):=by simp [E2,lk]
 have hk2:Ap ((j,some (.row e sz []))::st) k (.immb t sz' xs):=Aw.2 (.inr ⟨hjk.symm,hk⟩);obtain ⟨c1,c2⟩:=UG hcl;obtain ⟨p1,p2⟩:=q2.retell (st1:=(k,some (.cells t sz' ds'))::(j,some (.row e sz []))::st) (λi bb hlb=>by
  rcases Aw.1 hlb with ⟨rfl,rfl⟩ | ⟨_,h2⟩
  ·refine ⟨_,hk2,λgb hb=>?_⟩;obtain ⟨hs,b,us,e1,e2,e3,e4⟩:=hb;refine ⟨by rw [<- c1,List.length_map,hs],b,us,e1,e2,⟨by rw [<- c1,List.length_map,e3.1],λi v y hv hy=>?_⟩,e4⟩;obtain ⟨d,y1,y2⟩:=c2 i y hy;rw [List.getElem?_map] at y1;cases hx:xs[i]? with
   | none=>rw [hx] at y1;cases y1
   | some x =>
    rw [hx] at y1;have hr:=e3.2 i v x hv hx;have y1:D.imm x=d:=by simpa using y1
    rcases y2 with rfl | ⟨rfl,rfl⟩
    ·rw [<- y1];exact .imm _ _ hr
    ·cases y1;cases hr;exact .own j 0 none 0 hmj
  ·exact ⟨bb,h2,λ_ h=>h⟩)
 exact ⟨I,_,env,_,ids',p1,λt d hd=>(hc.env t d hd).mono (Imm.le_refl I) q1,q3.trans p2,.of_le q1,h⟩
end
end Go.Hk
namespace Go.Hk
section
variable {P:Program} {n:Nat} {F:List Nat} {Q:DQ} {tt:TT} {env env':Env} {st st':St} {ids ids':List Nat} {todo todo':List DI} {I:Imm} {μ:Mu}
theorem aY {I:Imm} {vs:List Value} {xs:List V} (h:RepVL I vs xs):RepVL I vs (Mw xs):=by
 refine ⟨by rw [h.1];simp [GV],λi v x hv hx=>?_⟩;rw [GV,List.getElem?_map] at hx;cases hz:xs[i]? with
 | none=>rw [hz] at hx;cases hx
 | some z=>rw [hz] at hx;cases hx;exact (h.2 i v z hv hz).unn
theorem fE (k:Nat) {t:TypeId} {sz:Nat} {xs:List V} (xs':List V) (hk:lk st k=some (some (.immb t sz xs))) (hcl:Mw xs=xs') (h:DGo P n F Q todo env ((k,some (.immb t sz xs'))::st) ids):DGo P n F Q todo env st ids:=by
 subst hcl;refine Du λI μ a w hc=>?_;obtain ⟨p1,p2⟩:=hc.toStRep.retell (st1:=(k,some (.immb t sz (Mw xs)))::st) (λi bb hlb=>by
  rcases Aw.1 hlb with ⟨rfl,rfl⟩ | ⟨_,h2⟩
  ·refine ⟨_,hk,λgb hb=>?_⟩;obtain ⟨hs,b,us,e1,e2,e3,e4⟩:=hb;exact ⟨by rw [<- hs];simp [GV],b,us,e1,e2,aY e3,e4⟩
  ·exact ⟨bb,h2,λ_ h=>h⟩)
 exact ⟨I,μ,env,_,ids,p1,hc.env,p2,.refl _ _,h⟩
end
end Go.Hk
namespace Go.Hk
open Go.Proofs
def mD:Ty->List V
 | .mk f n x _=>[.int .i64 f,.int .i64 n,.str x,if f=0 then .sl [] else .nilsl]
def Xy (l:List Ty):List (List V):=l.map mD
@[simp] theorem dHds_length (l:List Ty):(Xy l).length=l.length:=by simp [Xy]
@[simp] theorem dHd_length (h:Ty):(mD h).length=4:=by obtain ⟨a,b,c,d⟩:=h;rfl
theorem kQ (a b:List Ty):Xy (a++b)=Xy a++Xy b:=by simp [Xy]
def Kg (c:Cd):Ty:=.mk 4 0 c.name []
mutual
def dMi:Mi->List V
 | .mk ty nt hd ks=>dTyc ty++[.sl (Xy nt)]++mD hd++[.sl (VE ks)]
def VE:List Mi->List (List V)
 | []=>[]
 | k::r=>dMi k::VE r
end
theorem TB:∀l:List Mi,VE l=l.map dMi
 | []=>rfl
 | k::r=>by simp [VE,TB r]
@[simp] theorem dMis_length (l:List Mi):(VE l).length=l.length:=by rw [TB];simp
@[simp] theorem dMi_length (m:Mi):(dMi m).length=10:=by obtain ⟨⟨a,b,c,d⟩,nt,⟨e,f,g,h⟩,ks⟩:=m;rfl
theorem kP (a b:List Mi):VE (a++b)=VE a++VE b:=by simp [TB]
def Py (t:Ty):Bool:=decide (1<=AC t/\AC t<=8)
theorem Px {b:Bool} {t:Ty} (h:BK b t=true) (h9:b=true->AC t≠9):Py t=true:=by
 obtain ⟨s,n,x,ps⟩:=t;simp only [BK,CA,Bool.and_eq_true] at h;have key:=h.2.1;clear h;refine decide_eq_true ?_;simp only [AC] at *;unfold BQ at key
 split at key
 ·omega
 ·split at key
  ·omega
  ·split at key
   ·omega
   ·split at key
    ·omega
    ·split at key
     ·rename_i e;cases b with
      | false=>simp at key
      | true=>exact absurd e (h9 rfl)
     ·cases key
structure OkW (ds:List Dt):Prop where
 okd:OkD ds
 dif:Bi (BW ds)=true
 ndif:Bi (Cy ds)=true
 d4:ds.length<=4
 lim:∀d∈ds,d.cons.length<=5/\∀c∈d.cons,c.args.length<=3
 srt:∀d∈ds,∀c∈d.cons,∀t∈c.args,Py t=true
theorem OkW.of {c:Cse} (h:Bn c=true):OkW c.datas:=by
 simp only [Bn,H6,Bool.and_eq_true] at h;obtain ⟨h1,h2,h3,h4⟩:=Ja h.1.1.1.1;exact ⟨OkD.of2 h.1.1.1.1,h3,h2,(E3 h1).1,(E3 h1).2,λd hd k hk t ht=>by
  simp only [Hf,Bool.and_eq_true,List.all_eq_true] at h1;have hd:=h1.1.2 d hd;simp only [EC,Bool.and_eq_true,List.all_eq_true] at hd;have hk:=hd.2 k hk;simp only [J5,Bool.and_eq_true,List.all_eq_true] at hk;exact Px (hk.2 t ht) (λh=>by cases h)⟩
theorem OkW.typ {c:Cse} (h:Bn c=true):Py c.type=true:=by
 simp only [Bn,H6,Bool.and_eq_true] at h;have h1:=h.1.1.2;have h2:=h.2.1;refine Px h1 λ_ e=>?_;obtain ⟨ds,⟨s,n,x,ps⟩,rows⟩:=c;simp only [AC] at e;subst e;simp [DK,Jr] at h2
theorem QI {ds:List Dt} (ho:OkW ds) (t:Ty) (s:Str):(B8 ds t s).1.args.length<=3:=by
 by_cases h:0<=(B8 ds t s).2
 ·obtain ⟨d,h1,h2⟩:=QH h;exact (ho.lim d h1).2 _ h2
 ·have hz:∀(l:List Cd) (i:Nat),¬0<=(CO s i l).2->(CO s i l).1=jP:=by
   intro l
   induction l with
   | nil=>intro i _;rfl
   | cons c r ih =>
    intro i hh;simp only [CO] at hh ⊢
    split
    ·rename_i e;rw [if_pos e] at hh;exact absurd (by simp) hh
    ·rename_i e;rw [if_neg e] at hh;exact ih _ hh
  obtain ⟨so,n,x,ps⟩:=t;simp only [B8] at h ⊢
  split
  ·rename_i e;rw [if_pos e] at h
   split
   ·rename_i d hd;simp only [hd] at h;rw [hz _ _ h];simp [jP]
   ·simp [jP]
  ·simp [jP]
theorem Ep {ds:List Dt} (ho:OkW ds) (t:Ty) (s:Str):(AK ds t s).1.length<=3:=by
 have:=QI ho t s;unfold AK;cases decide (0<=(B8 ds t s).2)
 ·simp
 ·simpa using this
theorem Qu {ds:List Dt} (ho:OkW ds) (t:Ty):(A0 ds t).length<=5:=by
 obtain ⟨so,n,x,ps⟩:=t;simp only [A0]
 split
 ·simp
 ·split
  ·simp
  ·split
   ·split
    ·rename_i d hd;simpa using (ho.lim d (List.mem_of_getElem? hd)).1
    ·simp
   ·simp
mutual
def GU (ds:List Dt) (N:Nat):Mi->Bool
 | .mk ty nt hd ks=>(AB ds ty&&Py ty)&&decide (ks.length<=3)&&decide (nt.length<=N)&&(Bm hd).isEmpty&&Wm ds N ks
def Wm (ds:List Dt) (N:Nat):List Mi->Bool
 | []=>true
 | k::r=>GU ds N k&&Wm ds N r
end
theorem TZ (ds:List Dt) (N:Nat):∀l:List Mi,Wm ds N l=l.all (GU ds N)
 | []=>rfl
 | k::r=>by simp [Wm,TZ ds N r]
theorem Bf {ds:List Dt} {N:Nat} {m:Mi}:GU ds N m=true↔(AB ds m.ty=true/\m.ks.length<=3/\m.nt.length<=N)/\(Bm m.hd=[]/\Py m.ty=true)/\∀k∈m.ks,GU ds N k=true:=by
 obtain ⟨ty,nt,hd,ks⟩:=m;simp only [GU,Bool.and_eq_true,decide_eq_true_eq,TZ,List.all_eq_true,Mi.ty,Mi.ks,Mi.nt,Mi.hd,List.isEmpty_iff];constructor
 ·rintro ⟨⟨⟨⟨⟨a,s⟩,b⟩,c⟩,e⟩,d⟩;exact ⟨⟨a,b,c⟩,⟨e,s⟩,d⟩
 ·rintro ⟨⟨a,b,c⟩,⟨e,s⟩,d⟩;exact ⟨⟨⟨⟨⟨a,s⟩,b⟩,c⟩,e⟩,d⟩
theorem GO {ds:List Dt} (ho:OkW ds) {t:Ty} {s:Str}:∀a∈(AK ds t s).1,Py a=true:=by
 intro a ha;unfold AK at ha;by_cases h:0<=(B8 ds t s).2
 ·obtain ⟨d,h1,h2⟩:=QH h;simp only [h,decide_true,if_true] at ha;exact ho.srt d h1 _ h2 a (by simpa using ha)
 ·simp [h] at ha
theorem TY {ds:List Dt} {N:Nat} {t:Ty} (h:AB ds t=true) (hs:Py t=true):GU ds N (Aq t)=true:=Bf.2 ⟨⟨h,by simp [Aq,Mi.ks],by simp [Aq,Mi.nt]⟩,⟨rfl,hs⟩,λk hk=>by simp [Aq,Mi.ks] at hk⟩
theorem Le {ds:List Dt} (ho:OkW ds) {N:Nat} {m:Mi} {h:Ty} (hm:AB ds m.ty=true) (hs:Py m.ty=true) (hp:Bm h=[]):GU ds N (AX ds m h)=true:=by
 have ha:=BT ho.okd (t:=m.ty) (s:=C4 h);refine Bf.2 ⟨⟨hm,by simpa [AX,Mi.ks] using Ep ho m.ty (C4 h),by simp [AX,Mi.nt]⟩,⟨hp,hs⟩,λk hk=>?_⟩;simp only [AX,Mi.ks,List.mem_map] at hk;obtain ⟨t,ht,rfl⟩:=hk;rw [C3,List.all_eq_true] at ha;exact TY (ha t ht) (GO ho t ht)
theorem Bs {ds:List Dt} {t h:Ty} (hh:h∈A0 ds t):Bm h=[]/\AC h≠0:=by
 obtain ⟨so,n,x,ps⟩:=t;simp only [A0] at hh
 split at hh
 ·rcases List.mem_cons.1 hh with rfl | hh
  ·exact ⟨rfl,by simp [AC]⟩
  ·rw [List.mem_singleton.1 hh];exact ⟨rfl,by simp [AC]⟩
 ·split at hh
  ·rw [List.mem_singleton.1 hh];exact ⟨rfl,by simp [AC]⟩
  ·split at hh
   ·split at hh
    ·obtain ⟨c,_,rfl⟩:=List.mem_map.1 hh;exact ⟨rfl,by simp [AC]⟩
    ·cases hh
   ·cases hh
theorem D1 {ds:List Dt} {m:Mi} {h:Ty} (hh:Hl ds m=[h]):h∈A0 ds m.ty/\BD m.nt h=false:=by
 have:h∈Hl ds m:=by rw [hh];simp
 simp only [Hl,List.mem_filter] at this;simpa using this
theorem Df {ds:List Dt} (ho:OkW ds) {N:Nat} {m:Mi} (hm:GU ds N m=true):GU ds N (Af ds m)=true:=by
 unfold Af
 split
 ·exact hm
 ·split
  ·rename_i h hh;exact Le ho (Bf.1 hm).1.1 (Bf.1 hm).2.1.2 (Bs (D1 hh).1).1
  ·exact hm
theorem Dy (ds:List Dt) (m:Mi):(Af ds m).ty=m.ty:=by
 unfold Af
 split
 ·rfl
 ·split <;> rfl
theorem kU {ds:List Dt} {N:Nat} {m k:Mi} {i:Nat} (hm:GU ds N m=true) (hk:m.ks[i]?=some k):GU ds N k=true:=(Bf.1 hm).2.2 k (List.mem_of_getElem? hk)
def Jf (ds:List Dt):Mi->List Int->Prop
 | _,[]=>True
 | m,i::p=>0<=i/\∃k,(Af ds m).ks[i.toNat]?=some k/\Jf ds k p
mutual
def iT (ds:List Dt):Ty->Mi->Bool
 | .mk f n x ps,m=>decide (f=1)||decide (f=2)||decide (AC (Af ds m).hd=0) || !A5 (Af ds m).hd (AN (.mk f n x ps))||(decide (ps.length<=(Af ds m).ks.length)&&S8 ds ps (Af ds m).ks)
def S8 (ds:List Dt):List Ty->List Mi->Bool
 | [],_=>true
 | _::_,[]=>true
 | p::r,k::s=>iT ds p k&&S8 ds r s
end
mutual
theorem Qc (ds:List Dt):∀(p:Ty) (m:Mi),(Ax ds p m).2.1.length<=Ai p
 | .mk f n x ps,m=>by
  simp only [Ax,Ai];have:=Sn ds ps (Af ds m).ks 0
  split
  ·simp
  ·split
   ·simp
   ·split
    ·simp
    ·omega
theorem Sn (ds:List Dt):∀(ps:List Ty) (ks:List Mi) (i:Int),(AW ds i ps ks).2.1.length<=1+Ag ps
 | [],_,_=>by simp [AW]
 | _::_,[],_=>by simp [AW]
 | p::r,k::ks,i=>by
  have h1:=Qc ds p k;have h2:=Sn ds r ks (i+1);have h3:1<=Ai p:=by obtain ⟨a,b,c,d⟩:=p;simp only [Ai];omega
  simp only [AW,Ag]
  split
  ·omega
  ·simp only [List.length_cons];omega
end
theorem WI {ds:List Dt} {ps:List Ty} {ks:List Mi} {i:Nat} {p:Ty} {k:Mi} (hp:ps[i]?=some p) (hk:ks[i]?=some k) :
  AW ds i (ps.drop i) (ks.drop i)=if (Ax ds p k).1=1 then AW ds ((i+1:Nat):Int) (ps.drop (i+1)) (ks.drop (i+1)) else ((Ax ds p k).1,(i:Int)::(Ax ds p k).2.1,(Ax ds p k).2.2):=by
 rw [An hp,An hk];rfl
theorem dC:∀(n:Nat) (l:List Int),(∀i:Nat,i<n->(i:Int)∈l)->n<=l.length
 | 0,_,_=>Nat.zero_le _
 | n+1,l,h=>by
  have hm:=h n (by omega);have h1:=dC n (l.erase (n:Int)) λi hi=>(List.mem_erase_of_ne (by omega)).2 (h i (by omega));have h2:=List.length_erase_of_mem hm;have h3:=List.length_pos_of_mem hm;omega
def nT:Ty->Int
 | .mk _ n _ _=>n
theorem iP {nt:List Ty} {i:Int} (h:BD nt (.mk 1 i [] [])=true):i∈nt.map nT:=by
 simp only [BD,List.any_eq_true] at h;obtain ⟨⟨a,b,c,d⟩,h1,h2⟩:=h;simp only [A5,Bool.and_eq_true,beq_iff_eq] at h2;exact List.mem_map.2 ⟨_,h1,by simp only [nT];exact h2.1.2⟩
theorem KF {nt:List Ty} {i:Nat} (h:∀j:Nat,j<i->BD nt (.mk 1 j [] [])=true):i<=nt.length:=by
 have:=dC i (nt.map nT) λj hj=>iP (h j hj);simpa using this
theorem Si {nt:List Ty} {i:Nat} (hi:i<=nt.length) (h:∀j:Nat,j<i->BD nt (.mk 1 j [] [])=true):Jj nt (nt.length-i) i =
  if BD nt (.mk 1 i [] [])=false then .mk 1 i [] [] else if BD nt (.mk 1 (0-i) [] [])=false then .mk 1 (0-i) [] [] else Jj nt (nt.length-(i+1)) ((i+1:Nat):Int):=by
 by_cases hl:i=nt.length
 ·subst hl;have hf:BD nt (.mk 1 nt.length [] [])=false:=by
   cases hb:BD nt (.mk 1 nt.length [] []) with
   | false=>rfl
   | true =>
    have:=KF (nt:=nt) (i:=nt.length+1) λj hj=>by
     by_cases e:j=nt.length
     ·rw [e];exact hb
     ·exact h j (by omega)
    omega
  rw [Nat.sub_self,if_pos hf];rfl
 ·obtain ⟨k,hk⟩:∃k,nt.length-i=k+1:=⟨nt.length-i-1,by omega⟩
  rw [hk,show nt.length-(i+1)=k by omega];rfl
def jS:Option Ty->List V
 | none=>.bool false::dTyc zT
 | some v=>.bool true::dTyc v
@[simp] theorem someR_length (r:Option Ty):(jS r).length=5:=by cases r <;> simp [jS]
theorem Y3 {s:Str}:∀{l:List Cd} {i k:Nat} {c:Cd},l[k]?=some c->c.name=s->(∀j d,j<k->l[j]?=some d->d.name≠s)->CO s i l=(c,((i+k:Nat):Int))
 | [],_,k,c,h,_,_=>by simp at h
 | d::r,i,0,c,h,hs,_=>by
  simp at h;subst h;simp [CO,hs]
 | d::r,i,k+1,c,h,hs,hn=>by
  have:=hn 0 d (by omega) rfl;rw [CO,if_neg this,Y3 (k:=k) (by simpa using h) hs λj d' hj hd=>hn (j+1) d' (by omega) (by simpa using hd)];congr 2;omega
theorem Xz {ds:List Dt} (h:Bi (BW ds)=true) {d:Dt} (hd:d∈ds):(d.cons.map Cd.name).Nodup:=by
 have hn:=Ok.1 h;obtain ⟨a,b,rfl⟩:=List.append_of_mem hd;simp only [BW,List.flatMap_append,List.flatMap_cons] at hn;exact (List.nodup_append.1 (List.nodup_append.1 hn).2.1).1
theorem TF {ds:List Dt} (ho:OkW ds) {n:Int} {x:Str} {ps:List Ty} {d:Dt} (hd:ds[(AQ x 0 ds).toNat]?=some d) {k:Nat} {c:Cd} (hc:d.cons[k]?=some c):B8 ds (.mk 8 n x ps) c.name=(c,(k:Int)):=by
 have hn:=Xz ho.dif (List.mem_of_getElem? hd);simp only [B8,if_true,hd];rw [Y3 hc rfl λj e hj he h=>?_]
 ·simp
 ·have hlt:=(List.getElem?_eq_some_iff.1 hc).1;have h1:(d.cons.map Cd.name)[j]?=some c.name:=by simp [he,h]
  have h2:(d.cons.map Cd.name)[k]?=some c.name:=by simp [hc]
  have:=(List.getElem?_inj (by simpa using by omega) hn).1 (h1.trans h2.symm);omega
theorem VY {ds:List Dt} (ho:OkW ds) {n:Int} {x:Str} {ps:List Ty} {d:Dt} (hd:ds[(AQ x 0 ds).toNat]?=some d) {k:Nat} {c:Cd} (hc:d.cons[k]?=some c):AK ds (.mk 8 n x ps) c.name=(c.args,true):=by
 simp [AK,TF ho hd hc]
theorem Ve {ds:List Dt} (ho:OkW ds):∀(f:Nat) (s:List Int),Ia ds s->Ia ds (LH ds f s)
 | 0,s,h=>h
 | f+1,s,h=>by
  have:=(M0 ho.d4 (l:=ds) (p:=(s,false)) (i:=0) (by simp) (λd hd=>(ho.lim d hd).2) h).1;simp only [LH];cases (CR ds (s,false) 0 ds).2
  ·exact this
  ·exact Ve ho f _ this
theorem Mz {ds:List Dt} (ho:OkW ds):Ia ds (D7 ds):=Ve ho _ _ (My ds)
theorem NV {g:Mi->Option (Option Ty)} {k:Mi} {r:List Mi} {o:Option (List Ty)} (h:Bd g (k::r)=some o):∃v,g k=some v/\(match v with
  | none=>o=none
  | some x=>∃q,Bd g r=some q/\o=q.map (x :: ·)):=by
 simp only [Bd] at h;cases hk:g k with
 | none=>simp [hk] at h
 | some v =>
  cases v with
  | none=>simp only [hk] at h;exact ⟨none,rfl,(Option.some.inj h).symm⟩
  | some x =>
   simp only [hk] at h;cases hr:Bd g r with
   | none=>simp [hr] at h
   | some q =>
    cases q with
    | none=>simp only [hr] at h;exact ⟨some x,rfl,none,rfl,(Option.some.inj h).symm⟩
    | some l=>simp only [hr] at h;exact ⟨some x,rfl,some l,rfl,(Option.some.inj h).symm⟩
theorem T2 {ds:List Dt} {f:Nat} {m:Mi} {r:Option Ty} (h:AD ds (f+1) m=some r) (hf:AC m.hd≠0):∃o,Bd (AD ds f) m.ks=some o/\r=o.map (Cs m.hd):=by
 simp only [AD,if_neg hf] at h;cases hl:Bd (AD ds f) m.ks with
 | none=>simp [hl] at h
 | some o=>simp only [hl,Option.map_some] at h;exact ⟨o,rfl,(Option.some.inj h).symm⟩
theorem Fr {ds:List Dt} {t:Ty} {s:Str} (h:AC t≠8):AK ds t s=([],false):=by
 obtain ⟨so,n,x,ps⟩:=t;simp only [AC] at h;simp [AK,B8,h]
theorem eD {c:Prop} [Decidable c] {α:Type} {a p:α} {b:Option α} (h:(if c then some a else b)=some p):a=p\/b=some p:=by
 by_cases hc:c
 ·rw [if_pos hc] at h;exact .inl (Option.some.inj h)
 ·rw [if_neg hc] at h;exact .inr h
theorem RX {ds:List Dt} {m:Mi}:∀{l:List Ty} {b:Option (Ty×Int)} {p:Ty×Int},Dm ds m b l=some p->p.1∈l\/b=some p
 | [],b,p,h=>.inr h
 | x::r,b,p,h=>by
  simp only [Dm] at h;rcases RX h with h | h
  ·exact .inl (by simp [h])
  ·rcases eD h with h | h
   ·subst h;exact .inl (by simp)
   ·exact .inr h
theorem G4 {ds:List Dt} {m:Mi} {y:Ty} (h:A9 ds m=some y):y∈A0 ds m.ty:=by
 simp only [A9,Option.map_eq_some_iff] at h;obtain ⟨p,hp,rfl⟩:=h;rcases RX hp with h | h
 ·exact h
 ·cases h
theorem F5 {ds:List Dt} (hn:Bi (BW ds)=true) {n:Int} {x s:Str} {ps:List Ty} (hp:0<=AQ x 0 ds) (hc:0<=(B8 ds (.mk 8 n x ps) s).2):(BP ds s).2=(B8 ds (.mk 8 n x ps) s).2:=by
 have hf:=Vv hn (n:=n) (s:=s) (ps:=ps) hp;unfold BP;cases hfs:FC s 0 ds with
 | none=>rw [hfs] at hf;simp only at hf;omega
 | some p =>
  obtain ⟨a,b⟩:=p;rw [hfs] at hf;obtain ⟨hf1,hf2,hf3⟩:=hf;have ha:(a:Int)=AQ x 0 ds:=by simpa [hc] using hf1
  obtain ⟨k,d,e1,e2,e3,e4⟩:=KP hfs;have:a=k:=by omega
  subst this;simp only [B8,if_true];rw [show (AQ x 0 ds).toNat=a by omega,e2];simp only [e3]
mutual
def Do:Ty->Bool
 | .mk _ n _ ps=>decide (-1000000000000<=n/\n<=1000000000000)&&Fj ps
def Fj:List Ty->Bool
 | []=>true
 | p::r=>Do p&&Fj r
end
theorem Qm:∀l:List Ty,Fj l=l.all Do
 | []=>rfl
 | p::r=>by simp [Fj,Qm r]
theorem Jg {ds:List Dt}:∀{l m:List Ty} {i:Nat} {a p:Ty},GQ ds l m=true->l[i]?=some a->m[i]?=some p->II ds a p=true
 | [],_,i,a,p,_,ha,_=>by simp at ha
 | _::_,[],i,a,p,_,_,hp=>by simp at hp
 | x::l,y::m,0,a,p,h,ha,hp=>by simp only [GQ,Bool.and_eq_true] at h;simp at ha hp;subst ha;subst hp;exact h.1
 | x::l,y::m,i+1,a,p,h,ha,hp=>by simp only [GQ,Bool.and_eq_true] at h;exact Jg h.2 (by simpa using ha) (by simpa using hp)
theorem QY:∀v:Ty,Ai v<=1000000000000000->Al Tryz.prog 76 [.agg (dTyc v)] (.int .i64 (Ai v))
 | .mk f n x ps,hN=>by
  refine AF λhv=>?_;simp [Ca,Ee,dTyc,maxLen] at hv;simp only [Ai] at hN;refine Ad Aj Tryz.func76 (by decide +kernel) rfl [1,2,3] rfl rfl ?_;refine mg [] rfl (by simp) ?_;refine Ak (λi:Nat=>[(4,.imm (.int .i64 i)),(3,.imm (.int .i64 ((1+Ag (ps.take i):Nat):Int))),(1,.ref 1 0)]) (λ_=>[(1,some (.immb 35 4 (dTyc (.mk f n x ps))))]) [2,3] (λi=>ps.length-i) (λi=>i<=ps.length) 0 (Nat.zero_le _)
   ⟨rfl,rfl,rfl,trivial⟩ ⟨rfl,trivial⟩ rfl λi hi ih=>?_
  refine md [] rfl (by simp) ?_;refine Aa rfl (λh=>?_) (λh=>?_)
  ·simp at h;obtain ⟨p,hp⟩:=Am h;have hl:=BJ hp;have hs:=QY p (by omega);have hn:Ag (ps.take (i+1))=Ag (ps.take i)+Ai p:=by
    have e:=Bj (ps.take i) [p];rw [Bb hp,e];simp [Ag]
   refine md [] rfl (by simp) ?_;refine mi rfl (c:=dTyc p) (λ_=>⟨by simp,by simpa using At hp,by simp⟩) (by simp) ?_;refine mg [] rfl (by simp) ?_;refine Ac rfl (λ_=>hs) (by simp) ?_;refine mg [] rfl (by simp) ?_;exact Ae (ih (i+1) (by omega) (by omega)) ⟨As (B9 (by omega) (by omega)),As (by rw [B9 (by omega) (by omega)];omega),rfl,trivial⟩ ⟨rfl,trivial⟩ rfl
  ·simp at h;refine Ar rfl ?_;rw [List.take_of_length_le (by omega)];refine md [] rfl (by simp) ?_;simp only [Ai];exact Ab ⟨_,rfl,tV rfl,trivial⟩
termination_by v=>SizeOf.sizeOf v
decreasing_by
 have:=List.sizeOf_lt_of_mem (List.mem_of_getElem? hp);simp_wf;omega
theorem cT (n:Int) (h : -1000000000000<=n/\n<=1000000000000):Al Tryz.prog 129 [.int .i64 n] (.int .i64 (Dl n)):=by
 refine Ad Aj Tryz.func129 (by decide +kernel) rfl [1,2] rfl rfl ?_;refine mg [] rfl (by simp) ?_;by_cases h0:0<n
 ·refine Aa rfl (λh=>?_) (λh=>absurd h0 (by simpa using h));refine md [] rfl (by simp) ?_;refine Ab ⟨_,rfl,tV ?_,trivial⟩;simp only [Dl,if_pos h0];have e1:IntKind.i64.wrap (2*n)=2*n:=B9 (by omega) (by omega);rw [e1,B9 (by omega) (by omega)]
 ·refine Aa rfl (λh=>absurd (by simpa using h) h0) (λh=>?_);refine md [] rfl (by simp) ?_;refine Ab ⟨_,rfl,tV ?_,trivial⟩;simp only [Dl,if_neg h0];rw [B9 (by omega) (by omega)]
theorem OY {s:Str}:∀(l:List Cd) (i:Nat),(CO s i l).2<i+l.length/\(0<=(CO s i l).2->∃k,l[k]?=some (CO s i l).1/\(CO s i l).2=((i+k:Nat):Int))
 | [],i=>by simp [CO];omega
 | c::r,i=>by
  simp only [CO]
  split
  ·exact ⟨by simp only [List.length_cons];omega,λ_=>⟨0,rfl,rfl⟩⟩
  ·obtain ⟨h1,h2⟩:=OY (s:=s) r (i+1);exact ⟨by simp only [List.length_cons];omega,λh=>let ⟨k,h3,h4⟩:=h2 h;⟨k+1,by simpa using h3,by rw [h4];congr 1;omega⟩⟩
theorem OX {ds:List Dt} (ho:OkW ds) (t:Ty) (s:Str):(B8 ds t s).2<=5:=by
 obtain ⟨so,n,x,ps⟩:=t;simp only [B8]
 split
 ·split
  ·rename_i d hd;have:=(OY (s:=s) d.cons 0).1;have:=(ho.lim d (List.mem_of_getElem? hd)).1;omega
  ·simp
 ·simp
theorem Nk {ds:List Dt} {t:Ty} {s s':Str} (h:0<=(B8 ds t s).2) (e:(B8 ds t s).2=(B8 ds t s').2):(B8 ds t s).1=(B8 ds t s').1:=by
 obtain ⟨so,n,x,ps⟩:=t;by_cases h8:so=8
 ·simp only [B8,if_pos h8] at h e ⊢;cases hd:ds[(AQ x 0 ds).toNat]? with
  | none=>simp
  | some d =>
   simp only [hd] at h e ⊢;obtain ⟨k,k1,k2⟩:=(OY (s:=s) d.cons 0).2 h;obtain ⟨j,j1,j2⟩:=(OY (s:=s') d.cons 0).2 (by omega);have:k=j:=by omega
   subst this;rw [k1] at j1;exact Option.some.inj j1
 ·simp only [B8,if_neg h8]
theorem NM {ds:List Dt} {l m:List Ty} {i:Nat} {p q:Ty} (hp:l[i]?=some p) (hq:m[i]?=some q):BH ds (l.drop i) (m.drop i)=if BL ds p q≠0 then BL ds p q else BH ds (l.drop (i+1)) (m.drop (i+1)):=by
 rw [An hp,An hq];rfl
theorem I4 {l:List Ty} {i:Nat} {p:Ty} (h:Fj l=true) (hp:l[i]?=some p):Do p=true:=by
 rw [Qm,List.all_eq_true] at h;exact h p (List.mem_of_getElem? hp)
set_option maxHeartbeats 2000000 in
theorem RZ (c:Cse) (ho:OkW c.datas):∀(a t b:Ty),AB c.datas t=true->II c.datas t a=true->II c.datas t b=true->Do a=true->Do b=true ->
  Al Tryz.prog 77 [.agg (dCse c),.agg (dTyc t),.agg (dTyc a),.agg (dTyc b)] (.int .i64 (BL c.datas a b))
 | .mk f n x ps,.mk so m0 x0 qs0,.mk g n' x' ps',hn,ha,hb,hia,hib=>by
  have hR:=λc'=>cT c';have hC:=λs=>X1 c (.mk so m0 x0 qs0) s (C5 hn) (λd hd=>ho.okd.len d hd);obtain ⟨ds,⟨c1,c2,c3,c4⟩,rows⟩:=c;simp only [Do,Bool.and_eq_true] at hia hib;have hia1:=of_decide_eq_true hia.1;have hib1:=of_decide_eq_true hib.1;simp only at hn ha hb hC ho;simp only [II] at ha hb;refine Ad Aj Tryz.func77 (by decide +kernel) rfl [1,2,3,4,5,6,7] rfl rfl ?_;refine mg [] rfl (by simp) ?_;simp only [BL];by_cases s1:so=1
  ·subst s1;have hf:f=1:=by simpa using ha
   subst hf;refine Aa rfl (λh=>?_) (λh=>by simp at h);refine md [] rfl (by simp) ?_;refine Ac rfl (λ_=>hR n hia1) (by simp) ?_;refine mg [] rfl (by simp) ?_;refine Ac rfl (λ_=>hR n' hib1) (by simp) ?_;refine mg [] rfl (by simp;rfl) ?_;have hr:∀z:Int,-1000000000000<=z/\z<=1000000000000 -> -2000000000000<=Dl z/\Dl z<=2000000000000:=λz hz=>by simp only [Dl];split <;> omega
   have:=hr n hia1;have:=hr n' hib1;refine Ab ⟨_,rfl,tV ?_,trivial⟩;rw [B9 (by omega) (by omega)];rfl
  refine Aa rfl (λh=>absurd (by simpa using h) s1) (λh=>?_);clear h;refine md [] rfl (by simp) ?_;by_cases s2:so=2
  ·subst s2;have hf:f=2:=by simpa using ha
   subst hf;refine Aa rfl (λh=>?_) (λh=>by simp at h);refine md [] rfl (by simp) ?_;refine Ab ⟨_,rfl,tV ?_,trivial⟩;rw [B9 (by omega) (by omega)];rfl
  refine Aa rfl (λh=>absurd (by simpa using h) s2) (λh=>?_);clear h;refine md [] rfl (by simp) ?_;rw [if_neg s1,if_neg s2] at ha hb;by_cases s8:so=8
  case neg =>
   refine Aa rfl (λh=>absurd (by simpa using h) s8) (λh=>?_);clear h;refine md [] rfl (by simp) ?_;have hz:f=3\/f=5:=by
    by_cases s3:so=3
    ·rw [if_pos s3] at ha;left;simpa using ha
    ·rw [if_neg s3,if_neg s8] at ha;right;simpa using ha
   have e:(if f=1 then Dl n-Dl n' else if f=2 then n-n' else if f=4 then (if (BP ds x).2-(BP ds x').2≠0 then (BP ds x).2-(BP ds x').2 else BH ds ps ps') else 0)=0:=by
    rw [if_neg (by omega),if_neg (by omega),if_neg (by omega)]
   rw [e];exact Ab ⟨_,rfl,tV rfl,trivial⟩
  subst s8;rw [if_neg (by decide),if_pos rfl] at ha hb;simp only [Bool.and_eq_true,decide_eq_true_eq] at ha hb;obtain ⟨hf,ha1,ha2,ha3⟩:=ha;obtain ⟨hg,hb1,hb2,hb3⟩:=hb;rw [Hr ds 8 0 m0 x0 x [] qs0] at ha1 ha2 ha3;rw [Hr ds 8 0 m0 x0 x' [] qs0] at hb1 hb2 hb3;subst hf;have hp:=(C5 hn 8 m0 x0 qs0 rfl rfl).1;have sa:=F5 ho.dif (n:=m0) (s:=x) (ps:=qs0) hp ha1;have sb:=F5 ho.dif (n:=m0) (s:=x') (ps:=qs0) hp hb1;have la:=OX ho (.mk 8 m0 x0 qs0) x;have lb:=OX ho (.mk 8 m0 x0 qs0) x';have hsame:=Nk (ds:=ds) (t:=.mk 8 m0 x0 qs0) (s:=x) (s':=x') ha1;have hal:=QI ho (.mk 8 m0 x0 qs0) x;have hnm:=GM ho.okd (t:=.mk 8 m0 x0 qs0) (s:=x) ha1;have hCx:=hC x;have hCx':=hC x'
  rw [show (if (4:Int)=1 then Dl n-Dl n' else if (4:Int)=2 then n-n' else if (4:Int)=4 then (if (BP ds x).2-(BP ds x').2≠0 then (BP ds x).2-(BP ds x').2 else BH ds ps ps') else 0)=(if (BP ds x).2-(BP ds x').2≠0 then (BP ds x).2-(BP ds x').2 else BH ds ps ps') from rfl,sa,sb];clear hC sa sb;generalize B8 ds (.mk 8 m0 x0 qs0) x=e1 at *;generalize B8 ds (.mk 8 m0 x0 qs0) x'=e2 at *;obtain ⟨⟨n1,A1⟩,k1⟩:=e1;obtain ⟨⟨n2,A2⟩,k2⟩:=e2;simp only at ha1 ha2 ha3 hb1 hb2 hb3 la lb hsame hal hnm hCx hCx' ⊢;refine Aa rfl (λh=>?_) (λh=>by simp at h);refine md [] rfl (by simp) ?_;refine Ac rfl (λ_=>hCx) (by simp) ?_;refine mg [] rfl (by simp) ?_;refine Ac rfl (λ_=>hCx') (by simp) ?_
  refine mg [] rfl (by simp) ?_;by_cases hk:k1=k2
  case neg =>
   refine Aa rfl (λh=>?_) (λh=>by simp at h;exact absurd h hk);refine md [] rfl (by simp) ?_;rw [if_pos (by omega)];refine Ab ⟨_,rfl,tV ?_,trivial⟩;rw [B9 (by omega) (by omega)]
  refine Aa rfl (λh=>by simp at h;exact absurd hk h) (λh=>?_);clear h;subst hk;have hsame:=hsame rfl;cases hsame;rw [if_neg (by omega)];refine md [] rfl (by simp) ?_;refine Ak (λi:Nat=>[(13,.imm (.int .i64 i)),(9,.ref 5 0),(7,.ref 4 0),(6,.ref 3 0),(4,.ref 1 0)])
   (λ_=>[(1,some (.immb 29 6 (dCse ⟨ds,.mk c1 c2 c3 c4,rows⟩))),(3,some (.immb 35 4 (dTyc (.mk 4 n x ps)))),(4,some (.immb 35 4 (dTyc (.mk g n' x' ps')))),(5,some (.immb 90 2 (Ds ⟨n1,A1⟩)))]) [7] (λi=>A1.length-i)
   (λi=>i<=A1.length/\BH ds ps ps'=BH ds (ps.drop i) (ps'.drop i)) 0 ⟨Nat.zero_le _,rfl⟩ ⟨rfl,rfl,rfl,rfl,rfl,trivial⟩ ⟨rfl,rfl,rfl,rfl,trivial⟩ rfl λi hi ih=>?_
  obtain ⟨hi1,hi2⟩:=hi;refine md [] rfl (by simp) ?_;refine Aa rfl (λh=>?_) (λh=>?_)
  ·simp at h;obtain ⟨t,ht⟩:=Am h;obtain ⟨p,hp⟩:=Am (l:=ps) (i:=i) (by omega);obtain ⟨q,hq⟩:=Am (l:=ps') (i:=i) (by omega);have hO:=RZ ⟨ds,.mk c1 c2 c3 c4,rows⟩ ho p t q (Dc hnm ht) (Jg ha3 ht hp) (Jg hb3 ht hq) (I4 hia.2 hp) (I4 hib.2 hq);simp only at hO;rw [NM hp hq] at hi2;generalize BL ds p q=z at *;refine md [] rfl (by simp) ?_;refine mi rfl (c:=dTyc t) (λ_=>⟨by simp,by simpa using At ht,by simp⟩) (by simp) ?_;refine mg [] rfl (by simp) ?_;refine mi rfl (c:=dTyc p) (λ_=>⟨by simp,by simpa using At hp,by simp⟩) (by simp) ?_;refine mg [] rfl (by simp) ?_;refine mi rfl (c:=dTyc q) (λ_=>⟨by simp,by simpa using At hq,by simp⟩) (by simp) ?_;refine mg [] rfl (by simp) ?_
   refine Ac rfl (λ_=>hO) (by simp) ?_;refine mg [] rfl (by simp;rfl) ?_;by_cases hz:z=0
   ·rw [if_neg (by simpa using hz)] at hi2;refine Aa rfl (λh=>by simp at h;exact absurd hz h) (λh=>?_);refine md [] rfl (by simp) ?_;exact Ae (ih (i+1) (by omega) ⟨by omega,hi2⟩) ⟨As (B9 (by omega) (by omega)),rfl,rfl,rfl,rfl,trivial⟩ ⟨rfl,rfl,rfl,rfl,trivial⟩ rfl
   ·rw [if_pos hz] at hi2;refine Aa rfl (λh=>?_) (λh=>by simp at h;exact absurd h hz);refine md [] rfl (by simp) ?_;rw [hi2];exact Ab ⟨_,rfl,tV rfl,trivial⟩
  ·simp at h;refine Ar rfl ?_;refine md [] rfl (by simp) ?_;rw [hi2,List.drop_eq_nil_of_le (by omega)];simp only [BH];exact Ab ⟨_,rfl,tV rfl,trivial⟩
termination_by a=>SizeOf.sizeOf a
decreasing_by
 have:=List.sizeOf_lt_of_mem (List.mem_of_getElem? hp);simp_wf;omega
theorem XE (c:Cse) (ho:OkW c.datas) (a b:Ty) (hn:AB c.datas c.type=true) (ha:II c.datas c.type a=true) (hb:II c.datas c.type b=true) (hia:Do a=true) (hib:Do b=true)
  (hna:Ai a<=1000000000000000) (hnb:Ai b<=1000000000000000):Al Tryz.prog 26 [.agg (dCse c),.agg (dTyc a),.agg (dTyc b)] (.bool (BY c.datas a b)):=by
 have hO:=RZ c ho a c.type b hn ha hb hia hib;have hA:=QY a hna;have hB:=QY b hnb;simp only [BY];obtain ⟨ds,⟨c1,c2,c3,c4⟩,rows⟩:=c;simp only at hO;generalize BL ds a b=z at *;generalize Ai a=n at *;generalize Ai b=m at *;obtain ⟨a1,a2,a3,a4⟩:=a;obtain ⟨b1,b2,b3,b4⟩:=b;refine Ad Aj Tryz.func26 (by decide +kernel) rfl [1,2,3,4] rfl rfl ?_;refine mg [] rfl (by simp) ?_;refine Ac rfl (λ_=>hA) (by simp) ?_;refine mg [] rfl (by simp) ?_;refine Ac rfl (λ_=>hB) (by simp) ?_;refine mg [] rfl (by simp;rfl) ?_;by_cases e:n=m
 ·subst e;refine Aa rfl (λh=>by simp at h) (λh=>?_);refine md [] rfl (by simp) ?_;refine Ac rfl (λ_=>hO) (by simp) ?_;refine mg [] rfl (by simp) ?_;exact Ab ⟨_,rfl,tV (by simp),trivial⟩
 ·refine Aa rfl (λh=>?_) (λh=>by simp at h;omega);refine md [] rfl (by simp) ?_;exact Ab ⟨_,rfl,tV (by simp [e]),trivial⟩
def Yd (c:Cse) (v:Ty):Prop:=II c.datas c.type v=true/\Do v=true/\Ai v<=1000000000000000
def loS (ds:List Dt) (s s':List Int):Prop:=∀t,EI ds s t≠0->0<EI ds s' t/\EI ds s' t<=EI ds s t
theorem JE {ds:List Dt} {s s':List Int} (h:loS ds s s') (hz:∀t,0<=EI ds s t):∀(l:List Ty) (n n':Int),0<n'->n'<=n->0<AM ds s n l->0<AM ds s' n' l/\AM ds s' n' l<=AM ds s n l
 | [],n,n',h1,h2,_=>by simp only [AM];omega
 | t::r,n,n',h1,h2,h3=>by
  simp only [AM] at h3 ⊢;by_cases e:EI ds s t=0
  ·rw [if_pos e] at h3;omega
  ·rw [if_neg e] at h3 ⊢;obtain ⟨a1,a2⟩:=h t e;rw [if_neg (by omega)];have:=hz t;exact JE h hz r _ _ (by omega) (by omega) h3
theorem NF {ds:List Dt} {s:List Int}:∀{l:List Ty} {n:Int} {t:Ty},t∈l->EI ds s t=0->AM ds s n l=0
 | x::r,n,t,ht,h=>by
  simp only [AM];rcases List.mem_cons.1 ht with rfl | ht
  ·rw [if_pos h]
  ·by_cases e:EI ds s x=0
   ·rw [if_pos e]
   ·rw [if_neg e];exact NF ht h
def R1 (ds:List Dt) (s:List Int):Prop:=∀i d,ds[i]?=some d->0<s.getD i 0->∃c∈d.cons,0<AM ds s 1 c.args/\AM ds s 1 c.args<=s.getD i 0
theorem Od {s:List Int} {i:Nat} {n:Int} (h:i<s.length):(s.set i n).getD i 0=n:=by simp [List.getD,h]
theorem Oc {s:List Int} {i j:Nat} {n:Int} (h:i≠j):(s.set i n).getD j 0=s.getD j 0:=by simp [List.getD,List.getElem?_set_ne h]
theorem bN {ds:List Dt} {i:Nat} {d:Dt} {c:Cd} (hd:ds[i]?=some d) (hc:c∈d.cons) {p:List Int×Bool} (hs:Ia ds p.1) (ha:R1 ds p.1):R1 ds (HG ds i p c.args).1:=by
 simp only [HG]
 split
 ·rename_i h;obtain ⟨h1,h2⟩:=h;have hl:i<p.1.length:=by rw [hs.len];exact (List.getElem?_eq_some_iff.1 hd).1
  generalize hn:AM ds p.1 1 c.args=n at *;have hz:∀t,0<=EI ds p.1 t:=λt=>(Im hs t).1;have hlo:loS ds p.1 (p.1.set i n):=by
   intro t ht;obtain ⟨so,m,x,ps⟩:=t;have h0:=hz (.mk so m x ps);simp only [EI] at ht h0 ⊢;by_cases h8:so=8
   ·simp only [if_pos h8] at ht h0 ⊢;by_cases e:i=(Kh ds x).toNat
    ·rw [<- e] at ht h0 ⊢;rw [Od hl];omega
    ·rw [Oc e];omega
   ·simp only [if_neg h8] at ht h0 ⊢;omega
  show R1 ds (p.1.set i n);intro j e hj hpos;by_cases hij:i=j
  ·subst hij;rw [Od hl] at hpos ⊢;rw [hd] at hj;cases hj;exact ⟨c,hc,(JE hlo hz c.args 1 1 (by omega) (by omega) (by omega)).1,by have:=(JE hlo hz c.args 1 1 (by omega) (by omega) (by omega)).2;omega⟩
  ·rw [Oc hij] at hpos ⊢;obtain ⟨c',k1,k2,k3⟩:=ha j e hj hpos;obtain ⟨q1,q2⟩:=JE hlo hz c'.args 1 1 (by omega) (by omega) k2;exact ⟨c',k1,q1,by omega⟩
 ·exact ha
theorem Y2 {ds:List Dt} (h4:ds.length<=4) {i:Nat} {d:Dt} (hd:ds[i]?=some d):∀{l:List Cd} {p:List Int×Bool},(∀c∈l,c∈d.cons/\c.args.length<=3)->Ia ds p.1->R1 ds p.1->R1 ds (J4 ds i p l).1
 | [],p,_,_,ha=>ha
 | c::r,p,hl,hs,ha=>by
  have hi:=(List.getElem?_eq_some_iff.1 hd).1;simp only [J4];exact Y2 h4 hd (λx hx=>hl x (by simp [hx])) (Pw h4 hi (hl c (by simp)).2 hs).1 (bN hd (hl c (by simp)).1 hs ha)
theorem RG {ds:List Dt} (h4:ds.length<=4) (h3:∀d∈ds,∀c∈d.cons,c.args.length<=3):∀{l:List Dt} {p:List Int×Bool} {i:Nat},l=ds.drop i->Ia ds p.1->R1 ds p.1->R1 ds (CR ds p i l).1
 | [],p,i,_,_,ha=>ha
 | d::r,p,i,hl,hs,ha=>by
  have hd:ds[i]?=some d:=by
   have:=congrArg (·[0]?) hl;simpa using this.symm
  have hr:r=ds.drop (i+1):=by
   have:=congrArg List.tail hl;simpa using this
  have hi:=(List.getElem?_eq_some_iff.1 hd).1;have hdm:=List.mem_of_getElem? hd;simp only [CR];exact RG h4 h3 hr (TE h4 hi (h3 d hdm) hs).1 (Y2 h4 hd (λc hc=>⟨hc,h3 d hdm c hc⟩) hs ha)
def nP (ds:List Dt) (s:List Int):Prop:=∀i d,ds[i]?=some d->∀c∈d.cons,0<AM ds s 1 c.args->s.getD i 0≠0/\s.getD i 0<=AM ds s 1 c.args
theorem VJ {ds:List Dt} {i:Nat}:∀{l:List Cd} {p:List Int×Bool},(J4 ds i p l).2=false->p.2=false/\(J4 ds i p l)=p/\∀c∈l,¬(0<AM ds p.1 1 c.args/\(p.1.getD i 0=0\/AM ds p.1 1 c.args<p.1.getD i 0))
 | [],p,h=>⟨h,rfl,λc hc=>by cases hc⟩
 | c::r,p,h=>by
  simp only [J4] at h ⊢;obtain ⟨h1,h2,h3⟩:=VJ h;by_cases hc:0<AM ds p.1 1 c.args/\(p.1.getD i 0=0\/AM ds p.1 1 c.args<p.1.getD i 0)
  ·simp only [HG,if_pos hc] at h1;cases h1
  ·have e:HG ds i p c.args=p:=by simp only [HG,if_neg hc]
   rw [e] at h1 h2 h3 ⊢;exact ⟨h1,h2,λx hx=>by rcases List.mem_cons.1 hx with rfl | hx;exact hc;exact h3 x hx⟩
theorem Ps {ds:List Dt}:∀{l:List Dt} {p:List Int×Bool} {i:Nat},(CR ds p i l).2=false->p.2=false/\CR ds p i l=p/\∀k d,l[k]?=some d->∀c∈d.cons,¬(0<AM ds p.1 1 c.args/\(p.1.getD (i+k) 0=0\/AM ds p.1 1 c.args<p.1.getD (i+k) 0))
 | [],p,i,h=>⟨h,rfl,λk d hd=>by simp at hd⟩
 | d::r,p,i,h=>by
  simp only [CR] at h ⊢;obtain ⟨h1,h2,h3⟩:=Ps h;obtain ⟨k1,k2,k3⟩:=VJ h1;rw [k2] at h1 h2 h3 ⊢;refine ⟨k1,h2,λk e he=>?_⟩;cases k with
  | zero=>simp at he;subst he;simpa using k3
  | succ k=>have:=h3 k e (by simpa using he);rw [show i+(k+1)=i+1+k by omega];exact this
theorem Vd {ds:List Dt} (ho:OkW ds):∀(f:Nat) (s:List Int),Ia ds s->R1 ds s->L6 s<f->R1 ds (LH ds f s)/\nP ds (LH ds f s)
 | 0,s,_,_,h=>by omega
 | f+1,s,hs,ha,h=>by
  have h3:∀d∈ds,∀c∈d.cons,c.args.length<=3:=λd hd=>(ho.lim d hd).2;obtain ⟨b1,b2,b3⟩:=M0 ho.d4 (l:=ds) (p:=(s,false)) (i:=0) (by simp) h3 hs;have b4:=RG ho.d4 h3 (l:=ds) (p:=(s,false)) (i:=0) rfl hs ha;simp only [LH];cases hb:(CR ds (s,false) 0 ds).2 with
  | true =>
   rcases b3 hb with h' | h'
   ·cases h'
   ·simp only [cond_true];exact Vd ho f _ b1 b4 (by simp only at h';omega)
  | false =>
   simp only [cond_false];refine ⟨b4,?_⟩;obtain ⟨_,e,h5⟩:=Ps hb;rw [e];intro i d hd c hc hp;have:=h5 i d hd c hc;simp only [Nat.zero_add] at this;have hz:0<=s.getD i 0:=by
    rcases LN (s:=s) (i:=i) with hm | hm
    ·exact (hs.le _ hm).1
    ·omega
   constructor
   ·intro e;exact this ⟨hp,.inl e⟩
   ·apply Int.not_lt.1;intro e;exact this ⟨hp,.inr e⟩
theorem gT {ds:List Dt} (ho:OkW ds):R1 ds (D7 ds)/\nP ds (D7 ds):=by
 refine Vd ho _ _ (My ds) (λi d hd h=>?_) ?_
 ·have:(List.replicate ds.length (0:Int)).getD i 0=0:=by
   rcases LN (s:=List.replicate ds.length (0:Int)) (i:=i) with hm | hm
   ·exact List.eq_of_mem_replicate hm
   ·exact hm
  omega
 ·have:=WF (List.replicate ds.length 0) (λx hx=>by rw [List.eq_of_mem_replicate hx];omega);have:=ho.d4;simp at *;omega
def MJ (ds:List Dt) (t h:Ty):Prop:=h∈A0 ds t\/(AC t=1/\∃n,h = .mk 1 n [] [] /\ -1000000000<=n/\n<=1000000000)
mutual
def DF (ds:List Dt):Mi->Prop
 | .mk ty _ hd ks=>(AC hd=0->ks=[])/\(AC hd≠0->MJ ds ty hd/\ks.map Mi.ty=(AK ds ty (C4 hd)).1)/\VL ds ks
def VL (ds:List Dt):List Mi->Prop
 | []=>True
 | k::r=>DF ds k/\VL ds r
end
theorem SN (ds:List Dt):∀l:List Mi,VL ds l↔∀k∈l,DF ds k
 | []=>by simp [VL]
 | k::r=>by simp [VL,SN ds r]
theorem B4 {ds:List Dt} {m:Mi}:DF ds m↔(AC m.hd=0->m.ks=[])/\(AC m.hd≠0->MJ ds m.ty m.hd/\m.ks.map Mi.ty=(AK ds m.ty (C4 m.hd)).1)/\∀k∈m.ks,DF ds k:=by
 obtain ⟨ty,nt,hd,ks⟩:=m;simp only [DF,SN,Mi.ty,Mi.hd,Mi.ks]
mutual
def GS:Mi->Nat
 | .mk _ _ _ ks=>FO ks+1
def FO:List Mi->Nat
 | []=>0
 | k::r=>max (GS k) (FO r)
end
theorem Qs {l:List Mi} {n:Nat}:FO l<=n↔∀k∈l,GS k<=n:=by
 induction l with
 | nil=>simp [FO]
 | cons k r ih=>simp only [FO,List.mem_cons,forall_eq_or_imp,<- ih];omega
theorem FW (m:Mi):GS m=FO m.ks+1:=by obtain ⟨a,b,c,d⟩:=m;rfl
theorem LK {m k:Mi} (h:k∈m.ks):GS k+1<=GS m:=by
 rw [FW m];have:=(Qs (l:=m.ks) (n:=FO m.ks)).1 (Nat.le_refl _) k h;omega
theorem SM (ds:List Dt) (t:Ty):DF ds (Aq t):=B4.2 ⟨λ_=>rfl,λh=>absurd rfl h,λk hk=>by simp [Aq,Mi.ks] at hk⟩
theorem eT (l:List Ty):(l.map Aq).map Mi.ty=l:=by
 rw [List.map_map]
 conv=>rhs;rw [<- List.map_id l]
 exact List.map_congr_left λt _=>rfl
theorem OM {ds:List Dt} {t h:Ty} (hh:MJ ds t h):AC h≠0/\Bm h=[]:=by
 rcases hh with hh | ⟨_,n,rfl,_⟩
 ·exact ⟨(Bs hh).2,(Bs hh).1⟩
 ·exact ⟨by simp [AC],rfl⟩
theorem Nm {ds:List Dt} {m:Mi} {h:Ty} (hh:MJ ds m.ty h):DF ds (AX ds m h):=by
 refine B4.2 ⟨λe=>absurd e (OM hh).1,λ_=>⟨hh,eT _⟩,λk hk=>?_⟩;simp only [AX,Mi.ks,List.mem_map] at hk;obtain ⟨t,_,rfl⟩:=hk;exact SM ds t
theorem Dd {ds:List Dt} {m:Mi} (h:DF ds m):DF ds (Af ds m):=by
 unfold Af
 split
 ·exact h
 ·split
  ·rename_i x hx;exact Nm (.inl (D1 hx).1)
  ·exact h
theorem Sz (ds:List Dt) (m:Mi) (h:Ty):GS (AX ds m h)<=2:=by
 rw [FW];have:FO (AX ds m h).ks<=1:=Qs.2 λk hk=>by
  simp only [AX,Mi.ks,List.mem_map] at hk;obtain ⟨t,_,rfl⟩:=hk;simp [Aq,GS,FO]
 omega
theorem Oa (ds:List Dt) (m:Mi):GS (Af ds m)<=max (GS m) 2:=by
 unfold Af
 split
 ·omega
 ·split
  ·rename_i x hx;have:=Sz ds m x;omega
  ·omega
theorem JG {ds:List Dt} {m:Mi}:∀{l:List Ty} {b:Option (Ty×Int)},Dm ds m b l=none->b=none/\∀h∈l,¬(0<AP ds m h/\BD m.nt h=false)
 | [],b,h=>⟨h,λx hx=>by cases hx⟩
 | x::r,b,h=>by
  simp only [Dm] at h;obtain ⟨h1,h2⟩:=JG h;by_cases hc:0<AP ds m x/\BD m.nt x=false/\F3 b (AP ds m x)=true
  ·rw [if_pos hc] at h1;cases h1
  ·rw [if_neg hc] at h1;subst h1;refine ⟨rfl,λy hy=>?_⟩;rcases List.mem_cons.1 hy with rfl | hy
   ·intro h';exact hc ⟨h'.1,h'.2,rfl⟩
   ·exact h2 y hy
theorem Eg {ds:List Dt} {m:Mi}:∀{l:List Ty} {b:Option (Ty×Int)} {p:Ty×Int},Dm ds m b l=some p ->
  (b=some p\/(p.1∈l/\p.2=AP ds m p.1/\0<p.2/\BD m.nt p.1=false))/\(∀b',b=some b'->p.2<=b'.2)/\(∀h∈l,0<AP ds m h->BD m.nt h=false->p.2<=AP ds m h)
 | [],b,p,h=>by
  simp only [Dm] at h;subst h;exact ⟨.inl rfl,λb' hb=>by cases hb;exact Int.le_refl _,λx hx=>by cases hx⟩
 | x::r,b,p,h=>by
  simp only [Dm] at h;obtain ⟨h1,h2,h3⟩:=Eg h;by_cases hc:0<AP ds m x/\BD m.nt x=false/\F3 b (AP ds m x)=true
  ·rw [if_pos hc] at h1 h2;have h2x:p.2<=AP ds m x:=h2 _ rfl;refine ⟨?_,λb' hb=>?_,λy hy h0 hn=>?_⟩
   ·rcases h1 with h1 | h1
    ·cases h1;exact .inr ⟨by simp,rfl,hc.1,hc.2.1⟩
    ·exact .inr ⟨by simp [h1.1],h1.2⟩
   ·subst hb;have:=of_decide_eq_true hc.2.2;omega
   ·rcases List.mem_cons.1 hy with rfl | hy
    ·exact h2x
    ·exact h3 y hy h0 hn
  ·rw [if_neg hc] at h1 h2;refine ⟨?_,h2,λy hy h0 hn=>?_⟩
   ·rcases h1 with h1 | h1
    ·exact .inl h1
    ·exact .inr ⟨by simp [h1.1],h1.2⟩
   ·rcases List.mem_cons.1 hy with rfl | hy
    ·cases b with
     | none=>exact absurd ⟨h0,hn,rfl⟩ hc
     | some b' =>
      have:=h2 b' rfl;have hd:¬(AP ds m y<b'.2):=λhl=>hc ⟨h0,hn,decide_eq_true hl⟩;omega
    ·exact h3 y hy h0 hn
theorem Fl {ds:List Dt} (ho:OkW ds) {t h:Ty} (hn:AB ds t=true) (hh:h∈A0 ds t) :
  (AC t=8/\AC h=4/\(AK ds t (C4 h)).2=true)\/(AC t=2/\∃n,h = .mk 2 n [] []/\(n=0\/n=1))\/(AC t=3/\h = .mk 3 0 [] []):=by
 obtain ⟨so,n,x,ps⟩:=t;simp only [A0] at hh
 split at hh
 ·rename_i e;subst e;rcases List.mem_cons.1 hh with rfl | hh
  ·exact .inr (.inl ⟨rfl,0,rfl,.inl rfl⟩)
  ·rw [List.mem_singleton.1 hh];exact .inr (.inl ⟨rfl,1,rfl,.inr rfl⟩)
 ·split at hh
  ·rename_i e;subst e;rw [List.mem_singleton.1 hh];exact .inr (.inr ⟨rfl,rfl⟩)
  ·split at hh
   ·rename_i e;subst e
    split at hh
    ·rename_i d hd;obtain ⟨c,hc,rfl⟩:=List.mem_map.1 hh;obtain ⟨k,hk,e⟩:=List.getElem_of_mem hc;have:=VY ho (n:=n) (ps:=ps) hd (k:=k) (c:=c) (by rw [List.getElem?_eq_getElem hk,e]);exact .inl ⟨rfl,rfl,by rw [show C4 (.mk 4 0 c.name [])=c.name from rfl,this]⟩
    ·cases hh
   ·cases hh
theorem PP {ds:List Dt} (ho:OkW ds) {t h:Ty} {vs:List Ty} (hn:AB ds t=true) (hh:MJ ds t h) (hl:(AK ds t (C4 h)).1.length=vs.length) (hv:GQ ds (AK ds t (C4 h)).1 vs=true):II ds t (Cs h vs)=true:=by
 rw [Io];rcases hh with hh | ⟨h1,n,rfl,_⟩
 ·rcases Fl ho hn hh with ⟨h1,h2,h3⟩ | ⟨h1,n,rfl,_⟩ | ⟨h1,rfl⟩
  ·obtain ⟨so,m,x,ps⟩:=t;obtain ⟨f,k,y,qs⟩:=h;simp only [AC,C4] at *;subst h1;subst h2;simp [KB,Cs,hl,h3,hv]
  ·obtain ⟨so,m,x,ps⟩:=t;simp only [AC] at h1;subst h1;simp [KB,Cs]
  ·obtain ⟨so,m,x,ps⟩:=t;simp only [AC] at h1;subst h1;simp [KB,Cs]
 ·obtain ⟨so,m,x,ps⟩:=t;simp only [AC] at h1;subst h1;simp [KB,Cs]
theorem UF {ds:List Dt} (ho:OkW ds) {t h:Ty} (hn:AB ds t=true) (hh:MJ ds t h) {vs:List Ty} (hv:Fj vs=true):Do (Cs h vs)=true/\Ai (Cs h vs)=1+Ag vs:=by
 obtain ⟨f,k,y,qs⟩:=h;refine ⟨?_,by simp [Cs,Ai]⟩;simp only [Cs,Do,hv,Bool.and_true];refine decide_eq_true ?_;rcases hh with hh | ⟨_,n,e,hb⟩
 ·have hk:∀x∈A0 ds t,∀a b c d,x = .mk a b c d->0<=b/\b<=1:=by
   intro x hx a b c d e;rcases Fl ho hn hx with ⟨h1,h2,h3⟩ | ⟨h1,n,h2,h3⟩ | ⟨h1,h2⟩
   ·subst e;obtain ⟨so,m,z,ps⟩:=t;simp only [AC] at h1;subst h1;simp only [A0] at hx;rw [if_neg (by decide),if_neg (by decide),if_pos trivial] at hx
    split at hx
    ·obtain ⟨q,_,e⟩:=List.mem_map.1 hx;cases e;omega
    ·cases hx
   ·rw [e] at h2;cases h2;omega
   ·rw [e] at h2;cases h2;omega
  have:=hk _ hh _ _ _ _ rfl;omega
 ·cases e;omega
theorem En {ds:List Dt} {f:Nat} {m:Mi} (h:AC m.hd≠0):AD ds (f+1) m=(Bd (AD ds f) m.ks).map (·.map (Cs m.hd)):=by
 show (if AC m.hd=0 then _ else _)=_;rw [if_neg h]
theorem E7 {ds:List Dt} {f:Nat} {m:Mi} (h:AC m.hd=0) (h1:AC m.ty=1):AD ds (f+1) m=some (some (CW m.nt)):=by
 show (if AC m.hd=0 then _ else _)=_;rw [if_pos h,if_pos h1]
theorem E6 {ds:List Dt} {f:Nat} {m:Mi} (h:AC m.hd=0) (h1:AC m.ty=4\/AC m.ty=5\/AC m.ty=6\/AC m.ty=7):AD ds (f+1) m=some (some (.mk 5 0 [] [])):=by
 show (if AC m.hd=0 then _ else _)=_;rw [if_pos h,if_neg (by omega),if_pos h1]
theorem CX {ds:List Dt} {f:Nat} {m:Mi} (h:AC m.hd=0) (h1:¬AC m.ty=1) (h4:¬(AC m.ty=4\/AC m.ty=5\/AC m.ty=6\/AC m.ty=7)):AD ds (f+1) m=match A9 ds m with
  | none=>some none
  | some h=>AD ds (f+1) (AX ds m h):=by
 have e:AD ds (f+1) m=match A9 ds m with
  | none=>some none
  | some h=>(Bd (AD ds f) (AX ds m h).ks).map (·.map (Cs h)):=by
  show (if AC m.hd=0 then _ else _)=_;rw [if_pos h,if_neg h1,if_neg h4];try rfl
 rw [e];cases hq:A9 ds m with
 | none=>rfl
 | some x=>exact (En (m:=AX ds m x) (Bs (G4 hq)).2).symm
abbrev Cq (ds:List Dt) (t:Ty):Int:=EI ds (D7 ds) t
theorem Cp {ds:List Dt} (ho:OkW ds) (t:Ty):0<=Cq ds t/\Cq ds t<=256:=by
 have h:=Im (Mz ho) t;have h4:=gZ (n:=PQ (D7 ds)) (by have:=MK (D7 ds);rw [(Mz ho).len] at this;have:=ho.d4;omega);simp only [Cq];omega
theorem M7 {ds:List Dt} (ho:OkW ds) {l:List Ty} (h:l.length<=3):0<=AM ds (D7 ds) 1 l/\AM ds (D7 ds) 1 l<=769:=by
 have hb:=FS (Mz ho) l 1 (by omega);have h4:=gZ (n:=PQ (D7 ds)) (by have:=MK (D7 ds);rw [(Mz ho).len] at this;have:=ho.d4;omega);generalize 4 ^ PQ (D7 ds)=M at *;have:(l.length:Int)*(M:Int)<=3*256:=Int.mul_le_mul (by omega) (by omega) (by omega) (by omega);omega
theorem LF {ds:List Dt} {g:Mi->Option (Option Ty)}:∀{L:List Ty},(∀t∈L,∃v,g (Aq t)=some (some v)/\(Ai v:Int)=Cq ds t/\II ds t v=true/\Do v=true)->(∀t∈L,Cq ds t≠0) ->
  ∃vs,Bd g (L.map Aq)=some (some vs)/\L.length=vs.length/\GQ ds L vs=true/\Fj vs=true/\∀n,AM ds (D7 ds) n L=n+Ag vs
 | [],_,_=>⟨[],rfl,rfl,rfl,rfl,λn=>by simp [AM,Ag]⟩
 | t::r,h,hz=>by
  obtain ⟨v,v1,v2,v3,v4⟩:=h t (by simp);obtain ⟨vs,w1,w2,w3,w4,w5⟩:=LF (L:=r) (λx hx=>h x (by simp [hx])) (λx hx=>hz x (by simp [hx]));refine ⟨v::vs,?_,by simp [w2],by simp [GQ,v3,w3],by simp [Fj,v4,w4],λn=>?_⟩
  ·simp only [List.map_cons,Bd,v1,w1]
  ·have:=hz t (by simp);simp only [AM,Ag];rw [if_neg this,w5];simp only [Cq] at v2;omega
theorem Sq {ds:List Dt} {g:Mi->Option (Option Ty)}:∀{L:List Ty},(∀t∈L,∃r,g (Aq t)=some r/\(Cq ds t=0->r=none))->(∃t∈L,Cq ds t=0)->Bd g (L.map Aq)=some none
 | [],_,⟨t,ht,_⟩=>by cases ht
 | x::r,h,⟨t,ht,h0⟩=>by
  obtain ⟨q,q1,q2⟩:=h x (by simp);simp only [List.map_cons,Bd,q1];cases q with
  | none=>rfl
  | some v =>
   simp only;rcases List.mem_cons.1 ht with rfl | ht
   ·cases q2 h0
   ·rw [Sq (L:=r) (λy hy=>h y (by simp [hy])) ⟨t,ht,h0⟩]
theorem HM (nt:List Ty):∀(f:Nat) (i:Int),0<=i->∃n,Jj nt f i = .mk 1 n [] [] /\ -(i+f)<=n/\n<=i+f
 | 0,i,hi=>⟨i,rfl,by omega,by omega⟩
 | f+1,i,hi=>by
  simp only [Jj]
  split
  ·exact ⟨i,rfl,by omega,by omega⟩
  ·split
   ·exact ⟨0-i,rfl,by omega,by omega⟩
   ·obtain ⟨n,h1,h2,h3⟩:=HM nt f (i+1) (by omega);exact ⟨n,h1,by omega,by omega⟩
theorem OV {ds:List Dt} (ho:OkW ds) {m:Mi} (hn:AB ds m.ty=true) (h8:AC m.ty=8) :
  (Cq ds m.ty=0->∀h∈A0 ds m.ty,¬0<AP ds m h)/\(Cq ds m.ty≠0->(∃h∈A0 ds m.ty,0<AP ds m h/\AP ds m h<=Cq ds m.ty)/\∀h∈A0 ds m.ty,0<AP ds m h->Cq ds m.ty<=AP ds m h):=by
 obtain ⟨⟨so,n,x,ps⟩,nt,hdm,ks⟩:=m;simp only [AC,Mi.ty] at *;subst h8;obtain ⟨hp,d,hd⟩:=C5 hn 8 n x ps rfl rfl;obtain ⟨f1,f2⟩:=gT ho;have hdv:(Kh ds x).toNat=(AQ x 0 ds).toNat:=by simp [Kh,hp]
 have hone:Cq ds (.mk 8 n x ps)=(D7 ds).getD (AQ x 0 ds).toNat 0:=by simp only [Cq,EI,if_true];rw [hdv]
 have hH:A0 ds (.mk 8 n x ps)=d.cons.map Kg:=by
  rw [show A0 ds (.mk 8 n x ps)=(match ds[(AQ x 0 ds).toNat]? with | some d=>d.cons.map λc=>Ty.mk 4 0 c.name [] | none=>[]) from rfl,hd];rfl
 have hc:∀c∈d.cons,AP ds (.mk (.mk 8 n x ps) nt hdm ks) (Kg c)=AM ds (D7 ds) 1 c.args:=by
  intro c hc;obtain ⟨k,hk,e⟩:=List.getElem_of_mem hc;simp only [AP,Kg,AC,if_true,C4,Mi.ty];rw [VY ho hd (k:=k) (c:=c) (by rw [List.getElem?_eq_getElem hk,e])]
 have h0:=(Cp ho (.mk 8 n x ps)).1;rw [hone] at h0 ⊢;rw [hH];constructor
 ·intro hz h hh hpos;obtain ⟨c,hcm,rfl⟩:=List.mem_map.1 hh;rw [hc c hcm] at hpos;exact (f2 _ d hd c hcm hpos).1 hz
 ·intro hz;constructor
  ·obtain ⟨c,hcm,c1,c2⟩:=f1 _ d hd (by omega);exact ⟨Kg c,List.mem_map_of_mem hcm,by rw [hc c hcm];exact c1,by rw [hc c hcm];exact c2⟩
  ·intro h hh hpos;obtain ⟨c,hcm,rfl⟩:=List.mem_map.1 hh;rw [hc c hcm] at hpos ⊢;exact (f2 _ d hd c hcm hpos).2
def nD (ds:List Dt) (t:Ty) (r:Option Ty):Prop:=(Cq ds t=0->r=none)/\(Cq ds t≠0->∃v,r=some v/\(Ai v:Int)=Cq ds t/\II ds t v=true/\Do v=true)
theorem JX {ds:List Dt} (ho:OkW ds) {m:Mi} {h:Ty} (hn:AB ds m.ty=true) (hh:MJ ds m.ty h):AP ds m h=AM ds (D7 ds) 1 (AK ds m.ty (C4 h)).1:=by
 unfold AP
 split
 ·rfl
 ·rename_i h4;have:AC m.ty≠8:=by
   rcases hh with hh | ⟨h1,_⟩
   ·rcases Fl ho hn hh with ⟨_,h2,_⟩ | ⟨h1,_⟩ | ⟨h1,_⟩
    ·exact absurd h2 h4
    ·omega
    ·omega
   ·omega
  rw [Fr this];rfl
theorem M8 {ds:List Dt} (ho:OkW ds):∀{l:List Ty} {n:Int},0<AM ds (D7 ds) n l->n<=AM ds (D7 ds) n l/\∀t∈l,n+Cq ds t<=AM ds (D7 ds) n l
 | [],n,h=>⟨by simp [AM],λt ht=>by cases ht⟩
 | x::r,n,h=>by
  simp only [AM] at h ⊢;by_cases e:EI ds (D7 ds) x=0
  ·rw [if_pos e] at h;omega
  ·rw [if_neg e] at h ⊢;obtain ⟨h1,h2⟩:=M8 ho h;have hx:=(Cp ho x).1;simp only [Cq] at *;refine ⟨by omega,λt ht=>?_⟩;rcases List.mem_cons.1 ht with rfl | ht
   ·omega
   ·have:=h2 t ht;omega
theorem Hm {ds:List Dt} (ho:OkW ds) {f:Nat} {m:Mi} {h:Ty} (hn:AB ds m.ty=true) (hh:MJ ds m.ty h) (ih:∀t,t∈(AK ds m.ty (C4 h)).1->∃r,AD ds f (Aq t)=some r/\nD ds t r) :
  ∃r,AD ds (f+1) (AX ds m h)=some r/\(AP ds m h=0->r=none)/\(0<AP ds m h->∃v,r=some v/\(Ai v:Int)=AP ds m h/\II ds m.ty v=true/\Do v=true):=by
 have hk:=OM hh;have e1:AD ds (f+1) (AX ds m h)=(Bd (AD ds f) ((AK ds m.ty (C4 h)).1.map Aq)).map (·.map (Cs h)):=by
  rw [En (m:=AX ds m h) hk.1];rfl
 rw [e1];clear e1;have hcost:=JX ho hn hh;have hlen:=Ep ho m.ty (C4 h);rw [hcost];by_cases hz:∃t∈(AK ds m.ty (C4 h)).1,Cq ds t=0
 ·have hno:=Sq (ds:=ds) (g:=AD ds f) (λt ht=>let ⟨r,r1,r2,_⟩:=ih t ht;⟨r,r1,r2⟩) hz;obtain ⟨t,ht,h0⟩:=hz;rw [hno,NF ht h0];exact ⟨none,rfl,λ_=>rfl,λh=>by omega⟩
 ·have hz:∀t∈(AK ds m.ty (C4 h)).1,Cq ds t≠0:=λt ht e=>hz ⟨t,ht,e⟩;obtain ⟨vs,w1,w2,w3,w4,w5⟩:=LF (ds:=ds) (g:=AD ds f) (λt ht=>let ⟨r,r1,_,r3⟩:=ih t ht;let ⟨v,v1,v2⟩:=r3 (hz t ht);⟨v,by rw [r1,v1],v2⟩) hz;have hi:=UF ho hn hh w4;rw [w1,w5 1];exact ⟨some (Cs h vs),rfl,λh=>by omega,λ_=>⟨_,rfl,by rw [hi.2];omega,PP ho hn hh w2 w3,hi.1⟩⟩
theorem F9 {ds:List Dt} (ho:OkW ds):∀(k:Nat) (t:Ty),AB ds t=true->Py t=true->Cq ds t<=k->∀f,k+2<=f->∃r,AD ds f (Aq t)=some r/\nD ds t r:=by
 intro k
 induction k with
 | zero =>
  intro t hn hs hk f hf;obtain ⟨f,rfl⟩:∃g,f=g+1:=⟨f-1,by omega⟩
  have hb:=(Cp ho t).1;have h8:AC t=8:=by
   obtain ⟨so,n,x,ps⟩:=t;by_cases e:so=8
   ·exact e
   ·simp only [Cq,EI,if_neg e] at hk;omega
  have hc:=(OV ho (m:=Aq t) hn h8).1 (by show Cq ds t=0;omega);have hsm:A9 ds (Aq t)=none:=by
   cases hq:A9 ds (Aq t) with
   | none=>rfl
   | some h =>
    simp only [A9,Option.map_eq_some_iff] at hq;obtain ⟨p,hp,rfl⟩:=hq;obtain ⟨q1,_,_⟩:=Eg hp;rcases q1 with q1 | ⟨q1,q2,q3,_⟩
    ·cases q1
    ·exact absurd (by omega) (hc _ q1)
  refine ⟨none,?_,λ_=>rfl,λh=>absurd (by omega) h⟩;rw [CX (m:=Aq t) rfl (show ¬AC t=1 by omega) (show ¬(AC t=4\/AC t=5\/AC t=6\/AC t=7) by omega),hsm]
 | succ k ih =>
  intro t hn hs hk f hf;obtain ⟨f,rfl⟩:∃g,f=g+1:=⟨f-1,by omega⟩
  have hs':=of_decide_eq_true hs;have h1:AC t≠8->Cq ds t=1:=λh=>by obtain ⟨so,n,x,ps⟩:=t;simp only [Cq,EI];exact if_neg h
  by_cases t1:AC t=1
  ·have ho1:=h1 (by omega);refine ⟨some (CW []),?_,λh=>by omega,λ_=>⟨_,rfl,by rw [ho1];rfl,?_,rfl⟩⟩
   ·exact E7 (m:=Aq t) rfl t1
   ·obtain ⟨so,n,x,ps⟩:=t;simp only [AC] at t1;subst t1;rfl
  by_cases t4:AC t=4\/AC t=5\/AC t=6\/AC t=7
  ·have ho1:=h1 (by omega);refine ⟨some (.mk 5 0 [] []),?_,λh=>by omega,λ_=>⟨_,rfl,by rw [ho1];rfl,?_,rfl⟩⟩
   ·exact E6 (m:=Aq t) rfl t4
   ·obtain ⟨so,n,x,ps⟩:=t;simp only [AC] at t4;simp only [II];rw [if_neg (by omega),if_neg (by omega),if_neg (by omega),if_neg (by omega)];rfl
  have hun:=CX (ds:=ds) (f:=f) (m:=Aq t) rfl t1 t4;rw [hun];have hall:∀h,h∈A0 ds t->0<AP ds (Aq t) h->AP ds (Aq t) h<=k+1->∃r,AD ds (f+1) (AX ds (Aq t) h)=some r/\(AP ds (Aq t) h=0->r=none)/\(0<AP ds (Aq t) h->∃v,r=some v/\(Ai v:Int)=AP ds (Aq t) h/\II ds t v=true/\Do v=true):=by
   intro h hh h0 hc;refine Hm ho (m:=Aq t) hn (.inl hh) λa ha=>?_;have ha:a∈(AK ds t (C4 h)).1:=ha;have hna:=BT ho.okd (t:=t) (s:=C4 h);rw [C3,List.all_eq_true] at hna;rw [JX ho (m:=Aq t) hn (.inl hh)] at h0 hc;have:=(M8 ho h0).2 a ha;exact ih a (hna a ha) (GO ho a ha) (by omega) f (by omega)
  have hpk:∀h,A9 ds (Aq t)=some h->h∈A0 ds t/\0<AP ds (Aq t) h/\∀h'∈A0 ds t,0<AP ds (Aq t) h'->AP ds (Aq t) h<=AP ds (Aq t) h':=λh hq=>by
   simp only [A9,Option.map_eq_some_iff] at hq;obtain ⟨p,hp,rfl⟩:=hq;obtain ⟨q1,_,q3⟩:=Eg hp;rcases q1 with q1 | ⟨q1,q2,q4,_⟩
   ·cases q1
   ·exact ⟨q1,by omega,λh' hh' h0=>by rw [<- q2];exact q3 h' hh' h0 rfl⟩
  have hpn:A9 ds (Aq t)=none->∀h'∈A0 ds t,¬0<AP ds (Aq t) h':=λhq h' hh' h0=>by
   simp only [A9,Option.map_eq_none_iff] at hq;exact (JG hq).2 h' hh' ⟨h0,rfl⟩
  by_cases t8:AC t=8
  ·have hc:=OV ho (m:=Aq t) hn t8;have hc1:Cq ds t=0->∀h∈A0 ds t,¬0<AP ds (Aq t) h:=hc.1;have hc2:Cq ds t≠0->(∃h∈A0 ds t,0<AP ds (Aq t) h/\AP ds (Aq t) h<=Cq ds t)/\∀h∈A0 ds t,0<AP ds (Aq t) h->Cq ds t<=AP ds (Aq t) h:=hc.2;cases hq:A9 ds (Aq t) with
   | none =>
    refine ⟨none,rfl,λ_=>rfl,λhz=>?_⟩;obtain ⟨⟨h,h1,h2,_⟩,_⟩:=hc2 hz;exact absurd h2 (hpn hq h h1)
   | some h =>
    obtain ⟨p1,p2,p3⟩:=hpk h hq;have hz:Cq ds t≠0:=λe=>hc1 e h p1 p2;obtain ⟨⟨h0,a1,a2,a3⟩,a4⟩:=hc2 hz;have:=p3 h0 a1 a2;have:=a4 h p1 p2;obtain ⟨r,r1,_,r3⟩:=hall h p1 p2 (by omega);obtain ⟨v,v1,v2,v3⟩:=r3 p2;exact ⟨r,r1,λe=>absurd e hz,λ_=>⟨v,v1,by omega,v3⟩⟩
  ·have ho1:=h1 t8;have hcost:∀h∈A0 ds t,AP ds (Aq t) h=1:=λh hh=>by
    unfold AP;rw [if_neg];intro h4;rcases Fl ho hn hh with ⟨h8,_⟩ | ⟨_,n,rfl,_⟩ | ⟨_,rfl⟩
    ·exact t8 h8
    ·simp [AC] at h4
    ·simp [AC] at h4
   have hne:∃h,h∈A0 ds t:=by
    obtain ⟨so,n,x,ps⟩:=t;simp only [AC] at *;by_cases e:so=2
    ·subst e;exact ⟨.mk 2 0 [] [],by simp [A0]⟩
    ·have e:so=3:=by omega
     subst e;exact ⟨.mk 3 0 [] [],by simp [A0]⟩
   cases hq:A9 ds (Aq t) with
   | none =>
    obtain ⟨h,hh⟩:=hne;exact absurd (by rw [hcost h hh];omega) (hpn hq h hh)
   | some h =>
    obtain ⟨p1,p2,p3⟩:=hpk h hq;have hch:=hcost h p1;obtain ⟨r,r1,_,r3⟩:=hall h p1 p2 (by omega);obtain ⟨v,v1,v2,v3⟩:=r3 p2;exact ⟨r,r1,λe=>by omega,λ_=>⟨v,v1,by omega,v3⟩⟩
theorem UW {ds:List Dt} (ho:OkW ds) {f:Nat} (hf:770<=f) {m:Mi} (hn:AB ds m.ty=true) (hs:Py m.ty=true) (hnt:m.nt.length<=1000000) (hh:AC m.hd=0) :
  ∃r,AD ds (f+1) m=some r/\∀v,r=some v->Ai v<=769/\II ds m.ty v=true/\Do v=true:=by
 have hs':=of_decide_eq_true hs;by_cases t1:AC m.ty=1
 ·refine ⟨_,E7 hh t1,λv hv=>?_⟩;cases hv;obtain ⟨n,e,e1,e2⟩:=HM m.nt m.nt.length 0 (by omega);rw [CW,e];refine ⟨by simp [Ai,Ag],?_,?_⟩
  ·revert t1;generalize m.ty=t;obtain ⟨so,n,x,ps⟩:=t;intro t1;simp only [AC] at t1;subst t1;rfl
  ·simp only [Do,Fj,Bool.and_true];exact decide_eq_true (by omega)
 by_cases t4:AC m.ty=4\/AC m.ty=5\/AC m.ty=6\/AC m.ty=7
 ·refine ⟨_,E6 hh t4,λv hv=>?_⟩;cases hv;refine ⟨by simp [Ai,Ag],?_,rfl⟩;revert t4;generalize m.ty=t;obtain ⟨so,n,x,ps⟩:=t;intro t4;simp only [AC] at t4;simp only [II];rw [if_neg (by omega),if_neg (by omega),if_neg (by omega),if_neg (by omega)];rfl
 rw [CX hh t1 t4];cases hq:A9 ds m with
 | none=>exact ⟨none,rfl,λv hv=>by cases hv⟩
 | some h =>
  have hm:=G4 hq;simp only [A9,Option.map_eq_some_iff] at hq;obtain ⟨p,hp,rfl⟩:=hq;obtain ⟨q1,_,_⟩:=Eg hp;rcases q1 with q1 | ⟨_,q2,q3,_⟩
  ·cases q1
  have hce:=JX ho hn (.inl hm);have hup:=(M7 ho (Ep ho m.ty (C4 p.1))).2;obtain ⟨r,r1,_,r3⟩:=Hm ho (f:=f) hn (.inl hm) λa ha=>by
   have hna:=BT ho.okd (t:=m.ty) (s:=C4 p.1);rw [C3,List.all_eq_true] at hna;exact F9 ho 256 a (hna a ha) (GO ho a ha) (Cp ho a).2 f (by omega)
  obtain ⟨v,v1,v2,v3⟩:=r3 (by omega);refine ⟨r,r1,λw hw=>?_⟩;rw [v1] at hw;cases hw;exact ⟨by omega,v3⟩
theorem Qi {ds:List Dt} {g:Mi->Option (Option Ty)} {B:Nat}:∀{ks:List Mi},(∀k∈ks,∃r,g k=some r/\∀v,r=some v->Ai v<=B/\II ds k.ty v=true/\Do v=true) ->
  ∃o,Bd g ks=some o/\∀vs,o=some vs->ks.length=vs.length/\GQ ds (ks.map Mi.ty) vs=true/\Fj vs=true/\Ag vs<=ks.length*B
 | [],_=>⟨some [],rfl,λvs h=>by cases h;exact ⟨rfl,rfl,rfl,by simp [Ag]⟩⟩
 | k::r,h=>by
  obtain ⟨x,x1,x2⟩:=h k (by simp);obtain ⟨o,o1,o2⟩:=Qi (ks:=r) (λy hy=>h y (by simp [hy]));cases x with
  | none=>exact ⟨none,by simp [Bd,x1],λvs h=>by cases h⟩
  | some v =>
   obtain ⟨v1,v2,v3⟩:=x2 v rfl;cases o with
   | none=>exact ⟨none,by simp [Bd,x1,o1],λvs h=>by cases h⟩
   | some vs =>
    obtain ⟨w1,w2,w3,w4⟩:=o2 vs rfl;refine ⟨some (v::vs),by simp [Bd,x1,o1],λus h=>?_⟩;cases h;refine ⟨by simp [w1],by simp [GQ,v2,w2],by simp [Fj,v3,w3],?_⟩;simp only [Ag,List.length_cons,Nat.add_mul];omega
theorem Z6 {ds:List Dt} (ho:OkW ds) {N:Nat} (hN:N<=1000000):∀(H:Nat) (m:Mi),GU ds N m=true->DF ds m->GS m<=H->∀f,H+771<=f ->
  ∃r,AD ds f m=some r/\∀v,r=some v->Ai v<=1000*4 ^ H/\II ds m.ty v=true/\Do v=true:=by
 intro H
 induction H with
 | zero=>intro m _ _ h;rw [FW] at h;omega
 | succ H ih =>
  intro m hw hc hg f hf;obtain ⟨f,rfl⟩:∃g,f=g+1:=⟨f-1,by omega⟩
  have hwi:=Bf.1 hw;have hci:=B4.1 hc;have hp1:1<=4 ^ H:=Nat.one_le_pow _ _ (by decide);have hp2:4 ^ (H+1)=4*4 ^ H:=by rw [Nat.pow_succ];omega
  by_cases hh:AC m.hd=0
  ·obtain ⟨r,r1,r2⟩:=UW ho (f:=f) (by omega) hwi.1.1 hwi.2.1.2 (by omega) hh;exact ⟨r,r1,λv hv=>by obtain ⟨a,b⟩:=r2 v hv;exact ⟨by omega,b⟩⟩
  ·rw [En hh];obtain ⟨o,o1,o2⟩:=Qi (ds:=ds) (g:=AD ds f) (B:=1000*4 ^ H) (ks:=m.ks) λk hk=>ih k (hwi.2.2 k hk) (hci.2.2 k hk) (by have:=LK hk;omega) f (by omega);refine ⟨o.map (Cs m.hd),by rw [o1];rfl,λv hv=>?_⟩;cases o with
   | none=>cases hv
   | some vs =>
    simp only [Option.map_some,Option.some.injEq] at hv;obtain ⟨w1,w2,w3,w4⟩:=o2 vs rfl;obtain ⟨c1,c2⟩:=hci.2.1 hh;rw [c2] at w2;have hi:=UF ho hwi.1.1 c1 w3;have hl:(AK ds m.ty (C4 m.hd)).1.length=vs.length:=by rw [<- c2,List.length_map,w1]
    have h3:=hwi.1.2.1;subst hv;refine ⟨?_,PP ho hwi.1.1 c1 hl w2,hi.1⟩;rw [hi.2];have:m.ks.length*(1000*4 ^ H)<=3*(1000*4 ^ H):=Nat.mul_le_mul_right _ h3;omega
theorem Ko {g:Mi->Option (Option Ty)}:∀{l r:List Mi},l.length=r.length->(∀(i:Nat) a b,l[i]?=some a->r[i]?=some b->g a=g b)->Bd g l=Bd g r
 | [],[],_,_=>rfl
 | a::l,b::r,hl,h=>by
  simp only [Bd,h 0 a b rfl rfl,Ko (l:=l) (r:=r) (by simpa using hl) λi x y hx hy=>h (i+1) x y (by simpa using hx) (by simpa using hy)]
 | [],_::_,hl,_=>by simp at hl
 | _::_,[],hl,_=>by simp at hl
theorem CI {ds:List Dt} (m:Mi):(Af ds m=m)\/(AC m.hd=0/\∃h,Hl ds m=[h]/\Af ds m=AX ds m h):=by
 unfold Af;by_cases hh:AC m.hd=0
 ·rw [if_neg (λh=>h hh)]
  split
  ·rename_i h e;exact .inr ⟨hh,h,e,rfl⟩
  ·exact .inl rfl
 ·rw [if_pos hh];exact .inl rfl
theorem O1 {ds:List Dt} (m:Mi):Af ds (Af ds m)=Af ds m:=by
 rcases CI (ds:=ds) m with h | ⟨hh,h,h1,h2⟩
 ·rw [h,h]
 ·rw [h2];have:AC (AX ds m h).hd≠0:=(Bs (D1 h1).1).2;simp only [Af,if_pos this]
theorem C1 {ds:List Dt} {m:Mi} (h:AC m.hd≠0):Af ds m=m:=by simp only [Af,if_pos h]
theorem Rq {ds:List Dt} (ho:OkW ds) {f:Nat} (hf:770<=f) {m:Mi} (hn:AB ds m.ty=true):AD ds (f+1) (Af ds m)=AD ds (f+1) m:=by
 rcases CI (ds:=ds) m with h | ⟨hh,h,h1,h2⟩
 ·rw [h]
 rw [h2];obtain ⟨hm,hnt⟩:=D1 h1;have hk:=Fl ho hn hm;have t1:¬AC m.ty=1:=by rcases hk with ⟨a,_⟩ | ⟨a,_⟩ | ⟨a,_⟩ <;> omega
 have t4:¬(AC m.ty=4\/AC m.ty=5\/AC m.ty=6\/AC m.ty=7):=by rcases hk with ⟨a,_⟩ | ⟨a,_⟩ | ⟨a,_⟩ <;> omega
 rw [CX hh t1 t4];have honly:∀x∈A0 ds m.ty,BD m.nt x=false->x=h:=λx hx hxn=>by
  have:x∈Hl ds m:=List.mem_filter.2 ⟨hx,by simp [hxn]⟩;rw [h1] at this;simpa using this
 cases hq:A9 ds m with
 | some y =>
  have hy:=G4 hq;simp only [A9,Option.map_eq_some_iff] at hq;obtain ⟨p,hp,rfl⟩:=hq;obtain ⟨q1,_,_⟩:=Eg hp;rcases q1 with q1 | ⟨_,_,_,q4⟩
  ·cases q1
  ·rw [honly _ hy q4]
 | none =>
  simp only [A9,Option.map_eq_none_iff] at hq;have hc:=(JG hq).2 h hm;have hce:=JX ho hn (.inl hm);have hup:=(M7 ho (Ep ho m.ty (C4 h))).1;obtain ⟨r,r1,r2,_⟩:=Hm ho (f:=f) hn (.inl hm) λa ha=>by
   have hna:=BT ho.okd (t:=m.ty) (s:=C4 h);rw [C3,List.all_eq_true] at hna;exact F9 ho 256 a (hna a ha) (GO ho a ha) (Cp ho a).2 f (by omega)
  rw [r1,r2 (by have:¬0<AP ds m h:=λh0=>hc ⟨h0,hnt⟩;omega)]
mutual
def stl (ds:List Dt) (m:Mi):Mi->Prop
 | .mk ty nt hd ks=>∃s,(s=m\/s=Af ds m)/\s.ty=ty/\s.nt=nt/\s.hd=hd/\O0 ds s.ks ks
def O0 (ds:List Dt) (l:List Mi):List Mi->Prop
 | []=>l=[]
 | k::r=>∃a b,l=a::b/\stl ds a k/\O0 ds b r
end
theorem Gv {ds:List Dt}:∀{r l:List Mi},O0 ds l r↔l.length=r.length/\∀(i:Nat) a k,l[i]?=some a->r[i]?=some k->stl ds a k
 | [],l=>by
  simp only [O0,List.length_nil,List.length_eq_zero_iff];exact ⟨λh=>⟨h,λi a k _ hk=>by simp at hk⟩,λh=>h.1⟩
 | k::r,l=>by
  simp only [O0];constructor
  ·rintro ⟨a,b,rfl,h1,h2⟩;obtain ⟨h3,h4⟩:=Gv.1 h2;refine ⟨by simp [h3],λi x y hx hy=>?_⟩;cases i with
   | zero=>simp at hx hy;subst hx;subst hy;exact h1
   | succ i=>exact h4 i x y (by simpa using hx) (by simpa using hy)
  ·rintro ⟨h1,h2⟩;cases l with
   | nil=>simp at h1
   | cons a b=>exact ⟨a,b,rfl,h2 0 a k rfl rfl,Gv.2 ⟨by simpa using h1,λi x y hx hy=>h2 (i+1) x y (by simpa using hx) (by simpa using hy)⟩⟩
theorem GX {ds:List Dt} {m c:Mi}:stl ds m c↔∃s,(s=m\/s=Af ds m)/\s.ty=c.ty/\s.nt=c.nt/\s.hd=c.hd/\O0 ds s.ks c.ks:=by
 obtain ⟨a,b,d,e⟩:=c;rfl
mutual
theorem Ev (ds:List Dt):∀m:Mi,stl ds m m
 | .mk ty nt hd ks=>⟨_,.inl rfl,rfl,rfl,rfl,JD ds ks⟩
theorem JD (ds:List Dt):∀l:List Mi,O0 ds l l
 | []=>rfl
 | k::r=>⟨k,r,rfl,Ev ds k,JD ds r⟩
end
theorem lC {ds:List Dt} {m c:Mi} (h:stl ds m c):m.ty=c.ty:=by
 obtain ⟨s,h1,h2,_⟩:=GX.1 h;rcases h1 with rfl | rfl
 ·exact h2
 ·rw [<- h2,Dy]
theorem IW {ds:List Dt} {m c:Mi} (hm:DF ds m) (h:stl ds m c):(Af ds m).ty=(Af ds c).ty/\(Af ds m).nt=(Af ds c).nt/\(Af ds m).hd=(Af ds c).hd/\O0 ds (Af ds m).ks (Af ds c).ks:=by
 obtain ⟨s,h1,h2,h3,h4,h5⟩:=GX.1 h;rcases h1 with rfl | h1
 ·by_cases hh:AC s.hd=0
  ·have hk:=(B4.1 hm).1 hh;have hck:c.ks=[]:=by
    have:=(Gv.1 h5).1;rw [hk] at this;exact List.eq_nil_of_length_eq_zero this.symm
   have e:c=s:=by
    obtain ⟨a,b,d,e⟩:=c;obtain ⟨a',b',d',e'⟩:=s;simp only [Mi.ty,Mi.nt,Mi.hd,Mi.ks] at *;subst h2;subst h3;subst h4;rw [hk,hck]
   rw [e];exact ⟨rfl,rfl,rfl,JD ds _⟩
  ·rw [C1 hh,C1 (m:=c) (by rw [<- h4];exact hh)];exact ⟨h2,h3,h4,h5⟩
 ·rcases CI (ds:=ds) m with e | ⟨hh,x,e1,e2⟩
  ·rw [e] at h1;rw [h1] at h2 h3 h4 h5;by_cases hh:AC m.hd=0
   ·have hk:=(B4.1 hm).1 hh;have hck:c.ks=[]:=by
     have:=(Gv.1 h5).1;rw [hk] at this;exact List.eq_nil_of_length_eq_zero this.symm
    have e:c=m:=by
     obtain ⟨a,b,d,e⟩:=c;obtain ⟨a',b',d',e'⟩:=m;simp only [Mi.ty,Mi.nt,Mi.hd,Mi.ks] at *;subst h2;subst h3;subst h4;rw [hk,hck]
    rw [e];exact ⟨rfl,rfl,rfl,JD ds _⟩
   ·rw [C1 hh,C1 (m:=c) (by rw [<- h4];exact hh)];exact ⟨h2,h3,h4,h5⟩
  ·have hne:AC (Af ds m).hd≠0:=by rw [e2];exact (Bs (D1 e1).1).2
   subst h1;rw [C1 (m:=c) (by rw [<- h4];exact hne)];exact ⟨h2,h3,h4,h5⟩
theorem UZ {ds:List Dt} {m c:Mi} (h:m.ty=c.ty) (x:Ty):AX ds m x=AX ds c x:=by
 simp only [AX,h]
theorem PE {ds:List Dt} {m c:Mi} (h1:m.ty=c.ty) (h2:m.nt=c.nt):∀(l:List Ty) (b:Option (Ty×Int)),Dm ds m b l=Dm ds c b l
 | [],b=>rfl
 | x::r,b=>by
  have hc:AP ds m x=AP ds c x:=by simp only [AP,h1]
  simp only [Dm,hc,h2];exact PE h1 h2 r _
theorem P1 {ds:List Dt} {m c:Mi} (h1:m.ty=c.ty) (h2:m.nt=c.nt):A9 ds m=A9 ds c:=by
 simp only [A9,h1,PE h1 h2]
theorem NY {ds:List Dt} {m c:Mi} (f:Nat) (h1:m.ty=c.ty) (h2:m.nt=c.nt) (h3:AC m.hd=0) (h4:AC c.hd=0):AD ds (f+1) m=AD ds (f+1) c:=by
 by_cases t1:AC m.ty=1
 ·rw [E7 h3 t1,E7 h4 (by rw [<- h1];exact t1),h2]
 by_cases t4:AC m.ty=4\/AC m.ty=5\/AC m.ty=6\/AC m.ty=7
 ·rw [E6 h3 t4,E6 h4 (by rw [<- h1];exact t4)]
 rw [CX h3 t1 t4,CX h4 (by rw [<- h1];exact t1) (by rw [<- h1];exact t4),P1 h1 h2];cases A9 ds c with
 | none=>rfl
 | some x=>simp only [UZ h1]
theorem YU {ds:List Dt} (ho:OkW ds) {N:Nat}:∀(H:Nat) (m c:Mi),GS c<=H->GU ds N m=true->stl ds m c->∀f,H+771<=f->AD ds f m=AD ds f c:=by
 intro H
 induction H with
 | zero=>intro m c h;rw [FW] at h;omega
 | succ H ih =>
  intro m c hg hw hs f hf;obtain ⟨f,rfl⟩:∃g,f=g+1:=⟨f-1,by omega⟩
  obtain ⟨s,h1,h2,h3,h4,h5⟩:=GX.1 hs;have e:AD ds (f+1) m=AD ds (f+1) s/\GU ds N s=true:=by
   rcases h1 with rfl | rfl
   ·exact ⟨rfl,hw⟩
   ·exact ⟨(Rq ho (by omega) (Bf.1 hw).1.1).symm,Df ho hw⟩
  rw [e.1];by_cases hh:AC s.hd=0
  ·exact NY f h2 h3 hh (by rw [<- h4];exact hh)
  ·rw [En hh,En (by rw [<- h4];exact hh),h4];obtain ⟨k1,k2⟩:=Gv.1 h5;rw [Ko k1 λi a b ha hb=>ih a b (by have:=LK (List.mem_of_getElem? hb);omega) ((Bf.1 e.2).2.2 a (List.mem_of_getElem? ha)) (k2 i a b ha hb) f (by omega)]
theorem NW {g g':Mi->Option (Option Ty)} (h:∀k r,g k=some r->g' k=some r):∀{l:List Mi} {o:Option (List Ty)},Bd g l=some o->Bd g' l=some o
 | [],o,e=>e
 | k::r,o,e=>by
  simp only [Bd] at e ⊢;cases hk:g k with
  | none=>simp [hk] at e
  | some v =>
   rw [h k v hk];cases v with
   | none=>simpa [hk] using e
   | some v =>
    simp only [hk] at e ⊢;cases hr:Bd g r with
    | none=>simp [hr] at e
    | some q=>rw [NW h hr];simpa [hr] using e
theorem UX {ds:List Dt}:∀(f:Nat) (m:Mi) (r:Option Ty),AD ds f m=some r->AD ds (f+1) m=some r:=by
 intro f
 induction f with
 | zero=>intro m r h;simp [AD] at h
 | succ f ih =>
  intro m r h;have hk:∀m r,AC m.hd≠0->AD ds (f+1) m=some r->AD ds (f+1+1) m=some r:=λm r hh h=>by
   rw [En hh] at h ⊢;cases hl:Bd (AD ds f) m.ks with
   | none=>simp [hl] at h
   | some o=>rw [NW ih hl];simpa [hl] using h
  by_cases hh:AC m.hd=0
  ·by_cases t1:AC m.ty=1
   ·rw [E7 hh t1] at h ⊢;exact h
   by_cases t4:AC m.ty=4\/AC m.ty=5\/AC m.ty=6\/AC m.ty=7
   ·rw [E6 hh t4] at h ⊢;exact h
   rw [CX hh t1 t4] at h ⊢;cases hq:A9 ds m with
   | none=>rw [hq] at h;exact h
   | some x =>
    simp only [hq] at h ⊢;exact hk _ _ (Bs (G4 hq)).2 h
  ·exact hk m r hh h
theorem I1 {ds:List Dt} {f g:Nat} (hg:f<=g) {m:Mi} {r:Option Ty} (h:AD ds f m=some r):AD ds g m=some r:=by
 induction hg with
 | refl=>exact h
 | step _ ih=>exact UX _ _ _ ih
mutual
theorem Pv {ds:List Dt}:∀(p:Ty) {m c:Mi},DF ds m->stl ds m c->Ax ds p m=Ax ds p c
 | .mk f n x ps,m,c,hm,hs=>by
  obtain ⟨_,h2,h3,h4⟩:=IW hm hs;simp only [Ax,h2,h3];rw [RH ps (λk hk=>(B4.1 (Dd hm)).2.2 k hk) h4 0]
theorem RH {ds:List Dt}:∀(ps:List Ty) {l r:List Mi},(∀k∈l,DF ds k)->O0 ds l r->∀i,AW ds i ps l=AW ds i ps r
 | [],_,_,_,_,i=>by simp only [AW]
 | p::ps,l,[],_,h,i=>by simp only [O0] at h;subst h;rfl
 | p::ps,l,k::r,hl,h,i=>by
  obtain ⟨a,b,rfl,h1,h2⟩:=h;simp only [AW,Pv p (hl a (by simp)) h1,RH ps (λy hy=>hl y (by simp [hy])) h2]
end
mutual
def Ey (ds:List Dt):Ty->Mi->Mi
 | .mk f n x ps,m=>if f=1\/f=2 then m else if AC (Af ds m).hd=0\/A5 (Af ds m).hd (AN (.mk f n x ps))=false then Af ds m else
  .mk (Af ds m).ty (Af ds m).nt (Af ds m).hd (CT ds ps (Af ds m).ks)
def CT (ds:List Dt):List Ty->List Mi->List Mi
 | [],ks=>ks
 | _::_,[]=>[]
 | p::r,k::ks=>Ey ds p k::if (Ax ds p k).1=1 then CT ds r ks else ks
end
mutual
theorem XI {ds:List Dt}:∀(p:Ty) {m c:Mi},DF ds m->stl ds m c->stl ds m (Ey ds p c)
 | .mk f n x ps,m,c,hm,hs=>by
  obtain ⟨h1,h2,h3,h4⟩:=IW hm hs;have hst:stl ds m (Af ds c):=GX.2 ⟨Af ds m,.inr rfl,h1,h2,h3,h4⟩;simp only [Ey]
  split
  ·exact hs
  ·split
   ·exact hst
   ·exact GX.2 ⟨Af ds m,.inr rfl,h1,h2,h3,Uj ps (λk hk=>(B4.1 (Dd hm)).2.2 k hk) h4⟩
theorem Uj {ds:List Dt}:∀(ps:List Ty) {l r:List Mi},(∀k∈l,DF ds k)->O0 ds l r->O0 ds l (CT ds ps r)
 | [],_,_,_,h=>by simpa only [CT] using h
 | p::ps,l,[],_,h=>by simpa only [CT] using h
 | p::ps,l,k::r,hl,h=>by
  obtain ⟨a,b,rfl,h1,h2⟩:=h;simp only [CT];refine ⟨a,b,rfl,XI p (hl a (by simp)) h1,?_⟩
  split
  ·exact Uj ps (λy hy=>hl y (by simp [hy])) h2
  ·exact h2
end
mutual
def Wj (ds:List Dt):Ty->Mi->Nat
 | .mk f n x ps,m=>if f=1\/f=2 then 0 else if AC (Af ds m).hd=0 then (if BD (Af ds m).nt (AN (.mk f n x ps))=true then 0 else 1+Ag ps) else
  if A5 (Af ds m).hd (AN (.mk f n x ps))=false then 0 else Oz ds ps (Af ds m).ks
def Oz (ds:List Dt):List Ty->List Mi->Nat
 | [],_=>0
 | _::_,[]=>0
 | p::r,k::ks=>Wj ds p k+Oz ds r ks
end
mutual
theorem jQ (ds:List Dt):∀(p:Ty) (m:Mi),Wj ds p m<=Ai p
 | .mk f n x ps,m=>by
  have:=Wn ds ps (Af ds m).ks;simp only [Wj,Ai]
  split
  ·omega
  ·split
   ·split <;> omega
   ·split <;> omega
theorem Wn (ds:List Dt):∀(ps:List Ty) (l:List Mi),Oz ds ps l<=Ag ps
 | [],l=>by simp [Oz]
 | p::r,[]=>by simp [Oz]
 | p::r,k::ks=>by
  have h1:=jQ ds p k;have h2:=Wn ds r ks;simp only [Oz,Ag];omega
end
theorem Xj (h:Ty):A5 h h=true:=by obtain ⟨a,b,c,d⟩:=h;simp [A5]
theorem GC (a b:Ty):A5 a b=A5 b a:=by
 obtain ⟨a1,a2,a3,a4⟩:=a;obtain ⟨b1,b2,b3,b4⟩:=b;simp only [A5];rw [Bool.eq_iff_iff];simp only [Bool.and_eq_true,beq_iff_eq];exact ⟨λ⟨⟨h1,h2⟩,h3⟩=>⟨⟨h1.symm,h2.symm⟩,h3.symm⟩,λ⟨⟨h1,h2⟩,h3⟩=>⟨⟨h1.symm,h2.symm⟩,h3.symm⟩⟩
theorem L5 {ds:List Dt} {t:Ty} {f n:Int} {x:Str} {ps:List Ty} (hn:AB ds t=true) (h:Co ds t (.mk f n x ps)=true) (hp:BA (.mk f n x ps)=true) (h12:¬(f=1\/f=2)) :
  MJ ds t (AN (.mk f n x ps))/\(AK ds t (C4 (AN (.mk f n x ps)))).1.length=ps.length/\Cj ds (AK ds t (C4 (AN (.mk f n x ps)))).1 ps=true/\B5 ps=true:=by
 rw [ME] at h;obtain ⟨so,m,y,qs⟩:=t;simp only [BA,Bool.and_eq_true] at hp;obtain ⟨hb,hps⟩:=hp;have hz:∀t:Ty,AC t≠8->ps=[]->∀s,(AK ds t s).1.length=ps.length/\Cj ds (AK ds t s).1 ps=true:=λt ht he s=>by
  rw [Fr ht,he];exact ⟨rfl,by simp [Cj]⟩
 simp only [Dz] at hb;simp only [JH] at h;by_cases h5:f=5
 ·subst h5;rw [if_pos (.inr rfl)] at hb;simp only [Bool.and_eq_true,beq_iff_eq] at hb;have he:ps=[]:=List.eq_nil_of_length_eq_zero (by omega);have hso:so=3:=by simpa using h
  subst hso;have:=hz (.mk 3 m y qs) (by simp [AC]) he (C4 (AN (.mk 5 n x ps)));exact ⟨.inl (by simp [AN,A0]),this.1,this.2,hps⟩
 by_cases h3:f=3
 ·subst h3;rw [if_neg (by decide),if_neg (by decide),if_pos rfl] at hb;simp only [Bool.and_eq_true,beq_iff_eq,EJ,decide_eq_true_eq] at hb;have he:ps=[]:=List.eq_nil_of_length_eq_zero (by omega);have hso:so=1:=by simpa using h
  subst hso;have:=hz (.mk 1 m y qs) (by simp [AC]) he (C4 (AN (.mk 3 n x ps)));exact ⟨.inr ⟨rfl,n,by simp [AN],hb.2⟩,this.1,this.2,hps⟩
 by_cases h4:f=4
 ·subst h4;rw [if_neg (by decide),if_neg (by decide),if_neg (by decide),if_pos rfl] at hb;simp only [Bool.and_eq_true,beq_iff_eq,EJ,decide_eq_true_eq] at hb;have he:ps=[]:=List.eq_nil_of_length_eq_zero (by omega);have hso:so=2:=by simpa using h
  subst hso;have:=hz (.mk 2 m y qs) (by simp [AC]) he (C4 (AN (.mk 4 n x ps)));have hn:n=0\/n=1:=by omega
  exact ⟨.inl (by rcases hn with rfl | rfl <;> simp [AN,A0]),this.1,this.2,hps⟩
 have h6:f=6:=by
  have h1:f≠1:=λe=>h12 (.inl e);have h2:f≠2:=λe=>h12 (.inr e);rw [if_neg (by omega),if_neg (by omega),if_neg (by omega),if_neg (by omega)] at hb;by_cases e:f=6
  ·exact e
  ·rw [if_neg e] at hb;cases hb
 subst h6;rw [if_neg (by decide),if_neg (by decide),if_neg (by decide),if_pos rfl] at h;simp only [Bool.and_eq_true,decide_eq_true_eq] at h;have ht:AN (.mk 6 n x ps) = .mk 4 0 x []:=rfl;rw [ht];refine ⟨.inl ?_,h.1,h.2.2,hps⟩;have hc:0<=(B8 ds (.mk so m y qs) x).2:=by
  have:=h.2.1;simp only [AK] at this;by_cases e:0<=(B8 ds (.mk so m y qs) x).2
  ·exact e
  ·simp [e] at this
 have h8:so=8:=by
  by_cases e:so=8
  ·exact e
  ·simp [B8,e] at hc
 subst h8;obtain ⟨_,d,hd⟩:=C5 hn 8 m y qs rfl rfl;simp only [B8,if_true,hd] at hc;obtain ⟨c1,c2⟩:=HZ hc;rw [show A0 ds (.mk 8 m y qs)=(match ds[(AQ y 0 ds).toNat]? with | some d=>d.cons.map λc=>Ty.mk 4 0 c.name [] | none=>[]) from rfl,hd];exact List.mem_map.2 ⟨_,c1,by rw [c2]⟩
theorem Og {ds:List Dt} (ho:OkW ds):∀(p:Ty) {N:Nat} {m:Mi},GU ds N m=true->DF ds m->Co ds m.ty p=true->BA p=true->iT ds p m=true
 | .mk f n x ps,N,m,hw,hc,h,hp=>by
  simp only [iT,Bool.or_eq_true,Bool.and_eq_true,decide_eq_true_eq,Bool.not_eq_true'];by_cases h12:f=1\/f=2
  ·rcases h12 with h1 | h2
   ·exact .inl (.inl (.inl (.inl h1)))
   ·exact .inl (.inl (.inl (.inr h2)))
  by_cases h0:AC (Af ds m).hd=0
  ·exact .inl (.inl (.inr h0))
  by_cases hE:A5 (Af ds m).hd (AN (.mk f n x ps))=false
  ·exact .inl (.inr hE)
  right;obtain ⟨k1,k2,k3,k4⟩:=L5 (Bf.1 hw).1.1 h hp h12;have hsc:=B4.1 (Dd hc);have hsw:=Bf.1 (Df ho hw);have htx:C4 (Af ds m).hd=C4 (AN (.mk f n x ps)):=by
   have:A5 (Af ds m).hd (AN (.mk f n x ps))=true:=by simpa using hE
   revert this;generalize (Af ds m).hd=a;generalize AN (.mk f n x ps)=b;obtain ⟨a1,a2,a3,a4⟩:=a;obtain ⟨b1,b2,b3,b4⟩:=b;simp only [A5,C4,Bool.and_eq_true,beq_iff_eq];exact λh=>h.2
  have hks:=(hsc.2.1 h0).2;rw [htx,Dy] at hks;have hl:ps.length=(Af ds m).ks.length:=by rw [<- k2,<- hks,List.length_map]
  refine ⟨by omega,?_⟩;have key:∀(qs:List Ty) (l:List Mi),(∀q∈qs,q∈ps)->(∀k∈l,GU ds N k=true/\DF ds k)->Cj ds (l.map Mi.ty) qs=true->B5 qs=true->S8 ds qs l=true:=by
   intro qs
   induction qs with
   | nil=>intro l _ _ _ _;simp [S8]
   | cons q r ih =>
    intro l hq hl h1 h2;cases l with
    | nil=>simp [S8]
    | cons k l =>
     simp only [List.map_cons,Cj,B5,Bool.and_eq_true,S8] at *;have:=List.sizeOf_lt_of_mem (hq q (by simp));exact ⟨Og ho q (hl k (by simp)).1 (hl k (by simp)).2 h1.1 h2.1,ih l (λy hy=>hq y (by simp [hy])) (λy hy=>hl y (by simp [hy])) h1.2 h2.2⟩
  exact key ps _ (λq hq=>hq) (λk hk=>⟨hsw.2.2 k hk,hsc.2.2 k hk⟩) (by rw [hks];exact k3) k4
termination_by p=>SizeOf.sizeOf p
decreasing_by
 simp_wf;omega
structure Ask (ds:List Dt) (N:Nat) (p:Ty) (m:Mi) (path:List Int) (h:Ty):Prop where
 ok:Jf ds m path
 prt:Bm h=[]
 wf:∀is,GU ds (N+1) (A7 ds m path h is)=true
 coh:∀is,DF ds (A7 ds m path h is)
 typ:∀is,(A7 ds m path h is).ty=m.ty
 hgt:∀is,GS (A7 ds m path h is)<=max (GS m) (path.length+2)
 less:∀is,Wj ds p (A7 ds m path h is)<Wj ds p m
 stl:∀is c,stl ds m c->stl ds (A7 ds m path h is) (A7 ds c path h is)
mutual
theorem SY {ds:List Dt} {N M:Nat} (h:N<=M):∀m:Mi,GU ds N m=true->GU ds M m=true
 | .mk ty nt hd ks,hw=>by
  simp only [GU,Bool.and_eq_true,decide_eq_true_eq] at hw ⊢;obtain ⟨⟨⟨⟨a,b⟩,c⟩,d⟩,e⟩:=hw;exact ⟨⟨⟨⟨a,b⟩,by omega⟩,d⟩,TX h ks e⟩
theorem TX {ds:List Dt} {N M:Nat} (h:N<=M):∀l:List Mi,Wm ds N l=true->Wm ds M l=true
 | [],_=>rfl
 | k::r,hw=>by
  simp only [Wm,Bool.and_eq_true] at hw ⊢;exact ⟨SY h k hw.1,TX h r hw.2⟩
end
theorem So {ds:List Dt}:∀{ps:List Ty} {l:List Mi} {i:Int},(AW ds i ps l).1=2->∃(j:Nat) (p:Ty) (k:Mi),ps[j]?=some p/\l[j]?=some k/\(Ax ds p k).1=2/\(AW ds i ps l).2.1=(i+j)::(Ax ds p k).2.1/\(AW ds i ps l).2.2=(Ax ds p k).2.2
 | [],l,i,h=>by simp [AW] at h
 | p::r,[],i,h=>by simp [AW] at h
 | p::r,k::ks,i,h=>by
  simp only [AW] at h ⊢;by_cases h1:(Ax ds p k).1=1
  ·rw [if_pos h1] at h;obtain ⟨j,q,m,a,b,c,d,e⟩:=So h;exact ⟨j+1,q,m,by simpa using a,by simpa using b,c,by rw [if_pos h1,d];congr 1;omega,by rw [if_pos h1,e]⟩
  ·rw [if_neg h1] at h;exact ⟨0,p,k,rfl,rfl,h,by rw [if_neg h1];simp,by rw [if_neg h1]⟩
theorem XG {ds:List Dt}:∀{ps:List Ty} {l:List Mi} {j:Nat} {p:Ty} {k k':Mi},ps[j]?=some p->l[j]?=some k->Wj ds p k'<Wj ds p k->Oz ds ps (l.set j k')<Oz ds ps l
 | [],l,j,p,k,k',h,_,_=>by simp at h
 | q::r,[],j,p,k,k',_,h,_=>by simp at h
 | q::r,a::l,0,p,k,k',h1,h2,h3=>by
  simp at h1 h2;subst h1;subst h2;simp only [List.set_cons_zero,Oz];omega
 | q::r,a::l,j+1,p,k,k',h1,h2,h3=>by
  have:=XG (ds:=ds) (by simpa using h1) (by simpa using h2) h3;simp only [List.set_cons_succ,Oz];omega
theorem Iw {α:Type} {l:List α} {j:Nat} {a x:α} (h:x∈l.set j a):x∈l\/x=a:=List.mem_or_eq_of_mem_set h
theorem Jc {ds:List Dt}:∀{l m:List Ty} {i:Nat} {a p:Ty},Cj ds l m=true->l[i]?=some a->m[i]?=some p->Co ds a p=true
 | [],_,i,a,p,_,ha,_=>by simp at ha
 | _::_,[],i,a,p,_,_,hp=>by simp at hp
 | x::l,y::m,0,a,p,h,ha,hp=>by simp only [Cj,Bool.and_eq_true] at h;simp at ha hp;subst ha;subst hp;exact h.1
 | x::l,y::m,i+1,a,p,h,ha,hp=>by simp only [Cj,Bool.and_eq_true] at h;exact Jc h.2 (by simpa using ha) (by simpa using hp)
theorem NK {l:List Ty} {i:Nat} {p:Ty} (h:B5 l=true) (hp:l[i]?=some p):BA p=true:=by
 induction l generalizing i with
 | nil=>simp at hp
 | cons a r ih =>
  simp only [B5,Bool.and_eq_true] at h;cases i with
  | zero=>simp at hp;subst hp;exact h.1
  | succ i=>exact ih h.2 (by simpa using hp)
theorem Js {a b:Ty} (h:A5 a b=true):C4 a=C4 b:=by
 obtain ⟨a1,a2,a3,a4⟩:=a;obtain ⟨b1,b2,b3,b4⟩:=b;simp only [A5,C4,Bool.and_eq_true,beq_iff_eq] at *;exact h.2
theorem Nq {ds:List Dt} (ho:OkW ds):∀(p:Ty) {N:Nat} {m:Mi},GU ds N m=true->DF ds m->Co ds m.ty p=true->BA p=true->(Ax ds p m).1=2->Ask ds N p m (Ax ds p m).2.1 (Ax ds p m).2.2
 | .mk f n x ps,N,m,hw,hc,hpt,hps,hl=>by
  have hwi:=Bf.1 hw;have hci:=B4.1 hc;by_cases h12:f=1\/f=2
  ·exfalso;simp only [Ax,if_pos h12] at hl;cases hl
  obtain ⟨k1,k2,k3,k4⟩:=L5 hwi.1.1 hpt hps h12;by_cases hA:AC (Af ds m).hd=0/\BD (Af ds m).nt (AN (.mk f n x ps))=false
  ·have e:Ax ds (.mk f n x ps) m=(2,[],AN (.mk f n x ps)):=by simp only [Ax,if_neg h12,if_pos hA]
   have hu:Wj ds (.mk f n x ps) m=1+Ag ps:=by simp only [Wj,if_neg h12,if_pos hA.1,hA.2];rfl
   rw [e];obtain ⟨hA1,hA2⟩:=hA;have hset:Af ds m=m:=by
    rcases CI (ds:=ds) m with h | ⟨hh,h,h1,h2⟩
    ·exact h
    ·rw [h2] at hA1;exact absurd hA1 (Bs (D1 h1).1).2
   rw [hset] at hA1 hA2;generalize hH:AN (.mk f n x ps)=h at *;have hfm:=OM k1;refine ⟨by simp [Jf],hfm.2,λis=>?_,λis=>?_,λis=>?_,λis=>?_,λis=>?_,λis c hs=>?_⟩
   ·cases is
    ·simp only [A7];exact Bf.2 ⟨⟨hwi.1.1,hwi.1.2.1,by simp [Mi.nt] at *;exact hwi.1.2.2⟩,hwi.2.1,λk hk=>SY (by omega) k (hwi.2.2 k hk)⟩
    ·simp only [A7];exact Le ho hwi.1.1 hwi.2.1.2 hfm.2
   ·cases is
    ·simp only [A7];exact B4.2 hci
    ·simp only [A7];exact Nm k1
   ·cases is <;> rfl
   ·cases is
    ·simp only [A7,FW,Mi.ks];omega
    ·simp only [A7];have:=Sz ds m h;omega
   ·rw [hu];cases is
    ·simp only [A7,Wj,if_neg h12,hH];rcases CI (ds:=ds) (.mk m.ty (m.nt++[h]) m.hd m.ks) with e | ⟨hh,y,y1,y2⟩
     ·rw [e];have hh0:AC (Mi.mk m.ty (m.nt++[h]) m.hd m.ks).hd=0:=hA1;rw [if_pos hh0,if_pos (by simp [Mi.nt,BD,Xj])];omega
     ·rw [y2];have hy:=D1 y1;rw [if_neg (show ¬AC (AX ds (.mk m.ty (m.nt++[h]) m.hd m.ks) y).hd=0 from (Bs hy.1).2)];have hne:A5 y h=false:=by
       have:A5 h y=false:=by
        have h2:=hy.2;simp only [BD,Mi.nt,List.any_append,List.any_cons,List.any_nil,Bool.or_false,Bool.or_eq_false_iff] at h2;exact h2.2
       rw [GC];exact this
      rw [if_pos (show A5 (AX ds (.mk m.ty (m.nt++[h]) m.hd m.ks) y).hd h=false from hne)];omega
    ·simp only [A7,Wj,if_neg h12,hH];rw [C1 (show AC (AX ds m h).hd≠0 from hfm.1),if_neg (show ¬AC (AX ds m h).hd=0 from hfm.1)];have:=Wn ds ps (AX ds m h).ks
     split <;> omega
   ·have hty:=lC hs;cases is
    ·simp only [A7];obtain ⟨s,s1,s2,s3,s4,s5⟩:=GX.1 hs;have:s=m:=by rcases s1 with rfl | rfl;rfl;exact hset
     subst this;exact GX.2 ⟨_,.inl rfl,s2,by show s.nt++[h]=c.nt++[h];rw [s3],s4,s5⟩
    ·simp only [A7];rw [UZ hty];exact Ev ds _
  ·have hB:AC (Af ds m).hd≠0/\A5 (Af ds m).hd (AN (.mk f n x ps))=true/\Ax ds (.mk f n x ps) m=AW ds 0 ps (Af ds m).ks:=by
    simp only [Ax,if_neg h12,if_neg hA] at hl ⊢;by_cases hC:AC (Af ds m).hd=0\/A5 (Af ds m).hd (AN (.mk f n x ps))=false
    ·rw [if_pos hC] at hl;cases hl
    ·rw [if_neg hC];exact ⟨λh=>hC (.inl h),by cases hb:A5 (Af ds m).hd (AN (.mk f n x ps)) with | true=>rfl | false=>exact absurd (.inr hb) hC,rfl⟩
   obtain ⟨hB1,hB2,hB3⟩:=hB;rw [hB3] at hl ⊢;obtain ⟨j,q,k,j1,j2,j3,j4,j5⟩:=So hl;rw [j4,j5,Int.zero_add];have hsw:=Df ho hw;have hswi:=Bf.1 hsw;have hsc:=Dd (ds:=ds) hc;have hsci:=B4.1 hsc;have hkm:=List.mem_of_getElem? j2;have hks:=(hsci.2.1 hB1).2;rw [Js hB2,Dy] at hks;have hkt:(AK ds m.ty (C4 (AN (.mk f n x ps)))).1[j]?=some k.ty:=by rw [<- hks];simp [j2]
   have:=List.sizeOf_lt_of_mem (List.mem_of_getElem? j1);have A:=Nq ho q (hswi.2.2 k hkm) (hsci.2.2 k hkm) (Jc k3 hkt j1) (NK k4 j1) j3;generalize (Ax ds q k).2.1=path at *;generalize (Ax ds q k).2.2=h at *;have eS:∀is,A7 ds m ((j:Int)::path) h is = .mk (Af ds m).ty (Af ds m).nt (Af ds m).hd ((Af ds m).ks.set j (A7 ds k path h is)):=λis=>by
    simp only [A7,Int.toNat_natCast,j2]
   have hjl:=(List.getElem?_eq_some_iff.1 j2).1;refine ⟨⟨by omega,k,by simpa using j2,A.ok⟩,A.prt,λis=>?_,λis=>?_,λis=>?_,λis=>?_,λis=>?_,λis c hs=>?_⟩
   ·rw [eS];refine Bf.2 ⟨⟨hswi.1.1,by simpa [Mi.ks] using hswi.1.2.1,by have:=hswi.1.2.2;show (Af ds m).nt.length<=N+1;omega⟩,hswi.2.1,λy hy=>?_⟩;rcases Iw hy with hy | rfl
    ·exact SY (by omega) y (hswi.2.2 y hy)
    ·exact A.wf is
   ·rw [eS];refine B4.2 ⟨λh0=>absurd h0 hB1,λ_=>⟨(hsci.2.1 hB1).1,?_⟩,λy hy=>?_⟩
    ·show ((Af ds m).ks.set j (A7 ds k path h is)).map Mi.ty=(AK ds (Af ds m).ty (C4 (Af ds m).hd)).1;rw [<- (hsci.2.1 hB1).2];simp only [List.map_set,A.typ];apply List.ext_getElem?;intro i;rw [List.getElem?_set]
     split
     ·rename_i e;subst e;rw [if_pos (by simpa using hjl)];simp [j2]
     ·rfl
    ·rcases Iw hy with hy | rfl
     ·exact hsci.2.2 y hy
     ·exact A.coh is
   ·rw [eS];exact Dy ds m
   ·rw [eS,FW];have h1:=Oa ds m;have h2:FO ((Af ds m).ks.set j (A7 ds k path h is))<=max (GS m) (path.length+3)-1:=Qs.2 λy hy=>by
     rcases Iw hy with hy | rfl
     ·have:=LK hy;omega
     ·have:=A.hgt is;have:=LK hkm;omega
    simp only [Mi.ks,List.length_cons] at *;omega
   ·rw [eS];have e1:Wj ds (.mk f n x ps) m=Oz ds ps (Af ds m).ks:=by
     simp only [Wj,if_neg h12,if_neg hB1,hB2];rfl
    have hB2':A5 (Mi.mk (Af ds m).ty (Af ds m).nt (Af ds m).hd ((Af ds m).ks.set j (A7 ds k path h is))).hd (AN (.mk f n x ps))=true:=hB2;have e2:Wj ds (.mk f n x ps) (.mk (Af ds m).ty (Af ds m).nt (Af ds m).hd ((Af ds m).ks.set j (A7 ds k path h is)))=Oz ds ps ((Af ds m).ks.set j (A7 ds k path h is)):=by
     simp only [Wj,if_neg h12];rw [C1 (show AC (Mi.mk (Af ds m).ty (Af ds m).nt (Af ds m).hd ((Af ds m).ks.set j (A7 ds k path h is))).hd≠0 from hB1),if_neg (show ¬AC (Mi.mk (Af ds m).ty (Af ds m).nt (Af ds m).hd ((Af ds m).ks.set j (A7 ds k path h is))).hd=0 from hB1),hB2'];rfl
    rw [e1,e2];exact XG j1 j2 (A.less is)
   ·obtain ⟨t1,t2,t3,t4⟩:=IW hc hs;obtain ⟨u1,u2⟩:=Gv.1 t4;obtain ⟨kc,hkc⟩:∃kc,(Af ds c).ks[j]?=some kc:=⟨_,List.getElem?_eq_getElem (by omega)⟩
    have eC:A7 ds c ((j:Int)::path) h is = .mk (Af ds c).ty (Af ds c).nt (Af ds c).hd ((Af ds c).ks.set j (A7 ds kc path h is)):=by
     simp only [A7,Int.toNat_natCast,hkc]
    rw [eS,eC];refine GX.2 ⟨_,.inl rfl,t1,t2,t3,Gv.2 ⟨by simpa [Mi.ks] using u1,λi a b ha hb=>?_⟩⟩;change ((Af ds m).ks.set j (A7 ds k path h is))[i]?=some a at ha;change ((Af ds c).ks.set j (A7 ds kc path h is))[i]?=some b at hb;rw [List.getElem?_set] at ha hb;by_cases e:j=i
    ·subst e;rw [if_pos rfl,if_pos hjl] at ha;rw [if_pos rfl,if_pos (by omega)] at hb;cases ha;cases hb;exact A.stl is kc (u2 j k kc j2 hkc)
    ·rw [if_neg e] at ha hb;exact u2 i a b ha hb
termination_by p=>SizeOf.sizeOf p
decreasing_by
 simp_wf;omega
def H1 (ds:List Dt) (t:Ty) (l:List (Ty×Int)):Prop:=∀x∈l,Co ds t x.1=true/\BA x.1=true/\Ai x.1<=12
def EF (l:List (Ty×Int)):Nat:=(l.map λx=>Ai x.1+1).sum
def IJ (ds:List Dt) (m:Mi):List (Ty×Int)->Nat
 | []=>0
 | (p,_)::r=>Wj ds p m+1+EF r
theorem Jm (ds:List Dt) (m:Mi) (l:List (Ty×Int)):IJ ds m l<=EF l:=by
 cases l with
 | nil=>simp [IJ,EF]
 | cons x r =>
  obtain ⟨p,b⟩:=x;have:=jQ ds p m;simp only [IJ,EF,List.map_cons,List.sum_cons];omega
def N3 (ds:List Dt) (t:Ty) (v:Ty):Prop:=II ds t v=true/\Do v=true/\Ai v<=1000000000000
theorem Td {ds:List Dt} (a b:Option Ty):GZ ds a b=a\/GZ ds a b=b:=by
 cases a with
 | none=>exact .inr rfl
 | some a =>
  cases b with
  | none=>exact .inl rfl
  | some b=>simp only [GZ];split <;> simp
structure MOk (ds:List Dt) (t:Ty) (N:Nat) (m:Mi):Prop where
 wf:GU ds N m=true
 coh:DF ds m
 typ:m.ty=t
 hgt:GS m<=14
theorem MOk.split {ds:List Dt} (ho:OkW ds) {t:Ty} {N:Nat} {m:Mi} (h:MOk ds t N m) {p:Ty} (h1:Co ds t p=true) (h2:BA p=true) (h3:Ai p<=12) (hl:(Ax ds p m).1=2) (is:Bool):MOk ds t (N+1) (A7 ds m (Ax ds p m).2.1 (Ax ds p m).2.2 is):=by
 have A:=Nq ho p h.wf h.coh (by rw [h.typ];exact h1) h2 hl;have hp:=Qc ds p m;exact ⟨A.wf is,A.coh is,by rw [A.typ,h.typ],by have:=A.hgt is;have:=h.hgt;omega⟩
theorem MOk.least {ds:List Dt} (ho:OkW ds) {t:Ty} {N:Nat} (hN:N<=1000000) {m:Mi} (h:MOk ds t N m):∃r,dY ds m=some r/\∀v,r=some v->N3 ds t v:=by
 obtain ⟨r,r1,r2⟩:=Z6 ho hN 14 m h.wf h.coh h.hgt 1000 (by omega);refine ⟨r,r1,λv hv=>?_⟩;obtain ⟨a,b,c⟩:=r2 v hv;exact ⟨by rw [<- h.typ];exact b,c,by omega⟩
theorem Ig {ds:List Dt} (ho:OkW ds) (t:Ty):∀(f N:Nat) (m:Mi) (l:List (Ty×Int)),N+f<=1000000->MOk ds t N m->H1 ds t l->IJ ds m l<f->∃r,Ci ds f m l=some r/\∀v,r=some v->N3 ds t v:=by
 intro f
 induction f with
 | zero=>intro N m l _ _ _ h;omega
 | succ f ih =>
  intro N m l hN hm hr hf;cases l with
  | nil=>exact hm.least ho (by omega)
  | cons x r =>
   obtain ⟨p,b⟩:=x;obtain ⟨h1,h2,h3⟩:=hr (p,b) (by simp);simp only [IJ] at hf;simp only [Ci];by_cases hl:(Ax ds p m).1=2
   ·rw [if_pos hl];have A:=Nq ho p hm.wf hm.coh (by rw [hm.typ];exact h1) h2 hl;obtain ⟨x,x1,x2⟩:=ih (N+1) _ ((p,b)::r) (by omega) (hm.split ho h1 h2 h3 hl true) hr (by have:=A.less true;simp only [IJ];omega);obtain ⟨y,y1,y2⟩:=ih (N+1) _ ((p,b)::r) (by omega) (hm.split ho h1 h2 h3 hl false) hr (by have:=A.less false;simp only [IJ];omega);rw [x1,y1];refine ⟨GZ ds x y,rfl,λv hv=>?_⟩;rcases Td (ds:=ds) x y with e | e
    ·exact x2 v (by rw [<- e];exact hv)
    ·exact y2 v (by rw [<- e];exact hv)
   ·rw [if_neg hl]
    split
    ·exact ih N m r (by omega) hm (λx hx=>hr x (by simp [hx])) (by have:=Jm ds m r;omega)
    ·exact ⟨none,rfl,λv hv=>by cases hv⟩
theorem PM {c:Cse} {t v:Ty} (ht:c.type=t) (h:N3 c.datas t v):Yd c v:=by subst ht;exact ⟨h.1,h.2.1,by have:=h.2.2;omega⟩
end Go.Hk
namespace Go.Hk
section
variable {P:Program} {n:Nat} {F:List Nat} {Q:DQ} {tt:TT} {env env':Env} {st st':St} {ids ids':List Nat} {k todo todo':List DI} {I:Imm} {μ:Mu} {w:World} {a:Act} {Pn:V->Prop} {d:D} {cx:Prop} {ob:List Prop}
end
end Go.Hk
namespace Go.Hk
open Go.Proofs
def FT (ds:List Dt) (m:Mi) (l:List (Ty×Int)):Option Ty:=(Ci ds 60 m l).getD none
theorem K7 {ds:List Dt} (ho:OkW ds) {t:Ty} {N:Nat} {m:Mi} {l:List (Ty×Int)} (hN:N<=999000) (hm:MOk ds t N m) (hr:H1 ds t l) (hc:EF l<60):Ci ds 60 m l=some (FT ds m l)/\∀v,FT ds m l=some v->N3 ds t v:=by
 obtain ⟨r,r1,r2⟩:=Ig ho t 60 N m l (by omega) hm hr (by have:=Jm ds m l;omega);have e:FT ds m l=r:=by simp only [FT,r1,Option.getD_some]
 rw [e];exact ⟨r1,r2⟩
def Gn (rows:List Ty) (row:Int):List (Ty×Int):=if row<0 then rows.map (·,(0:Int)) else (rows.take row.toNat).map (·,(0:Int))++(match rows[row.toNat]? with
 | some p=>[(p,1)]
 | none=>[])
def GR (c:Cse) (m:Mi) (row:Int):Option Ty:=FT c.datas m (Gn c.rows row)
structure RowsOk (c:Cse):Prop where
 pat:∀p∈c.rows,Co c.datas c.type p=true/\BA p=true/\Ai p<=12
 len:c.rows.length<=5
 sum:Ag c.rows<=30
theorem TD (a b:List (Ty×Int)):EF (a++b)=EF a+EF b:=by simp [EF]
theorem SJ (l:List Ty) (b:Int):EF (l.map (·,b))=Ag l+l.length:=by
 induction l with
 | nil=>rfl
 | cons p r ih=>simp only [List.map_cons,EF,List.sum_cons,Ag,List.length_cons] at *;omega
theorem gM {c:Cse} (h:RowsOk c) (row:Int):H1 c.datas c.type (Gn c.rows row)/\EF (Gn c.rows row)<60:=by
 have hl:=h.len;have hs:=h.sum;unfold Gn
 split
 ·refine ⟨λx hx=>?_,by rw [SJ];omega⟩;obtain ⟨p,hp,rfl⟩:=List.mem_map.1 hx;exact h.pat p hp
 ·constructor
  ·intro x hx;rcases List.mem_append.1 hx with hx | hx
   ·obtain ⟨p,hp,rfl⟩:=List.mem_map.1 hx;exact h.pat p (List.mem_of_mem_take hp)
   ·split at hx
    ·rename_i p hp;rw [List.mem_singleton.1 hx];exact h.pat p (List.mem_of_getElem? hp)
    ·cases hx
  ·rw [TD,SJ];have h1:Ag (c.rows.take row.toNat)<=30:=by
    have e:=Bj (c.rows.take row.toNat) (c.rows.drop row.toNat);rw [List.take_append_drop] at e;omega
   have h2:(c.rows.take row.toNat).length<=5:=by rw [List.length_take];omega
   have h3:EF (match c.rows[row.toNat]? with | some p=>[(p,1)] | none=>[])<=13:=by
    split
    ·rename_i p hp;have:=(h.pat p (List.mem_of_getElem? hp)).2.2;simp [EF];omega
    ·simp [EF]
   omega
def IM (c:Cse) (p q:Ty):Option Ty:=FT c.datas (Aq c.type) [(p,1),(q,1)]
def Eu (c:Cse):Nat->List Int
 | 0=>[]
 | i+1=>Eu c i++(if (GR c (Aq c.type) i).isSome then [] else [(i:Int)])
theorem N4 (c:Cse):∀i,(Eu c i).length<=i
 | 0=>Nat.le_refl _
 | i+1=>by
  have:=N4 c i;simp only [Eu,List.length_append]
  split <;> simp <;> omega
mutual
theorem Ut {ds:List Dt} (ho:OkW ds) {N:Nat}:∀(p:Ty) {m:Mi},GU ds N m=true->DF ds m->GU ds N (Ey ds p m)=true/\DF ds (Ey ds p m)/\(Ey ds p m).ty=m.ty/\GS (Ey ds p m)<=max (GS m) (Ai p+2)
 | .mk f n x ps,m,hw,hc=>by
  have hsw:=Df ho hw;have hsc:=Dd (ds:=ds) hc;have hsh:=Oa ds m;have hst:=Dy ds m;simp only [Ey,Ai]
  split
  ·exact ⟨hw,hc,rfl,by omega⟩
  ·split
   ·exact ⟨hsw,hsc,hst,by omega⟩
   ·rename_i h1 h2;generalize Af ds m=s at *;obtain ⟨ty,nt,hd,ks⟩:=s;obtain ⟨a1,a2,a3⟩:=RO ho ps (l:=ks) (λk hk=>⟨(Bf.1 hsw).2.2 k hk,(B4.1 hsc).2.2 k hk⟩);have hlen:(CT ds ps ks).length=ks.length:=by simpa using congrArg List.length a2
    have w:=Bf.1 hsw;have cc:=B4.1 hsc;rw [FW] at hsh;simp only [Mi.ty,Mi.nt,Mi.hd,Mi.ks] at w cc hsh hst h2 ⊢;refine ⟨Bf.2 ⟨⟨w.1.1,by show (CT ds ps ks).length<=3;rw [hlen];exact w.1.2.1,w.1.2.2⟩,w.2.1,λk hk=>(a1 k hk).1⟩,B4.2 ⟨λh=>absurd (.inl h) h2,λh=>⟨(cc.2.1 h).1,by show (CT ds ps ks).map Mi.ty=_;rw [a2];exact (cc.2.1 h).2⟩,λk hk=>(a1 k hk).2⟩,hst,?_⟩;rw [FW];simp only [Mi.ks];omega
theorem RO {ds:List Dt} (ho:OkW ds) {N:Nat}:∀(ps:List Ty) {l:List Mi},(∀k∈l,GU ds N k=true/\DF ds k)->(∀k∈CT ds ps l,GU ds N k=true/\DF ds k)/\(CT ds ps l).map Mi.ty=l.map Mi.ty/\FO (CT ds ps l)<=max (FO l) (Ag ps+2)
 | [],l,h=>⟨by simpa only [CT] using h,by simp only [CT],by simp only [CT];omega⟩
 | p::r,[],h=>⟨by simpa only [CT] using h,by simp only [CT],by simp [CT,FO]⟩
 | p::r,k::ks,h=>by
  obtain ⟨b1,b2,b3,b4⟩:=Ut ho p (h k (by simp)).1 (h k (by simp)).2;obtain ⟨c1,c2,c3⟩:=RO ho r (l:=ks) (λy hy=>h y (by simp [hy]));simp only [CT]
  split
  ·refine ⟨λy hy=>?_,by simp only [List.map_cons,b3,c2],by simp only [FO,Ag];omega⟩;rcases List.mem_cons.1 hy with rfl | hy
   ·exact ⟨b1,b2⟩
   ·exact c1 y hy
  ·refine ⟨λy hy=>?_,by simp only [List.map_cons,b3],by simp only [FO,Ag];omega⟩;rcases List.mem_cons.1 hy with rfl | hy
   ·exact ⟨b1,b2⟩
   ·exact h y (by simp [hy])
end
mutual
theorem KI (ds:List Dt):∀(p:Ty) (m:Mi),(Ax ds p m).1=0\/(Ax ds p m).1=1\/(Ax ds p m).1=2
 | .mk f n x ps,m=>by
  have h:=NS ds ps (Af ds m).ks 0;simp only [Ax]
  split
  ·exact .inr (.inl rfl)
  ·split
   ·exact .inr (.inr rfl)
   ·split
    ·exact .inl rfl
    ·exact h
theorem NS (ds:List Dt):∀(ps:List Ty) (l:List Mi) (i:Int),(AW ds i ps l).1=0\/(AW ds i ps l).1=1\/(AW ds i ps l).1=2
 | [],l,i=>.inr (.inl (by simp only [AW]))
 | p::r,[],i=>.inr (.inl (by simp only [AW]))
 | p::r,k::ks,i=>by
  have h1:=KI ds p k;have h2:=NS ds r ks (i+1);simp only [AW]
  split
  ·exact h2
  ·exact h1
end
theorem MOk.see {ds:List Dt} (ho:OkW ds) {t:Ty} {N:Nat} {m:Mi} (h:MOk ds t N m) {p:Ty} (hp:Ai p<=12):MOk ds t N (Ey ds p m):=by
 obtain ⟨a,b,c,d⟩:=Ut ho p h.wf h.coh;have:=h.hgt;exact ⟨a,b,by rw [c,h.typ],by omega⟩
def Ld (x:Ty×Int):V:=.iface (if x.2=1 then 124 else 182) (.agg (dTyc x.1))
def Cg (l:List (Ty×Int)):List (List V):=l.map λx=>[Ld x]
@[simp] theorem wishVs_length (l:List (Ty×Int)):(Cg l).length=l.length:=by simp [Cg]
theorem Rf (a b:List (Ty×Int)):Cg (a++b)=Cg a++Cg b:=by simp [Cg]
theorem Wk {l:List (Ty×Int)} {i:Nat} {x:Ty×Int} (h:l[i]?=some x):(Cg l)[i]?=some [Ld x]:=by simp [Cg,h]
theorem TU (l:List (Ty×Int)) (i:Nat):(Cg l).drop i=Cg (l.drop i):=by simp [Cg,List.map_drop]
def HJ (ds:List Dt) (t v:Ty):Prop:=II ds t v=true/\CK v=true
mutual
def KL (ds:List Dt):Mi->Ty->Prop
 | .mk ty nt hd ks,v=>HJ ds ty v/\(AC hd=0->BD nt v=false)/\(AC hd≠0->A5 hd v=true/\Ed ds ks (Bm v))
def Ed (ds:List Dt):List Mi->List Ty->Prop
 | [],vs=>vs=[]
 | _::_,[]=>False
 | k::r,v::vs=>KL ds k v/\Ed ds r vs
end
theorem B7 {ds:List Dt} {m:Mi} {v:Ty}:KL ds m v↔HJ ds m.ty v/\(AC m.hd=0->BD m.nt v=false)/\(AC m.hd≠0->A5 m.hd v=true/\Ed ds m.ks (Bm v)):=by
 obtain ⟨a,b,c,d⟩:=m;simp only [KL,Mi.ty,Mi.nt,Mi.hd,Mi.ks]
theorem HS {ds:List Dt}:∀{ks:List Mi} {vs:List Ty},Ed ds ks vs↔ks.length=vs.length/\∀(i:Nat) k v,ks[i]?=some k->vs[i]?=some v->KL ds k v
 | [],vs=>by
  simp only [Ed,List.length_nil];constructor
  ·rintro rfl;exact ⟨rfl,λi k v h=>by simp at h⟩
  ·rintro ⟨h,_⟩;exact List.eq_nil_of_length_eq_zero h.symm
 | _::_,[]=>by simp [Ed]
 | k::r,v::vs=>by
  simp only [Ed,HS (ks:=r) (vs:=vs),List.length_cons,Nat.add_right_cancel_iff];constructor
  ·rintro ⟨h1,h2,h3⟩;refine ⟨h2,λi a b ha hb=>?_⟩;cases i with
   | zero=>simp at ha hb;subst ha;subst hb;exact h1
   | succ i=>exact h3 i a b (by simpa using ha) (by simpa using hb)
  ·rintro ⟨h1,h2⟩;exact ⟨h2 0 k v rfl rfl,h1,λi a b ha hb=>h2 (i+1) a b (by simpa using ha) (by simpa using hb)⟩
theorem Jt {a b c:Ty} (h1:A5 a b=true):A5 a c=A5 b c:=by
 obtain ⟨a1,a2,a3,a4⟩:=a;obtain ⟨b1,b2,b3,b4⟩:=b;obtain ⟨c1,c2,c3,c4⟩:=c;simp only [A5,Bool.and_eq_true,beq_iff_eq] at h1;obtain ⟨⟨rfl,rfl⟩,rfl⟩:=h1;rfl
theorem Gl {nt:List Ty} {a b:Ty} (h:A5 a b=true):BD nt a=BD nt b:=by
 simp only [BD];congr 1;funext x;rw [GC x a,GC x b,Jt h]
theorem Ji:∀l:List Ty,Cx l=l.all CK
 | []=>rfl
 | t::r=>by simp [Cx,Ji r]
theorem PO {ds:List Dt}:∀{l vs:List Ty},l.length=vs.length->(GQ ds l vs=true↔∀(i:Nat) a v,l[i]?=some a->vs[i]?=some v->II ds a v=true)
 | [],[],_=>by simp [GQ]
 | a::r,v::vs,h=>by
  simp only [GQ,Bool.and_eq_true,PO (l:=r) (vs:=vs) (by simpa using h)];constructor
  ·rintro ⟨h1,h2⟩ i x y hx hy;cases i with
   | zero=>simp at hx hy;subst hx;subst hy;exact h1
   | succ i=>exact h2 i x y (by simpa using hx) (by simpa using hy)
  ·intro h;exact ⟨h 0 a v rfl rfl,λi x y hx hy=>h (i+1) x y (by simpa using hx) (by simpa using hy)⟩
 | [],_::_,h=>by simp at h
 | _::_,[],h=>by simp at h
theorem LJ {ds:List Dt} {t v:Ty}:KL ds (Aq t) v↔HJ ds t v:=by
 rw [B7];exact ⟨λh=>h.1,λh=>⟨h,λ_=>rfl,λh=>absurd rfl h⟩⟩
theorem ZN {ds:List Dt} {l vs:List Ty}:Ed ds (l.map Aq) vs↔l.length=vs.length/\∀(i:Nat) a v,l[i]?=some a->vs[i]?=some v->HJ ds a v:=by
 rw [HS,List.length_map];constructor
 ·rintro ⟨h1,h2⟩;exact ⟨h1,λi a v ha hv=>LJ.1 (h2 i _ v (by simp [ha]) hv)⟩
 ·rintro ⟨h1,h2⟩;refine ⟨h1,λi k v hk hv=>?_⟩;simp only [List.getElem?_map,Option.map_eq_some_iff] at hk;obtain ⟨a,ha,rfl⟩:=hk;exact LJ.2 (h2 i a v ha hv)
theorem EZ {ds:List Dt} {t v:Ty} (h:HJ ds t v):(AK ds t (C4 v)).1.length=(Bm v).length/\∀(i:Nat) a u,(AK ds t (C4 v)).1[i]?=some a->(Bm v)[i]?=some u->HJ ds a u:=by
 obtain ⟨so,m,x,qs⟩:=t;obtain ⟨f,n,y,ps⟩:=v;obtain ⟨h1,h2⟩:=h;rw [Io] at h1;simp only [CK,Bool.and_eq_true,Ji,List.all_eq_true] at h2;obtain ⟨h2,h3⟩:=h2;simp only [KB] at h1;simp only [C4,Bm];have hz:so≠8->ps=[]:=λh8=>by
  have hf:f≠4:=by
   intro e;subst e
   repeat' (split at h1)
   all_goals first | (simp at h1;done) | (exact absurd (by assumption) h8)
  simp only [FN] at h3
  repeat' (split at h3)
  all_goals first | (exact absurd (by assumption) hf) | (simp only [Bool.and_eq_true,beq_iff_eq] at h3;exact List.eq_nil_of_length_eq_zero (by omega)) | cases h3
 by_cases h8:so=8
 ·subst h8;rw [if_neg (by decide),if_neg (by decide),if_neg (by decide),if_pos rfl] at h1;simp only [Bool.and_eq_true,decide_eq_true_eq] at h1;obtain ⟨_,h4,_,h5⟩:=h1;exact ⟨h4,λi a u ha hu=>⟨(PO h4).1 h5 i a u ha hu,h2 u (List.mem_of_getElem? hu)⟩⟩
 ·rw [Fr (t:=.mk so m x qs) h8,hz h8];exact ⟨rfl,λi a u ha=>by simp at ha⟩
theorem ZP {h v:Ty} (e:A5 h v=true):C4 h=C4 v:=Js e
theorem Jp {ds:List Dt} {m:Mi} {h v:Ty} (hh:AC h≠0):KL ds (AX ds m h) v↔HJ ds m.ty v/\A5 h v=true:=by
 rw [B7];constructor
 ·rintro ⟨h1,_,h2⟩;exact ⟨h1,(h2 hh).1⟩
 ·rintro ⟨h1,h2⟩;refine ⟨h1,λe=>absurd e hh,λ_=>⟨h2,?_⟩⟩;show Ed ds ((AK ds m.ty (C4 h)).1.map Aq) _;rw [ZN,ZP h2];exact EZ h1
theorem PN {ds:List Dt} {t v:Ty} (hn:AB ds t=true) (h:HJ ds t v) (hs:AC t=2\/AC t=3\/AC t=8):∃x,x∈A0 ds t/\A5 x v=true:=by
 obtain ⟨so,m,x,qs⟩:=t;obtain ⟨f,n,y,ps⟩:=v;obtain ⟨h1,h2⟩:=h;rw [Io] at h1;simp only [CK,Bool.and_eq_true] at h2;obtain ⟨_,h3⟩:=h2;simp only [AC] at hs;simp only [KB] at h1;simp only [FN] at h3;rcases hs with rfl | rfl | rfl
 ·have hf:f=2:=by simpa using h1
  subst hf;rw [if_neg (by decide),if_pos rfl] at h3;simp only [Bool.and_eq_true,beq_iff_eq,EJ,decide_eq_true_eq] at h3;obtain ⟨⟨h3,rfl⟩,_⟩:=h3;have:n=0\/n=1:=by omega
  rcases this with rfl | rfl
  ·exact ⟨.mk 2 0 [] [],by simp [A0],by simp [A5]⟩
  ·exact ⟨.mk 2 1 [] [],by simp [A0],by simp [A5]⟩
 ·have hf:f=3:=by simpa using h1
  subst hf;rw [if_neg (by decide),if_neg (by decide),if_pos (.inl rfl)] at h3;simp only [Bool.and_eq_true,beq_iff_eq] at h3;obtain ⟨⟨rfl,rfl⟩,_⟩:=h3;exact ⟨.mk 3 0 [] [],by simp [A0],by simp [A5]⟩
 ·rw [if_neg (by decide),if_neg (by decide),if_neg (by decide),if_pos rfl] at h1;simp only [Bool.and_eq_true,decide_eq_true_eq] at h1;obtain ⟨rfl,_,h4,_⟩:=h1;rw [if_neg (by decide),if_neg (by decide),if_neg (by decide),if_pos rfl] at h3;simp only [Bool.and_eq_true,beq_iff_eq] at h3;obtain ⟨⟨rfl,_⟩,_⟩:=h3;have hc:0<=(B8 ds (.mk 8 m x qs) y).2:=by
   simp only [AK] at h4;by_cases e:0<=(B8 ds (.mk 8 m x qs) y).2
   ·exact e
   ·simp [e] at h4
  obtain ⟨_,d,hd⟩:=C5 hn 8 m x qs rfl rfl;simp only [B8,if_true,hd] at hc;obtain ⟨c1,c2⟩:=HZ hc;refine ⟨.mk 4 0 y [],?_,by simp [A5]⟩;rw [show A0 ds (.mk 8 m x qs)=(match ds[(AQ x 0 ds).toNat]? with | some d=>d.cons.map λc=>Ty.mk 4 0 c.name [] | none=>[]) from rfl,hd];exact List.mem_map.2 ⟨_,c1,by rw [c2]⟩
theorem Qt {ds:List Dt} {t h:Ty} (hh:h∈A0 ds t):AC t=2\/AC t=3\/AC t=8:=by
 obtain ⟨so,n,x,ps⟩:=t;simp only [A0,AC] at *
 split at hh
 ·exact .inl (by assumption)
 ·split at hh
  ·exact .inr (.inl (by assumption))
  ·split at hh
   ·exact .inr (.inr (by assumption))
   ·cases hh
theorem dW {ds:List Dt} {m:Mi} {h:Ty}:h∈Hl ds m↔h∈A0 ds m.ty/\BD m.nt h=false:=by
 simp only [Hl,List.mem_filter,Bool.not_eq_true']
theorem KK {ds:List Dt} {m:Mi} {v:Ty} (hn:AB ds m.ty=true):KL ds (Af ds m) v↔KL ds m v:=by
 rcases CI (ds:=ds) m with h | ⟨hh,h,h1,h2⟩
 ·rw [h]
 ·rw [h2,Jp (Bs (D1 h1).1).2,B7];have hl:=D1 h1;constructor
  ·rintro ⟨a,b⟩;exact ⟨a,λ_=>by rw [<- Gl b];exact hl.2,λe=>absurd hh e⟩
  ·rintro ⟨a,b,_⟩;refine ⟨a,?_⟩;obtain ⟨x,x1,x2⟩:=PN hn a (Qt hl.1);have:x∈Hl ds m:=dW.2 ⟨x1,by rw [Gl x2];exact b hh⟩;rw [h1,List.mem_singleton] at this;rw [<- this];exact x2
mutual
def Yi (ds:List Dt):Mi->Prop
 | .mk ty nt _ ks=>(∀h∈nt,MJ ds ty h)/\dN ds ks
def dN (ds:List Dt):List Mi->Prop
 | []=>True
 | k::r=>Yi ds k/\dN ds r
end
theorem UI (ds:List Dt):∀l:List Mi,dN ds l↔∀k∈l,Yi ds k
 | []=>by simp [dN]
 | k::r=>by simp [dN,UI ds r]
theorem FU {ds:List Dt} {m:Mi}:Yi ds m↔(∀h∈m.nt,MJ ds m.ty h)/\∀k∈m.ks,Yi ds k:=by
 obtain ⟨ty,nt,hd,ks⟩:=m;simp only [Yi,UI,Mi.ty,Mi.nt,Mi.ks]
theorem UH (ds:List Dt) (t:Ty):Yi ds (Aq t):=FU.2 ⟨λh hh=>by simp [Aq,Mi.nt] at hh,λk hk=>by simp [Aq,Mi.ks] at hk⟩
theorem PU (ds:List Dt) (m:Mi) (h:Ty):Yi ds (AX ds m h):=FU.2 ⟨λx hx=>by simp [AX,Mi.nt] at hx,λk hk=>by
 simp only [AX,Mi.ks,List.mem_map] at hk;obtain ⟨t,_,rfl⟩:=hk;exact UH ds t⟩
theorem WB {ds:List Dt} {m:Mi} (h:Yi ds m):Yi ds (Af ds m):=by
 rcases CI (ds:=ds) m with e | ⟨_,x,_,e⟩
 ·rw [e];exact h
 ·rw [e];exact PU ds m x
def KM (ds:List Dt) (h:Ty):Mi->List Int->Prop
 | m,[]=>AC m.hd=0/\BD m.nt h=false/\MJ ds m.ty h
 | m,i::p=>∃k,(Af ds m).ks[i.toNat]?=some k/\AC (Af ds m).hd≠0/\KM ds h k p
theorem bS {ds:List Dt} {ks:List Mi} {vs:List Ty} {i:Nat} {k k':Mi} (hk:ks[i]?=some k) (hs:∀v,KL ds k' v->KL ds k v) (h:Ed ds (ks.set i k') vs):Ed ds ks vs:=by
 rw [HS] at h ⊢;obtain ⟨h1,h2⟩:=h;rw [List.length_set] at h1;refine ⟨h1,λj a v ha hv=>?_⟩;by_cases e:i=j
 ·subst e;rw [hk] at ha;cases ha;exact hs v (h2 i k' v (by rw [List.getElem?_set_self (List.getElem?_eq_some_iff.1 hk).1]) hv)
 ·exact h2 j a v (by rw [List.getElem?_set_ne e];exact ha) hv
theorem eB {ds:List Dt} {ks:List Mi} {vs:List Ty} {i:Nat} {k:Mi} (hk:ks[i]?=some k) (h:Ed ds ks vs):∃v,vs[i]?=some v/\KL ds k v/\∀k',KL ds k' v->Ed ds (ks.set i k') vs:=by
 obtain ⟨h1,h2⟩:=HS.1 h;have hi:=(List.getElem?_eq_some_iff.1 hk).1;obtain ⟨v,hv⟩:=Am (l:=vs) (i:=i) (by omega);refine ⟨v,hv,h2 i k v hk hv,λk' hk'=>HS.2 ⟨by rw [List.length_set];exact h1,λj a u ha hu=>?_⟩⟩;by_cases e:i=j
 ·subst e;rw [List.getElem?_set_self hi] at ha;cases ha;rw [hv] at hu;cases hu;exact hk'
 ·rw [List.getElem?_set_ne e] at ha;exact h2 j a u ha hu
theorem Um {ds:List Dt} (ho:OkW ds) {N:Nat} {h:Ty} (hh:AC h≠0):∀(path:List Int) {m:Mi} {v:Ty},GU ds N m=true->KM ds h m path ->
  (∀is,KL ds (A7 ds m path h is) v->KL ds m v)/\(KL ds m v->KL ds (A7 ds m path h true) v\/KL ds (A7 ds m path h false) v)
 | [],m,v,hw,⟨h1,h2,_⟩=>by
  refine ⟨λis=>?_,λhv=>?_⟩
  ·cases is with
   | true =>
    rw [show A7 ds m [] h true=AX ds m h from rfl,Jp hh,B7];exact λ⟨a,b⟩=>⟨a,λ_=>by rw [<- Gl b];exact h2,λe=>absurd h1 e⟩
   | false =>
    rw [show A7 ds m [] h false = .mk m.ty (m.nt++[h]) m.hd m.ks from rfl,B7,B7];rintro ⟨a,b,c⟩;refine ⟨a,λe=>?_,λe=>absurd h1 e⟩;have:=b e;simp only [BD,Mi.nt,List.any_append,Bool.or_eq_false_iff] at this ⊢;exact this.1
  ·rw [B7] at hv;obtain ⟨a,b,_⟩:=hv;cases e:A5 h v with
   | true=>exact .inl (by rw [show A7 ds m [] h true=AX ds m h from rfl,Jp hh];exact ⟨a,e⟩)
   | false =>
    right;rw [show A7 ds m [] h false = .mk m.ty (m.nt++[h]) m.hd m.ks from rfl,B7];refine ⟨a,λ_=>?_,λe=>absurd h1 e⟩;have hb:=b h1;simp only [BD,Mi.nt,List.any_append,Bool.or_eq_false_iff,List.any_cons,List.any_nil,Bool.or_false] at hb ⊢;exact ⟨hb,e⟩
 | i::p,m,v,hw,⟨k,hk,h1,h2⟩=>by
  have hn:=(Bf.1 hw).1.1;have hsw:=Df ho hw;have ih:=λv=>Um ho hh p (v:=v) (kU hsw hk) h2;have es:∀is,A7 ds m (i::p) h is = .mk (Af ds m).ty (Af ds m).nt (Af ds m).hd ((Af ds m).ks.set i.toNat (A7 ds k p h is)):=λis=>by simp only [A7,hk]
  refine ⟨λis=>?_,λhv=>?_⟩
  ·rw [es,<- KK (m:=m) hn,B7,B7 (m:=Af ds m)];simp only [Mi.ty,Mi.nt,Mi.hd,Mi.ks];rintro ⟨a,b,c⟩;refine ⟨a,b,λe=>⟨(c e).1,bS hk (λv=>(ih v).1 is) (c e).2⟩⟩
  ·rw [<- KK (m:=m) hn,B7] at hv;obtain ⟨a,b,c⟩:=hv;obtain ⟨c1,c2⟩:=c h1;obtain ⟨u,u1,u2,u3⟩:=eB hk c2;have key:∀is,KL ds (A7 ds k p h is) u->KL ds (A7 ds m (i::p) h is) v:=λis hi=>by
    rw [es,B7];exact ⟨a,λe=>absurd e h1,λ_=>⟨c1,u3 _ hi⟩⟩
   exact ((ih u).2 u2).imp (key true) (key false)
theorem PT {ds:List Dt} {h:Ty} (is:Bool):∀(path:List Int) {m:Mi},Yi ds m->KM ds h m path->Yi ds (A7 ds m path h is)
 | [],m,hm,⟨_,_,h3⟩=>by
  cases is with
  | true=>exact PU ds m h
  | false =>
   refine FU.2 ⟨λx hx=>?_,(FU.1 hm).2⟩;rcases List.mem_append.1 hx with hx | hx
   ·exact (FU.1 hm).1 x hx
   ·rw [List.mem_singleton.1 hx];exact h3
 | i::p,m,hm,⟨k,hk,_,h2⟩=>by
  have hs:=FU.1 (WB hm);simp only [A7,hk];refine FU.2 ⟨hs.1,λx hx=>?_⟩;rcases Iw hx with hx | hx
  ·exact hs.2 x hx
  ·rw [hx];exact PT is p (hs.2 k (List.mem_of_getElem? hk)) h2
mutual
theorem Yo {ds:List Dt} (ho:OkW ds) {N:Nat}:∀(p:Ty) {m:Mi} {v:Ty},GU ds N m=true->DF ds m->Co ds m.ty p=true->BA p=true ->
  ((Ax ds p m).1=2->KM ds (Ax ds p m).2.2 m (Ax ds p m).2.1) /\
  (KL ds m v->((Ax ds p m).1=1->(AR p v).2=true)/\((Ax ds p m).1=0->(AR p v).2=false))
 | .mk f n x ps,m,v,hw,hc,hp,hpp=>by
  have hn:=(Bf.1 hw).1.1;have hsw:=Df ho hw;have hsc:=Dd (ds:=ds) hc;by_cases h12:f=1\/f=2
  ·have e:Ax ds (.mk f n x ps) m=(1,[],zT):=by simp only [Ax,if_pos h12]
   rw [e];refine ⟨λh=>by simp at h,λ_=>⟨λ_=>?_,λh=>by simp at h⟩⟩;simp only [AR];rcases h12 with rfl | rfl
   ·rw [if_pos rfl]
   ·rw [if_neg (by decide),if_pos rfl]
  obtain ⟨k1,k2,k3,k4⟩:=L5 hn hp hpp h12;have em:AR (.mk f n x ps) v=if A5 (AN (.mk f n x ps)) v=false then ([],false) else Bv ps (Bm v):=by
   simp only [AR,if_neg (λh=>h12 (.inl h)),if_neg (λh=>h12 (.inr h))]
  rw [em];have el:Ax ds (.mk f n x ps) m=if AC (Af ds m).hd=0/\BD (Af ds m).nt (AN (.mk f n x ps))=false then (2,[],AN (.mk f n x ps)) else
   if AC (Af ds m).hd=0\/A5 (Af ds m).hd (AN (.mk f n x ps))=false then (0,[],zT) else AW ds 0 ps (Af ds m).ks:=by simp only [Ax,if_neg h12]
  rw [el];rw [<- KK (m:=m) hn];have hst:=Dy ds m;have hse:=O1 (ds:=ds) m;have key:∀i:Int,AC (Af ds m).hd≠0->A5 (Af ds m).hd (AN (.mk f n x ps))=true->(AK ds m.ty (C4 (AN (.mk f n x ps)))).1=(Af ds m).ks.map Mi.ty:=λi h0 hE=>by
   have:=((B4.1 hsc).2.1 h0).2;rw [Js hE,Dy] at this;exact this.symm
  have hs0:AC (Af ds m).hd=0->Af ds m=m:=λh0=>by
   rcases CI (ds:=ds) m with e | ⟨_,y,y1,y2⟩
   ·exact e
   ·rw [y2] at h0;exact absurd h0 (Bs (D1 y1).1).2
  generalize AN (.mk f n x ps)=h at *;by_cases h0:AC (Af ds m).hd=0
  ·cases hb:BD (Af ds m).nt h with
   | false =>
    rw [if_pos ⟨h0,rfl⟩];exact ⟨λ_=>by have e:=hs0 h0;rw [e] at h0 hb;exact ⟨h0,hb,k1⟩,λ_=>⟨λh=>by simp at h,λh=>by simp at h⟩⟩
   | true =>
    rw [if_neg (λh=>by cases h.2),if_pos (.inl h0)];refine ⟨λh=>by simp at h,λhv=>⟨λh=>by simp at h,λ_=>?_⟩⟩;have:=(B7.1 hv).2.1 h0;cases he:A5 h v with
    | false=>rfl
    | true=>rw [Gl he,this] at hb;cases hb
  ·rw [if_neg (λh=>h0 h.1)];cases hE:A5 (Af ds m).hd h with
   | false =>
    rw [if_pos (.inr rfl)];refine ⟨λh=>by simp at h,λhv=>⟨λh=>by simp at h,λ_=>?_⟩⟩;have hv2:=((B7.1 hv).2.2 h0).1;rw [Jt hv2,GC] at hE;rw [if_pos hE]
   | true =>
    rw [if_neg (λh=>by rcases h with h | h;exact h0 h;cases h)];have hks:=key 0 h0 hE;rw [hks] at k3;obtain ⟨q1,q2⟩:=UR ho ps (l:=(Af ds m).ks) (i:=0) (λk hk=>⟨(Bf.1 hsw).2.2 k hk,(B4.1 hsc).2.2 k hk⟩) k3 k4;refine ⟨λhl=>?_,λhv=>?_⟩
    ·obtain ⟨j,k,j1,j2,j3⟩:=q1 hl;rw [j1];simp only [Int.zero_add];exact ⟨k,by simpa using j2,h0,j3⟩
    ·obtain ⟨hv1,hv2⟩:=(B7.1 hv).2.2 h0;have he:A5 h v=true:=by rw [<- Jt hE];exact hv1
     rw [if_neg (by rw [he];simp)];exact q2 (Bm v) hv2
theorem UR {ds:List Dt} (ho:OkW ds) {N:Nat}:∀(ps:List Ty) {l:List Mi} {i:Int},(∀k∈l,GU ds N k=true/\DF ds k)->Cj ds (l.map Mi.ty) ps=true->B5 ps=true ->
  ((AW ds i ps l).1=2->∃(j:Nat) (k:Mi),(AW ds i ps l).2.1=(i+j)::(AW ds i ps l).2.1.tail/\l[j]?=some k/\KM ds (AW ds i ps l).2.2 k (AW ds i ps l).2.1.tail) /\
  (∀vs,Ed ds l vs->((AW ds i ps l).1=1->(Bv ps vs).2=true)/\((AW ds i ps l).1=0->(Bv ps vs).2=false))
 | [],l,i,_,_,_=>⟨λh=>by simp [AW] at h,λvs _=>⟨λ_=>by simp only [Bv],λh=>by simp [AW] at h⟩⟩
 | p::r,[],i,_,_,_=>⟨λh=>by simp [AW] at h,λvs hv=>by
  simp only [Ed] at hv;subst hv;exact ⟨λ_=>by simp only [Bv],λh=>by simp [AW] at h⟩⟩
 | p::r,k::ks,i,hk,hp,hpp=>by
  simp only [List.map_cons,Cj,B5,Bool.and_eq_true] at hp hpp;have a:=λv=>Yo ho p (v:=v) (hk k (by simp)).1 (hk k (by simp)).2 hp.1 hpp.1;obtain ⟨b1,b2⟩:=UR ho r (l:=ks) (i:=i+1) (λy hy=>hk y (by simp [hy])) hp.2 hpp.2;simp only [AW]
  split
  ·rename_i h1;refine ⟨λhl=>?_,λvs hv=>?_⟩
   ·obtain ⟨j,y,y1,y2,y3⟩:=b1 hl;exact ⟨j+1,y,by rw [y1];simp only [List.tail_cons,List.cons.injEq,and_true];omega,by simpa using y2,y3⟩
   ·cases vs with
    | nil=>simp only [Ed] at hv
    | cons v vs =>
     simp only [Ed] at hv;have hm:=((a v).2 hv.1).1 h1;simp only [Bv,hm,Bool.true_and];obtain ⟨c1,c2⟩:=b2 vs hv.2;exact ⟨λh=>by rw [c1 h];rfl,λh=>by rw [c2 h];rfl⟩
  ·rename_i h1;refine ⟨λhl=>⟨0,k,by simp,rfl,by simpa using (a zT).1 hl⟩,λvs hv=>?_⟩;cases vs with
   | nil=>simp only [Ed] at hv
   | cons v vs =>
    simp only [Ed] at hv;refine ⟨λh=>absurd h h1,λh=>?_⟩;have hm:=((a v).2 hv.1).2 h;simp only [Bv,hm,Bool.false_and];rfl
end
theorem Tv {ds:List Dt} (ho:OkW ds) {t a b:Ty} (hn:AB ds t=true) (ha:HJ ds t a) (hb:HJ ds t b):AC a=AC b/\(AC a=4->(BP ds (C4 a)).2=(BP ds (C4 b)).2->(AK ds t (C4 b)).1=(AK ds t (C4 a)).1):=by
 have fa:=ha.1;have fb:=hb.1;rw [Io] at fa fb;obtain ⟨so,m,x,qs⟩:=t;obtain ⟨f,n,y,ps⟩:=a;obtain ⟨g,n',y',ps'⟩:=b;simp only [KB] at fa fb;simp only [AC,C4,Bm] at *;refine ⟨?_,λh4 hs=>?_⟩
 ·by_cases h1:so=1
  ·rw [if_pos h1] at fa fb;simp only [beq_iff_eq] at fa fb;omega
  rw [if_neg h1] at fa fb;by_cases h2:so=2
  ·rw [if_pos h2] at fa fb;simp only [beq_iff_eq] at fa fb;omega
  rw [if_neg h2] at fa fb;by_cases h3:so=3
  ·rw [if_pos h3] at fa fb;simp only [beq_iff_eq] at fa fb;omega
  rw [if_neg h3] at fa fb;by_cases h8:so=8
  ·rw [if_pos h8] at fa fb;simp only [Bool.and_eq_true,decide_eq_true_eq] at fa fb;omega
  rw [if_neg h8] at fa fb;simp only [beq_iff_eq] at fa fb;omega
 ·subst h4;have h8:so=8:=by
   repeat' (split at fa)
   all_goals first | assumption | (simp at fa;done)
  subst h8;rw [if_neg (by decide),if_neg (by decide),if_neg (by decide),if_pos rfl] at fa fb;simp only [Bool.and_eq_true,decide_eq_true_eq] at fa fb;obtain ⟨_,_,ca,_⟩:=fa;obtain ⟨_,_,cb,_⟩:=fb;have hc:∀s,(AK ds (.mk 8 m x qs) s).2=true->0<=(B8 ds (.mk 8 m x qs) s).2/\(AK ds (.mk 8 m x qs) s).1=(B8 ds (.mk 8 m x qs) s).1.args:=λs h=>by
   simp only [AK] at h ⊢;by_cases e:0<=(B8 ds (.mk 8 m x qs) s).2
   ·simp [e]
   ·simp [e] at h
  obtain ⟨a1,a2⟩:=hc y ca;obtain ⟨b1,b2⟩:=hc y' cb;have hp:=(C5 hn 8 m x qs rfl rfl).1;rw [F5 ho.dif (n:=m) (ps:=qs) hp a1,F5 ho.dif (n:=m) (ps:=qs) hp b1] at hs;have e:=Nk a1 hs;rw [a2,b2,e]
theorem G5 (ds:List Dt) (a b:Ty):BL ds a b=if AC a=1 then Dl (nT a)-Dl (nT b) else if AC a=2 then nT a-nT b else if AC a=4 then (if (BP ds (C4 a)).2-(BP ds (C4 b)).2≠0 then (BP ds (C4 a)).2-(BP ds (C4 b)).2 else BH ds (Bm a) (Bm b)) else 0:=by
 obtain ⟨f,n,x,ps⟩:=a;obtain ⟨g,n',x',ps'⟩:=b;simp only [BL,AC,nT,C4,Bm];rfl
theorem Jd {v u:Ty} (h:u∈Bm v):SizeOf.sizeOf u<SizeOf.sizeOf v:=by
 obtain ⟨f,n,x,ps⟩:=v;simp only [Bm] at h;have:=List.sizeOf_lt_of_mem h;simp only [Ty.mk.sizeOf_spec];omega
theorem G6 {ds:List Dt} (ho:OkW ds):∀(k:Nat) (a t b:Ty),SizeOf.sizeOf a<k->AB ds t=true->HJ ds t a->HJ ds t b->BL ds a b = - BL ds b a:=by
 intro k
 induction k with
 | zero=>intro a t b h;omega
 | succ k ih =>
  intro a t b hk hn ha hb;obtain ⟨h1,h2⟩:=Tv ho hn ha hb;rw [G5 ds a b,G5 ds b a,<- h1]
  split
  ·omega
  ·split
   ·omega
   ·split
    ·rename_i h4;by_cases hs:(BP ds (C4 a)).2=(BP ds (C4 b)).2
     ·rw [if_neg (by omega),if_neg (by omega)];have l1:=BT ho.okd (t:=t) (s:=C4 a);obtain ⟨l2,l4⟩:=EZ ha;obtain ⟨l3,l5⟩:=EZ hb;rw [h2 h4 hs] at l3 l5;have key:∀(ps qs:List Ty) (l:List Ty),(∀u∈ps,SizeOf.sizeOf u<k)->Bh ds l=true->l.length=ps.length->l.length=qs.length->(∀(i:Nat) t u,l[i]?=some t->ps[i]?=some u->HJ ds t u)->(∀(i:Nat) t u,l[i]?=some t->qs[i]?=some u->HJ ds t u)->BH ds ps qs = - BH ds qs ps:=by
       intro ps
       induction ps with
       | nil =>
        intro qs l _ _ e1 e2 _ _;cases qs with
        | nil=>simp [BH]
        | cons _ _=>exact absurd (e1.symm.trans e2) (by simp)
       | cons p r ih2 =>
        intro qs l hz hn e1 e2 g1 g2;cases qs with
        | nil=>exact absurd (e1.symm.trans e2) (by simp)
        | cons q s =>
         cases l with
         | nil=>simp at e1
         | cons t l =>
          simp only [Bh,Bool.and_eq_true] at hn;have hpq:=ih p t q (hz p (by simp)) hn.1 (g1 0 t p rfl rfl) (g2 0 t q rfl rfl);have hrs:=ih2 s l (λu hu=>hz u (by simp [hu])) hn.2 (by simpa using e1) (by simpa using e2) (λi t u h1 h2=>g1 (i+1) t u (by simpa using h1) (by simpa using h2)) (λi t u h1 h2=>g2 (i+1) t u (by simpa using h1) (by simpa using h2));simp only [BH];by_cases e:BL ds p q=0
          ·rw [if_neg (by omega),if_neg (by omega)];exact hrs
          ·rw [if_pos e,if_pos (by omega)];exact hpq
      exact key _ _ _ (λu hu=>by have:=Jd hu;omega) l1 l2 l3 l4 l5
     ·rw [if_pos (by omega),if_pos (by omega)];omega
    ·omega
theorem Zu {ds:List Dt} (ho:OkW ds):∀(k:Nat) (a t b c:Ty),SizeOf.sizeOf a<k->SizeOf.sizeOf b<k->SizeOf.sizeOf c<k->AB ds t=true->HJ ds t a->HJ ds t b->HJ ds t c->BL ds a c<0->BL ds a b<0\/BL ds b c<0:=by
 intro k
 induction k with
 | zero=>intro a t b c h;omega
 | succ k ih =>
  intro a t b c hk hkb hkc hn ha hb hc h;obtain ⟨h1,h2⟩:=Tv ho hn ha hb;obtain ⟨h3,h4⟩:=Tv ho hn hb hc;rw [G5] at h;rw [G5 ds a b,G5 ds b c,<- h1]
  split
  ·rename_i f1;rw [if_pos f1] at h;omega
  ·rename_i f1;rw [if_neg f1] at h
   split
   ·rename_i f2;rw [if_pos f2] at h;omega
   ·rename_i f2;rw [if_neg f2] at h
    split
    ·rename_i f4;rw [if_pos f4] at h;by_cases hab:(BP ds (C4 a)).2=(BP ds (C4 b)).2
     ·by_cases hbc:(BP ds (C4 b)).2=(BP ds (C4 c)).2
      ·rw [if_neg (by omega)] at h;rw [if_neg (by omega),if_neg (by omega)];have l1:=BT ho.okd (t:=t) (s:=C4 a);obtain ⟨l2,l4⟩:=EZ ha;obtain ⟨l3,l5⟩:=EZ hb;obtain ⟨l6,l7⟩:=EZ hc;rw [h4 (by omega) hbc,h2 f4 hab] at l6 l7;rw [h2 f4 hab] at l3 l5;have key:∀(ps qs rs:List Ty) (l:List Ty),(∀u∈ps,SizeOf.sizeOf u<k)->(∀u∈qs,SizeOf.sizeOf u<k)->(∀u∈rs,SizeOf.sizeOf u<k)->Bh ds l=true->l.length=ps.length->l.length=qs.length->l.length=rs.length->(∀(i:Nat) t u,l[i]?=some t->ps[i]?=some u->HJ ds t u)->(∀(i:Nat) t u,l[i]?=some t->qs[i]?=some u->HJ ds t u)->(∀(i:Nat) t u,l[i]?=some t->rs[i]?=some u->HJ ds t u) ->
         BH ds ps rs<0->BH ds ps qs<0\/BH ds qs rs<0:=by
        intro ps
        induction ps with
        | nil=>intro qs rs l _ _ _ _ _ _ _ _ _ _ h;simp [BH] at h
        | cons p r ih2 =>
         intro qs rs l hz hzq hzr hn e1 e2 e3 g1 g2 g3 hlt;cases l with
         | nil=>simp at e1
         | cons t l =>
          cases qs with
          | nil=>simp at e2
          | cons q s =>
           cases rs with
           | nil=>simp at e3
           | cons u v =>
            simp only [Bh,Bool.and_eq_true] at hn;have op:=g1 0 t p rfl rfl;have oq:=g2 0 t q rfl rfl;have ou:=g3 0 t u rfl rfl;have zp:=hz p (by simp);have zq:=hzq q (by simp);have zu:=hzr u (by simp);have i1:=ih p t q u zp zq zu hn.1 op oq ou;have i2:=ih u t p q zu zp zq hn.1 ou op oq;have i3:=ih q t u p zq zu zp hn.1 oq ou op;have a1:=G6 ho _ p t q (Nat.lt_succ_self _) hn.1 op oq;have a3:=G6 ho _ p t u (Nat.lt_succ_self _) hn.1 op ou;have a2:=G6 ho _ q t u (Nat.lt_succ_self _) hn.1 oq ou
            have ir:=ih2 s v l (λy hy=>hz y (by simp [hy])) (λy hy=>hzq y (by simp [hy])) (λy hy=>hzr y (by simp [hy])) hn.2 (by simpa using e1) (by simpa using e2) (by simpa using e3) (λi t u h1 h2=>g1 (i+1) t u (by simpa using h1) (by simpa using h2)) (λi t u h1 h2=>g2 (i+1) t u (by simpa using h1) (by simpa using h2)) (λi t u h1 h2=>g3 (i+1) t u (by simpa using h1) (by simpa using h2));simp only [BH] at hlt ⊢;by_cases pu:BL ds p u=0
            ·rw [if_neg (by omega)] at hlt;by_cases pq:BL ds p q=0
             ·by_cases qu:BL ds q u=0
              ·rw [if_neg (by omega),if_neg (by omega)];exact ir hlt
              ·rw [if_pos qu];by_cases hneg:BL ds q u<0
               ·exact .inr hneg
               ·exfalso;rcases i2 (by omega) with h | h <;> omega
             ·rw [if_pos pq];by_cases hneg:BL ds p q<0
              ·exact .inl hneg
              ·right;have:BL ds q u<0:=by
                rcases i3 (by omega) with h | h
                ·exact h
                ·omega
               rw [if_pos (by omega)];exact this
            ·rw [if_pos pu] at hlt;rcases i1 hlt with h | h
             ·left;rw [if_pos (by omega)];exact h
             ·right;rw [if_pos (by omega)];exact h
       exact key _ _ _ _ (λu hu=>by have:=Jd hu;omega) (λu hu=>by have:=Jd hu;omega) (λu hu=>by have:=Jd hu;omega) l1 l2 l3 l6 l4 l5 l7 h
      ·rw [if_neg (by omega),if_pos (by omega)];rw [if_pos (by omega)] at h;right;omega
     ·by_cases hbc:(BP ds (C4 b)).2=(BP ds (C4 c)).2
      ·rw [if_pos (by omega),if_neg (by omega)];rw [if_pos (by omega)] at h;left;omega
      ·rw [if_pos (by omega),if_pos (by omega)]
       split at h <;> omega
    ·rename_i f4;rw [if_neg f4] at h;omega
theorem X6 {ds:List Dt} (ho:OkW ds) {t a b c:Ty} (hn:AB ds t=true) (ha:HJ ds t a) (hb:HJ ds t b) (hc:HJ ds t c) (h:BY ds a c=true):BY ds a b=true\/BY ds b c=true:=by
 have k:=Zu ho (SizeOf.sizeOf a+SizeOf.sizeOf b+SizeOf.sizeOf c+1) a t b c (by omega) (by omega) (by omega) hn ha hb hc;simp only [BY] at h ⊢;by_cases e1:Ai a=Ai c
 ·rw [if_pos e1,decide_eq_true_eq] at h;by_cases e2:Ai a=Ai b
  ·rw [if_pos e2,if_pos (by omega),decide_eq_true_eq,decide_eq_true_eq];exact k h
  ·rw [if_neg e2,if_neg (by omega),decide_eq_true_eq,decide_eq_true_eq];omega
 ·rw [if_neg e1,decide_eq_true_eq] at h;by_cases e2:Ai a=Ai b
  ·right;rw [if_neg (by omega),decide_eq_true_eq];omega
  ·by_cases e3:Ai b=Ai c
   ·left;rw [if_neg (by omega),decide_eq_true_eq];omega
   ·rw [if_neg e2,if_neg e3,decide_eq_true_eq,decide_eq_true_eq];omega
theorem VV {ds:List Dt} (ho:OkW ds) {t a b:Ty} (hn:AB ds t=true) (ha:HJ ds t a) (hb:HJ ds t b) (h:BY ds b a=true):BY ds a b=false:=by
 have han:=G6 ho _ a t b (Nat.lt_succ_self _) hn ha hb;simp only [BY] at h ⊢;by_cases e:Ai a=Ai b
 ·rw [if_pos (by omega),decide_eq_true_eq] at h;rw [if_pos e,decide_eq_false_iff_not];omega
 ·rw [if_neg (by omega),decide_eq_true_eq] at h;rw [if_neg e,decide_eq_false_iff_not];omega
def IL (ds:List Dt) (S:Ty->Prop):Option Ty->Prop
 | none=>∀v,¬S v
 | some v=>S v/\∀u,S u->BY ds u v=false
theorem Fh {ds:List Dt} {S S':Ty->Prop} (h:∀v,S v↔S' v) {r:Option Ty} (hr:IL ds S r):IL ds S' r:=by
 cases r with
 | none=>exact λv hv=>hr v ((h v).2 hv)
 | some v=>exact ⟨(h v).1 hr.1,λu hu=>hr.2 u ((h u).2 hu)⟩
theorem bO {ds:List Dt} (ho:OkW ds) {t:Ty} (hn:AB ds t=true) {A B:Ty->Prop} (hA:∀v,A v->HJ ds t v) (hB:∀v,B v->HJ ds t v) {a b:Option Ty} (ha:IL ds A a) (hb:IL ds B b):IL ds (λv=>A v\/B v) (GZ ds a b):=by
 cases a with
 | none =>
  exact Fh (λv=>⟨.inr,λh=>h.resolve_left (ha v)⟩) hb
 | some a =>
  cases b with
  | none=>exact Fh (S:=A) (λv=>⟨.inl,λh=>h.resolve_right (hb v)⟩) ha
  | some b =>
   simp only [GZ];obtain ⟨a1,a2⟩:=ha;obtain ⟨b1,b2⟩:=hb;have no:∀{u x y:Ty},HJ ds t u->HJ ds t x->HJ ds t y->BY ds u y=false->BY ds y x=false->BY ds u x=false:=λhu hx hy h1 h2=>by
    cases e:BY ds _ _ with
    | false=>rfl
    | true=>rcases X6 ho hn hu hy hx e with h | h <;> simp_all
   split
   ·rename_i h;refine ⟨.inr b1,λu hu=>?_⟩;rcases hu with hu | hu
    ·have hab:=VV ho hn (hA a a1) (hB b b1) h;exact no (hA u hu) (hB b b1) (hA a a1) (a2 u hu) hab
    ·exact b2 u hu
   ·rename_i h;refine ⟨.inl a1,λu hu=>?_⟩;rcases hu with hu | hu
    ·exact a2 u hu
    ·exact no (hB u hu) (hA a a1) (hB b b1) (b2 u hu) (by simpa using h)
def grtW (ds:List Dt):Prop:=∀d∈ds,∀c∈d.cons,CL c.name=true
theorem NG {ds:List Dt}:∀{l vs:List Ty} (n:Int),0<n->l.length=vs.length->(∀(i:Nat) a v,l[i]?=some a->vs[i]?=some v->0<Cq ds a/\Cq ds a<=Ai v)->0<AM ds (D7 ds) n l/\AM ds (D7 ds) n l<=n+Ag vs
 | [],[],n,hn,_,_=>by simp [AM,Ag];exact hn
 | a::r,v::vs,n,hn,hl,h=>by
  obtain ⟨h1,h2⟩:=h 0 a v rfl rfl;obtain ⟨i1,i2⟩:=NG (l:=r) (vs:=vs) (n+EI ds (D7 ds) a) (by simp only [Cq] at h1;omega) (by simpa using hl) λi x y hx hy=>h (i+1) x y (by simpa using hx) (by simpa using hy);simp only [Cq] at h1 h2;simp only [AM,Ag];rw [if_neg (by omega)];exact ⟨i1,by omega⟩
 | [],_::_,_,_,h,_=>by simp at h
 | _::_,[],_,_,h,_=>by simp at h
theorem bQ {ds:List Dt} (ho:OkW ds):∀(k:Nat) (u t:Ty),SizeOf.sizeOf u<k->AB ds t=true->HJ ds t u->(0<Cq ds t/\Cq ds t<=Ai u)/\∀m h,m.ty=t->h∈A0 ds t->A5 h u=true->0<AP ds m h/\AP ds m h<=Ai u:=by
 intro k
 induction k with
 | zero=>intro u t h;omega
 | succ k ih =>
  intro u t hk hn hu;obtain ⟨p1,p2⟩:=EZ hu;have hnm:=BT ho.okd (t:=t) (s:=C4 u);have hs:=NG (ds:=ds) 1 (by decide) p1 λi a v ha hv=>(ih v a (by have:=Jd (List.mem_of_getElem? hv);omega) (Dc hnm ha) (p2 i a v ha hv)).1;have hnu:Ai u=1+Ag (Bm u):=by obtain ⟨a,b,c,d⟩:=u;rfl
  have hc:∀m h,m.ty=t->h∈A0 ds t->A5 h u=true->0<AP ds m h/\AP ds m h<=Ai u:=λm h e hh he=>by
   subst e;rw [JX ho hn (.inl hh),Js he];exact ⟨hs.1,by omega⟩
  refine ⟨?_,hc⟩;by_cases h8:AC t=8
  ·obtain ⟨x,x1,x2⟩:=PN hn hu (.inr (.inr h8));obtain ⟨c1,c2⟩:=hc (Aq t) x rfl x1 x2;obtain ⟨z1,z2⟩:=OV ho (m:=Aq t) hn h8;have hb:=(Cp ho t).1;have:Cq ds t≠0:=λe=>z1 e x x1 c1;have:=(z2 this).2 x x1 c1;have hty:(Aq t).ty=t:=rfl;rw [hty] at this;omega
  ·have:Cq ds t=1:=by obtain ⟨so,n,x,ps⟩:=t;simp only [Cq,EI];exact if_neg h8
   omega
theorem U6 {ds:List Dt} {m:Mi}:∀{l:List Ty} {b:Option (Ty×Int)} {p:Ty×Int},Dm ds m b l=some p ->
  b=some p\/((∀q,b=some q->p.2<q.2)/\∃i:Nat,l[i]?=some p.1/\∀(j:Nat) y,j<i->l[j]?=some y->0<AP ds m y->BD m.nt y=false->p.2<AP ds m y)
 | [],b,p,h=>.inl h
 | x::r,b,p,h=>by
  simp only [Dm] at h;have ih:=U6 h;by_cases hc:0<AP ds m x/\BD m.nt x=false/\F3 b (AP ds m x)=true
  ·rw [if_pos hc] at ih;have hq:∀q,b=some q->AP ds m x<q.2:=λq hq=>by subst hq;exact of_decide_eq_true hc.2.2
   right;rcases ih with e | ⟨h1,i,h2,h3⟩
   ·cases e;exact ⟨hq,0,rfl,λj y hj=>by omega⟩
   ·have h1:p.2<AP ds m x:=h1 (x,AP ds m x) rfl;refine ⟨λq e=>by have:=hq q e;omega,i+1,by simpa using h2,λj y hj hy h4 h5=>?_⟩;cases j with
    | zero=>simp at hy;subst hy;exact h1
    | succ j=>exact h3 j y (by omega) (by simpa using hy) h4 h5
  ·rw [if_neg hc] at ih;rcases ih with e | ⟨h1,i,h2,h3⟩
   ·exact .inl e
   ·refine .inr ⟨h1,i+1,by simpa using h2,λj y hj hy h4 h5=>?_⟩;cases j with
    | zero =>
     simp at hy;subst hy;cases b with
     | none=>exact absurd ⟨h4,h5,rfl⟩ hc
     | some q =>
      have:=h1 q rfl;have:¬(AP ds m x<q.2):=λh=>hc ⟨h4,h5,decide_eq_true h⟩;omega
    | succ j=>exact h3 j y (by omega) (by simpa using hy) h4 h5
theorem Tn {a b:Int} (h:(0<=a/\(b <= -a\/a<=b))\/(a<0/\(b<=a \/ -a<b))):Dl a<=Dl b:=by
 simp only [Dl];by_cases p:0<a <;> by_cases q:0<b <;> simp only [p,q,if_true,if_false] <;> omega
theorem dR {nt:List Ty}:∀(f:Nat) (i:Nat),(∀k:Int,-(i:Int)<k->k<i->BD nt (.mk 1 k [] [])=true)->∀n,BD nt (.mk 1 n [] [])=false->Dl (nT (Jj nt f i))<=Dl n:=by
 intro f
 induction f with
 | zero =>
  intro i h n hn;have:n <= -(i:Int)\/(i:Int)<=n:=by
   by_cases h1 : -(i:Int)<n
   ·by_cases h2:n<i
    ·rw [h n h1 h2] at hn;cases hn
    ·omega
   ·omega
  simp only [Jj,nT];exact Tn (by omega)
 | succ f ih =>
  intro i h n hn;have hr:n <= -(i:Int)\/(i:Int)<=n:=by
   by_cases h1 : -(i:Int)<n
   ·by_cases h2:n<i
    ·rw [h n h1 h2] at hn;cases hn
    ·omega
   ·omega
  simp only [Jj];by_cases e1:BD nt (.mk 1 i [] [])=false
  ·rw [if_pos e1];simp only [nT];exact Tn (by omega)
  ·rw [if_neg e1];have hni:n≠i:=λe=>by subst e;exact e1 hn
   by_cases e2:BD nt (.mk 1 (0-i) [] [])=false
   ·rw [if_pos e2];simp only [nT];exact Tn (by omega)
   ·rw [if_neg e2];exact ih (i+1) (λk h1 h2=>by
     by_cases k1:k=i
     ·subst k1;simpa using e1
     ·by_cases k2:k=0-i
      ·subst k2;simpa using e2
      ·exact h k (by omega) (by omega)) n hn
theorem Sj (nt:List Ty):∀(i:Nat),i<=nt.length->(∀j:Nat,j<i->BD nt (.mk 1 j [] [])=true)->BD nt (Jj nt (nt.length-i) i)=false
 | i,hi,h=>by
  rw [Si hi h]
  split
  ·assumption
  ·split
   ·assumption
   ·rename_i e1 e2;have hb:=KF (nt:=nt) (i:=i+1) λj hj=>by
     by_cases e:j=i
     ·rw [e];simpa using e1
     ·exact h j (by omega)
    exact Sj nt (i+1) hb λj hj=>by
     by_cases e:j=i
     ·rw [e];simpa using e1
     ·exact h j (by omega)
termination_by i=>nt.length-i
theorem PW (h:Ty) (vs:List Ty):Ai (Cs h vs)=1+Ag vs:=by obtain ⟨a,b,c,d⟩:=h;rfl
theorem UJ (v:Ty):Ai v=1+Ag (Bm v):=by obtain ⟨a,b,c,d⟩:=v;rfl
def kL (ds:List Dt) (us vs:List Ty):Prop:=us.length=vs.length/\∀(i:Nat) u v,us[i]?=some u->vs[i]?=some v->BY ds u v=false
theorem Sd {ds:List Dt}:∀{us vs:List Ty},kL ds us vs->Ag vs<=Ag us/\(Ag us=Ag vs->0<=BH ds us vs)
 | [],[],_=>⟨Nat.le_refl _,λ_=>by simp [BH]⟩
 | u::us,v::vs,⟨h1,h2⟩=>by
  have h0:=h2 0 u v rfl rfl;obtain ⟨i1,i2⟩:=Sd (us:=us) (vs:=vs) ⟨by simpa using h1,λi x y hx hy=>h2 (i+1) x y (by simpa using hx) (by simpa using hy)⟩;simp only [BY] at h0;simp only [Ag,BH];by_cases e:Ai u=Ai v
  ·rw [if_pos e,decide_eq_false_iff_not] at h0;refine ⟨by omega,λhs=>?_⟩
   split
   ·omega
   ·exact i2 (by omega)
  ·rw [if_neg e,decide_eq_false_iff_not] at h0;exact ⟨by omega,λhs=>by omega⟩
 | [],_::_,⟨h,_⟩=>by simp at h
 | _::_,[],⟨h,_⟩=>by simp at h
theorem Qh {ds:List Dt} {g:Mi->Option (Option Ty)}:∀{ks:List Mi} {o:Option (List Ty)},Bd g ks=some o->(∀k∈ks,∀r,g k=some r->IL ds (KL ds k) r) ->
  match o with
  | none=>∀vs,¬Ed ds ks vs
  | some vs=>Ed ds ks vs/\∀us,Ed ds ks us->kL ds us vs
 | [],o,h,_=>by
  simp only [Bd,Option.some.injEq] at h;subst h;exact ⟨by simp only [Ed],λus hu=>by simp only [Ed] at hu;subst hu;exact ⟨rfl,λi u v h=>by simp at h⟩⟩
 | k::r,o,h,hk=>by
  simp only [Bd] at h;cases hg:g k with
  | none=>rw [hg] at h;cases h
  | some q =>
   have hm:=hk k (by simp) q hg;rw [hg] at h;cases q with
   | none =>
    simp only [Option.some.injEq] at h;subst h;intro vs hv;cases vs with
    | nil=>simp only [Ed] at hv
    | cons v vs=>simp only [Ed] at hv;exact hm v hv.1
   | some v =>
    simp only at h;cases hl:Bd g r with
    | none=>rw [hl] at h;cases h
    | some o' =>
     have ih:=Qh (o:=o') hl λy hy=>hk y (by simp [hy]);rw [hl] at h;cases o' with
     | none =>
      simp only [Option.some.injEq] at h;subst h;intro vs hv;cases vs with
      | nil=>simp only [Ed] at hv
      | cons v vs=>simp only [Ed] at hv;exact ih vs hv.2
     | some vs =>
      simp only [Option.some.injEq] at h;subst h;simp only at ih ⊢;refine ⟨⟨hm.1,ih.1⟩,λus hu=>?_⟩;cases us with
      | nil=>simp only [Ed] at hu
      | cons u us =>
       simp only [Ed] at hu;obtain ⟨n1,n2⟩:=ih.2 us hu.2;refine ⟨by simp [n1],λi x y hx hy=>?_⟩;cases i with
       | zero=>simp at hx hy;subst hx;subst hy;exact hm.2 _ hu.1
       | succ i=>exact n2 i x y (by simpa using hx) (by simpa using hy)
theorem X8 {ds:List Dt} (hg:grtW ds) {t h:Ty} (hh:h∈A0 ds t) (h4:AC h=4):CL (C4 h)=true:=by
 obtain ⟨so,n,x,ps⟩:=t;simp only [A0] at hh
 split at hh
 ·simp only [List.mem_cons,List.not_mem_nil,or_false] at hh;rcases hh with rfl | rfl <;> simp [AC] at h4
 ·split at hh
  ·rw [List.mem_singleton] at hh;subst hh;simp [AC] at h4
  ·split at hh
   ·split at hh
    ·rename_i d hd;obtain ⟨c,hc,rfl⟩:=List.mem_map.1 hh;exact hg d (List.mem_of_getElem? hd) c hc
    ·cases hh
   ·cases hh
theorem dK {ds:List Dt} (ho:OkW ds) (hg:grtW ds) {t h:Ty} {vs:List Ty} (hn:AB ds t=true) (hh:MJ ds t h) (hl:(AK ds t (C4 h)).1.length=vs.length) (hv:∀(i:Nat) a v,(AK ds t (C4 h)).1[i]?=some a->vs[i]?=some v->HJ ds a v):HJ ds t (Cs h vs):=by
 refine ⟨PP ho hn hh hl ((PO hl).2 λi a v ha hv'=>(hv i a v ha hv').1),?_⟩;have hvn:Cx vs=true:=by
  rw [Ji,List.all_eq_true];intro v hm;obtain ⟨i,hi,e⟩:=List.getElem_of_mem hm;obtain ⟨a,ha⟩:=Am (l:=(AK ds t (C4 h)).1) (i:=i) (by omega);exact (hv i a v ha (by rw [List.getElem?_eq_getElem hi,e])).2
 have hal:=Ep ho t (C4 h);have hkind:(AC t=8/\AC h=4)\/((AK ds t (C4 h)).1=[]/\AC h≠4):=by
  rcases hh with hh | ⟨h1,n,rfl,_⟩
  ·rcases Fl ho hn hh with ⟨h1,h2,_⟩ | ⟨h1,n,rfl,_⟩ | ⟨h1,rfl⟩
   ·exact .inl ⟨h1,h2⟩
   ·exact .inr ⟨by rw [Fr (by omega)],by simp [AC]⟩
   ·exact .inr ⟨by rw [Fr (by omega)],by simp [AC]⟩
  ·exact .inr ⟨by rw [Fr (by omega)],by simp [AC]⟩
 have hz:h∈A0 ds t->AC h=4->nT h=0:=λhm h4=>by
  obtain ⟨so,n,x,ps⟩:=t;simp only [A0] at hm
  split at hm
  ·simp only [List.mem_cons,List.not_mem_nil,or_false] at hm;rcases hm with rfl | rfl <;> simp [AC] at h4
  ·split at hm
   ·rw [List.mem_singleton] at hm;subst hm;rfl
   ·split at hm
    ·split at hm
     ·obtain ⟨c,hc,rfl⟩:=List.mem_map.1 hm;rfl
     ·cases hm
    ·cases hm
 have hgr:=λhm h4=>X8 hg (t:=t) (h:=h) hm h4;rcases hh with hh | ⟨h1,n,rfl,hb⟩
 ·rcases Fl ho hn hh with ⟨h1,h2,_⟩ | ⟨h1,n,rfl,hb⟩ | ⟨h1,rfl⟩
  ·have h3:=hz hh h2;have h4:=hgr hh h2;obtain ⟨a,b,c,d⟩:=h;simp only [AC,nT,C4] at *;subst h2;subst h3;simp [Cs,CK,FN,hvn,h4];omega
  ·have:vs=[]:=List.eq_nil_of_length_eq_zero (by rcases hkind with ⟨_,e⟩ | ⟨e,_⟩;simp [AC] at e;rw [e] at hl;simpa using hl.symm);subst this;rcases hb with rfl | rfl <;> simp [Cs,CK,Cx,FN,EJ]
  ·have:vs=[]:=List.eq_nil_of_length_eq_zero (by rcases hkind with ⟨_,e⟩ | ⟨e,_⟩;simp [AC] at e;rw [e] at hl;simpa using hl.symm);subst this;simp [Cs,CK,Cx,FN]
 ·have:vs=[]:=List.eq_nil_of_length_eq_zero (by rcases hkind with ⟨_,e⟩ | ⟨e,_⟩;simp [AC] at e;rw [e] at hl;simpa using hl.symm);subst this;simp [Cs,CK,Cx,FN,EJ];omega
theorem iM {ds:List Dt} {ks:List Mi} {vs:List Ty} (h:Ed ds ks vs):ks.length=vs.length/\∀(i:Nat) a v,(ks.map Mi.ty)[i]?=some a->vs[i]?=some v->HJ ds a v:=by
 obtain ⟨h1,h2⟩:=HS.1 h;refine ⟨h1,λi a v ha hv=>?_⟩;simp only [List.getElem?_map,Option.map_eq_some_iff] at ha;obtain ⟨k,hk,rfl⟩:=ha;exact (B7.1 (h2 i k v hk hv)).1
theorem ZO (h:Ty) (vs:List Ty):A5 h (Cs h vs)=true:=by obtain ⟨a,b,c,d⟩:=h;simp [Cs,A5]
theorem Z9 {ds:List Dt} (ho:OkW ds) (hg:grtW ds) {N f:Nat} {m:Mi} {r:Option Ty} (hw:GU ds N m=true) (hc:DF ds m) (hh:AC m.hd≠0) (h:AD ds (f+1) m=some r) (ih:∀k∈m.ks,∀r,AD ds f k=some r->IL ds (KL ds k) r):IL ds (KL ds m) r:=by
 rw [En hh] at h;have hci:=B4.1 hc;have hwi:=Bf.1 hw;obtain ⟨c1,c2⟩:=hci.2.1 hh;cases hl:Bd (AD ds f) m.ks with
 | none=>rw [hl] at h;cases h
 | some o =>
  rw [hl] at h;simp only [Option.map_some,Option.some.injEq] at h;subst h;have hm:=Qh hl ih;cases o with
  | none =>
   intro v hv;exact hm _ ((B7.1 hv).2.2 hh).2
  | some vs =>
   simp only at hm;obtain ⟨k1,k2⟩:=iM hm.1;rw [c2] at k2;have hlen:(AK ds m.ty (C4 m.hd)).1.length=vs.length:=by rw [<- c2,List.length_map,k1]
   have hok:=dK ho hg hwi.1.1 c1 hlen k2;refine ⟨B7.2 ⟨hok,λe=>absurd e hh,λ_=>⟨ZO _ _,?_⟩⟩,λu hu=>?_⟩
   ·have:Bm (Cs m.hd vs)=vs:=by generalize m.hd=h;obtain ⟨a,b,c,d⟩:=h;rfl
    rw [this];exact hm.1
   ·obtain ⟨u1,u2⟩:=(B7.1 hu).2.2 hh;obtain ⟨n1,n2⟩:=Sd (hm.2 _ u2);have hp:=UJ u;have hq:=PW m.hd vs;simp only [BY]
    split
    ·rename_i e;have hos:=n2 (by omega);rw [decide_eq_false_iff_not,G5];have hx:nT u=nT (Cs m.hd vs)/\C4 u=C4 (Cs m.hd vs)/\Bm (Cs m.hd vs)=vs:=by
      generalize m.hd=h at u1;obtain ⟨a,b,c,d⟩:=h;obtain ⟨a',b',c',d'⟩:=u;simp only [A5,Bool.and_eq_true,beq_iff_eq] at u1;simp only [Cs,nT,C4,Bm];exact ⟨u1.1.2.symm,u1.2.symm,trivial⟩
     rw [hx.1,hx.2.1,hx.2.2]
     split
     ·omega
     ·split
      ·omega
      ·split
       ·rw [if_neg (by omega)];omega
       ·omega
    ·rw [decide_eq_false_iff_not];omega
theorem eK {ds:List Dt} (ho:OkW ds) {t:Ty} (hn:AB ds t=true) {i j:Nat} {x y:Ty} (hi:(A0 ds t)[i]?=some x) (hj:(A0 ds t)[j]?=some y) {u v:Ty} (hu:A5 x u=true) (hv:A5 y v=true) (hij:i<j):BL ds u v<0:=by
 obtain ⟨so,n,z,ps⟩:=t;rw [G5];have hx:AC u=AC x/\nT u=nT x/\C4 u=C4 x:=by
  obtain ⟨a,b,c,d⟩:=x;obtain ⟨a',b',c',d'⟩:=u;simp only [A5,Bool.and_eq_true,beq_iff_eq] at hu;exact ⟨hu.1.1.symm,hu.1.2.symm,hu.2.symm⟩
 have hy:AC v=AC y/\nT v=nT y/\C4 v=C4 y:=by
  obtain ⟨a,b,c,d⟩:=y;obtain ⟨a',b',c',d'⟩:=v;simp only [A5,Bool.and_eq_true,beq_iff_eq] at hv;exact ⟨hv.1.1.symm,hv.1.2.symm,hv.2.symm⟩
 rw [hx.1,hx.2.1,hx.2.2,hy.2.1,hy.2.2];by_cases h2:so=2
 ·subst h2;have e:A0 ds (.mk 2 n z ps)=[.mk 2 0 [] [],.mk 2 1 [] []]:=by simp [A0]
  rw [e] at hi hj;have hj2:j<2:=by have:=(List.getElem?_eq_some_iff.1 hj).1;simpa using this
  have h0:i=0:=by omega
  have h1:j=1:=by omega
  subst h0;subst h1;simp at hi hj;subst hi;subst hj;simp [AC,nT]
 ·by_cases h3:so=3
  ·subst h3;have e:A0 ds (.mk 3 n z ps)=[.mk 3 0 [] []]:=by simp [A0]
   rw [e] at hj;have hj2:j<1:=by have:=(List.getElem?_eq_some_iff.1 hj).1;simpa using this
   omega
  ·by_cases h8:so=8
   ·subst h8;obtain ⟨hp,d,hd⟩:=C5 hn 8 n z ps rfl rfl;have hH:A0 ds (.mk 8 n z ps)=d.cons.map Kg:=by
     rw [show A0 ds (.mk 8 n z ps)=(match ds[(AQ z 0 ds).toNat]? with | some d=>d.cons.map λc=>Ty.mk 4 0 c.name [] | none=>[]) from rfl,hd];rfl
    rw [hH] at hi hj;simp only [List.getElem?_map,Option.map_eq_some_iff] at hi hj;obtain ⟨a,ha,rfl⟩:=hi;obtain ⟨b,hb,rfl⟩:=hj;have ca:=TF ho (n:=n) (ps:=ps) hd ha;have cb:=TF ho (n:=n) (ps:=ps) hd hb;have sa:=F5 ho.dif (n:=n) (s:=a.name) (ps:=ps) hp (by rw [ca];simp);have sb:=F5 ho.dif (n:=n) (s:=b.name) (ps:=ps) hp (by rw [cb];simp);rw [ca] at sa;rw [cb] at sb;rw [show AC (Kg a)=4 from rfl,show C4 (Kg a)=a.name from rfl,show C4 (Kg b)=b.name from rfl,if_neg (by decide),if_neg (by decide),if_pos rfl,sa,sb,if_pos (by omega)];omega
   ·have e:A0 ds (.mk so n z ps)=[]:=by simp [A0,h2,h3,h8]
    rw [e] at hi;simp at hi
theorem Z5 {ds:List Dt} (ho:OkW ds) (hg:grtW ds) {N:Nat} (hN:N<=1000000):∀(f:Nat) (m:Mi) (r:Option Ty),GU ds N m=true->DF ds m->Yi ds m->AD ds f m=some r->IL ds (KL ds m) r:=by
 intro f
 induction f with
 | zero=>intro m r _ _ _ h;simp [AD] at h
 | succ f ih =>
  intro m r hw hc hnt h;have hwi:=Bf.1 hw;have hci:=B4.1 hc;have hn:=hwi.1.1;have hkn:∀m r,GU ds N m=true->DF ds m->Yi ds m->AC m.hd≠0->AD ds (f+1) m=some r->IL ds (KL ds m) r:=λm r hw hc hnt hh h =>
   Z9 ho hg hw hc hh h λk hk r hr=>ih k r ((Bf.1 hw).2.2 k hk) ((B4.1 hc).2.2 k hk) ((FU.1 hnt).2 k hk) hr
  by_cases hh:AC m.hd=0
  case neg=>exact hkn m r hw hc hnt hh h
  by_cases t1:AC m.ty=1
  ·rw [E7 hh t1] at h;simp only [Option.some.injEq] at h;subst h;obtain ⟨n,n1,n2,n3⟩:=HM m.nt m.nt.length 0 (by omega);have hfree:=Sj m.nt 0 (Nat.zero_le _) λj hj=>by omega
   have hmin:=dR (nt:=m.nt) m.nt.length 0 λk h1 h2=>by omega
   simp only [CW];rw [Nat.sub_zero] at hfree;rw [show ((0:Nat):Int)=0 from rfl] at hfree hmin;rw [n1] at hfree hmin ⊢;have hnl:=hwi.1.2.2;have key:∀u,KL ds m u->∃k,u = .mk 1 k [] []/\BD m.nt u=false:=λu hu=>by
    obtain ⟨⟨a,b⟩,c,_⟩:=B7.1 hu;refine ⟨nT u,?_,c hh⟩;rw [Io] at a;generalize m.ty=t at *;obtain ⟨so,q,x,ps⟩:=t;obtain ⟨g,k,y,qs⟩:=u;simp only [AC] at t1;subst t1;have:g=1:=by simpa [KB] using a
    subst this;simp only [CK,Bool.and_eq_true,FN,if_true,beq_iff_eq] at b;obtain ⟨_,⟨_,rfl⟩,b2⟩:=b;have:qs=[]:=List.eq_nil_of_length_eq_zero (by omega);subst this;rfl
   refine ⟨B7.2 ⟨⟨?_,?_⟩,λ_=>hfree,λe=>absurd hh e⟩,λu hu=>?_⟩
   ·rw [Io];generalize m.ty=t at *;obtain ⟨so,q,x,ps⟩:=t;simp only [AC] at t1;subst t1;simp [KB]
   ·simp [CK,Cx,FN,EJ];omega
   ·obtain ⟨k,rfl,k2⟩:=key u hu;have:=hmin k k2;simp only [nT] at this;simp only [BY,Ai,Ag,if_true,BL,decide_eq_false_iff_not];omega
  by_cases t4:AC m.ty=4\/AC m.ty=5\/AC m.ty=6\/AC m.ty=7
  ·rw [E6 hh t4] at h;simp only [Option.some.injEq] at h;subst h;have key:∀u,HJ ds m.ty u↔u = .mk 5 0 [] []:=λu=>by
    generalize m.ty=t at *;obtain ⟨so,q,x,ps⟩:=t;obtain ⟨g,k,y,qs⟩:=u;simp only [AC] at t1 t4;simp only [HJ,Io,KB,if_neg (show ¬so=1 by omega),if_neg (show ¬so=2 by omega),if_neg (show ¬so=3 by omega),if_neg (show ¬so=8 by omega),beq_iff_eq];constructor
    ·rintro ⟨rfl,b⟩;simp only [CK,Bool.and_eq_true,FN] at b;rw [if_neg (by decide),if_neg (by decide),if_pos (.inr trivial)] at b;simp only [Bool.and_eq_true,beq_iff_eq] at b;obtain ⟨_,⟨rfl,rfl⟩,b2⟩:=b;have:qs=[]:=List.eq_nil_of_length_eq_zero (by omega);subst this;rfl
    ·intro e;cases e;exact ⟨rfl,by simp [CK,Cx,FN]⟩
   have hz:m.nt=[]:=by
    cases hl:m.nt with
    | nil=>rfl
    | cons x r =>
     have:=(FU.1 hnt).1 x (by rw [hl];simp);rcases this with h | ⟨h,_⟩
     ·have:=Qt h;omega
     ·omega
   refine ⟨B7.2 ⟨(key _).2 rfl,λ_=>by rw [hz];rfl,λe=>absurd hh e⟩,λu hm=>?_⟩;rw [(key u).1 (B7.1 hm).1];simp [BY,BL]
  rw [CX hh t1 t4] at h;have hs8:AC m.ty=2\/AC m.ty=3\/AC m.ty=8:=by
   have:=of_decide_eq_true hwi.2.1.2;omega
  have hu:∀u,KL ds m u->∃x,x∈A0 ds m.ty/\A5 x u=true/\BD m.nt x=false/\0<AP ds m x/\AP ds m x<=Ai u:=λu hu=>by
   obtain ⟨a,b,_⟩:=B7.1 hu;obtain ⟨x,x1,x2⟩:=PN hn a hs8;have:=(bQ ho _ u m.ty (Nat.lt_succ_self _) hn a).2 m x rfl x1 x2;exact ⟨x,x1,x2,by rw [Gl x2];exact b hh,this.1,this.2⟩
  cases hq:A9 ds m with
  | none =>
   rw [hq] at h;simp only [Option.some.injEq] at h;subst h;intro u hm;obtain ⟨x,x1,x2,x3,x4,_⟩:=hu u hm;simp only [A9,Option.map_eq_none_iff] at hq;exact (JG hq).2 x x1 ⟨x4,x3⟩
  | some h' =>
   rw [hq] at h;simp only at h;have hmem:=G4 hq;have hfm:=(Bs hmem).2;have hK:=hkn (AX ds m h') r (Le ho hn hwi.2.1.2 (Bs hmem).1) (Nm (.inl hmem)) (PU ds m h') hfm h;simp only [A9,Option.map_eq_some_iff] at hq;obtain ⟨p,hp,rfl⟩:=hq;obtain ⟨q1,_,q3⟩:=Eg hp;rcases q1 with q1 | ⟨_,q2,q4,q5⟩
   ·cases q1
   rcases U6 hp with e | ⟨_,i,i1,i2⟩
   ·cases e
   obtain ⟨r',r1,_,r3⟩:=Hm ho (f:=f+1000) hn (.inl hmem) λa ha=>by
    have hna:=BT ho.okd (t:=m.ty) (s:=C4 p.1);rw [C3,List.all_eq_true] at hna;exact F9 ho 256 a (hna a ha) (GO ho a ha) (Cp ho a).2 _ (by omega)
   have e:=I1 (show f+1<=f+1000+1 by omega) h;rw [r1] at e;cases e;obtain ⟨v,rfl,v2,_⟩:=r3 (by omega);obtain ⟨k1,k2⟩:=hK;have hk1:=(Jp hfm).1 k1;refine ⟨B7.2 ⟨hk1.1,λ_=>by rw [<- Gl hk1.2];exact q5,λe=>absurd hh e⟩,λu hm=>?_⟩;obtain ⟨x,x1,x2,x3,x4,x5⟩:=hu u hm;cases hx:A5 p.1 u with
   | true=>exact k2 u ((Jp hfm).2 ⟨(B7.1 hm).1,hx⟩)
   | false =>
    have hle:=q3 x x1 x4 x3;simp only [BY]
    split
    ·rename_i en;rw [decide_eq_false_iff_not];obtain ⟨j,hj,e⟩:=List.getElem_of_mem x1;have hjx:(A0 ds m.ty)[j]?=some x:=by rw [List.getElem?_eq_getElem hj,e]
     have hij:i<j:=by
      by_cases hlt:j<i
      ·have:=i2 j x hlt hjx x4 x3;omega
      ·have hne:i≠j:=λe=>by subst e;rw [i1] at hjx;cases hjx;rw [x2] at hx;cases hx
       omega
     have h1:=eK ho hn i1 hjx hk1.2 x2 hij;have h2:=G6 ho _ u m.ty v (Nat.lt_succ_self _) hn (B7.1 hm).1 hk1.1;omega
    ·rw [decide_eq_false_iff_not];omega
def R5 (l:List (Ty×Int)) (v:Ty):Prop:=∀x∈l,((AR x.1 v).2=true↔x.2=1)
theorem Ua (v:Ty):R5 [] v:=λx hx=>by cases hx
theorem Ms (x:Ty×Int) (l:List (Ty×Int)) (v:Ty):R5 (x::l) v↔((AR x.1 v).2=true↔x.2=1)/\R5 l v:=by
 simp only [R5,List.mem_cons,forall_eq_or_imp]
theorem Wq {ds:List Dt} (ho:OkW ds) (hg:grtW ds) {t:Ty} (hn:AB ds t=true):∀(f N:Nat) (m:Mi) (l:List (Ty×Int)) (r:Option Ty),N+f<=1000000->MOk ds t N m->Yi ds m->H1 ds t l->(∀y∈l,y.2=0\/y.2=1) ->
  Ci ds f m l=some r->IL ds (λv=>KL ds m v/\R5 l v) r:=by
 intro f
 induction f with
 | zero=>intro N m l r _ _ _ _ _ h;simp [Ci] at h
 | succ f ih =>
  intro N m l r hN hm hnt hr hb h;cases l with
  | nil =>
   have:=Z5 ho hg (by omega) 1000 m r hm.wf hm.coh hnt h;exact Fh (λv=>⟨λh=>⟨h,Ua v⟩,λh=>h.1⟩) this
  | cons x l =>
   obtain ⟨p,b⟩:=x;obtain ⟨h1,h2,h3⟩:=hr (p,b) (by simp);have hb0:=hb (p,b) (by simp);simp only at h1 h2 h3 hb0;have hl:=λv=>Yo ho p (v:=v) hm.wf hm.coh (by rw [hm.typ];exact h1) h2;have hty:∀{m:Mi} {v:Ty},MOk ds t N m->KL ds m v->HJ ds t v:=λhm hv=>by have:=(B7.1 hv).1;rwa [hm.typ] at this
   have hty1:∀{m:Mi} {v:Ty},MOk ds t (N+1) m->KL ds m v->HJ ds t v:=λhm hv=>by have:=(B7.1 hv).1;rwa [hm.typ] at this
   simp only [Ci] at h;by_cases h22:(Ax ds p m).1=2
   ·rw [if_pos h22] at h;have hfree:=(hl zT).1 h22;have hfm:AC (Ax ds p m).2.2≠0:=by
     have A:=Nq ho p hm.wf hm.coh (by rw [hm.typ];exact h1) h2 h22;have:∀(path:List Int) (m:Mi),KM ds (Ax ds p m).2.2 m path->True:=λ_ _ _=>trivial;have key:∀{h:Ty} (path:List Int) (m:Mi),KM ds h m path->AC h≠0:=by
      intro h path
      induction path with
      | nil=>intro m ⟨_,_,h3⟩;exact (OM h3).1
      | cons i q ihq=>intro m ⟨k,_,_,h3⟩;exact ihq k h3
     exact key _ _ hfree
    have hsp:=λv=>Um ho hfm (Ax ds p m).2.1 (v:=v) hm.wf hfree;have hmT:=hm.split ho h1 h2 h3 h22;cases ha:Ci ds f (A7 ds m (Ax ds p m).2.1 (Ax ds p m).2.2 true) ((p,b)::l) with
    | none=>rw [ha] at h;simp [ND] at h
    | some ra =>
     cases hbb:Ci ds f (A7 ds m (Ax ds p m).2.1 (Ax ds p m).2.2 false) ((p,b)::l) with
     | none=>rw [ha,hbb] at h;simp [ND] at h
     | some rb =>
      rw [ha,hbb] at h;simp only [ND,Option.some.injEq] at h;subst h;have i1:=ih (N+1) _ _ ra (by omega) (hmT true) (PT true _ hnt hfree) hr hb ha;have i2:=ih (N+1) _ _ rb (by omega) (hmT false) (PT false _ hnt hfree) hr hb hbb;refine Fh (λv=>?_) (bO ho hn (λv hv=>hty1 (hmT true) hv.1) (λv hv=>hty1 (hmT false) hv.1) i1 i2);constructor
      ·rintro (⟨a,c⟩ | ⟨a,c⟩)
       ·exact ⟨(hsp v).1 true a,c⟩
       ·exact ⟨(hsp v).1 false a,c⟩
      ·rintro ⟨a,c⟩;exact ((hsp v).2 a).imp (λa=>⟨a,c⟩) (λa=>⟨a,c⟩)
   ·rw [if_neg h22] at h;have hrg:=KI ds p m;have hm1:∀v,KL ds m v->(((AR p v).2=true↔b=1)↔(Ax ds p m).1=b):=λv hv=>by
     obtain ⟨c1,c2⟩:=(hl v).2 hv;rcases hrg with e | e | e
     ·have hc:=c2 e;rw [e,hc];constructor
      ·intro h;by_cases hb1:b=1
       ·exact absurd (h.2 hb1) (by simp)
       ·omega
      ·intro h;subst h;simp
     ·have hc:=c1 e;rw [e,hc];constructor
      ·intro h;exact (h.1 rfl).symm
      ·intro h;subst h;simp
     ·exact absurd e h22
    by_cases e:(Ax ds p m).1=b
    ·rw [if_pos e] at h;have i1:=ih N m l r (by omega) hm hnt (λy hy=>hr y (by simp [hy])) (λy hy=>hb y (by simp [hy])) h;refine Fh (λv=>?_) i1;rw [Ms];constructor
     ·rintro ⟨a,c⟩;exact ⟨a,(hm1 v a).2 e,c⟩
     ·rintro ⟨a,_,c⟩;exact ⟨a,c⟩
    ·rw [if_neg e] at h;simp only [Option.some.injEq] at h;subst h;rintro v ⟨a,c⟩;rw [Ms] at c;exact e ((hm1 v a).1 c.1)
theorem SB (v:Ty):∀(l:List Ty) (i:Nat),-1<=CE v i l/\CE v i l<(i:Int)+l.length\/(l=[]/\CE v i l = -1)
 | [],i=>.inr ⟨rfl,rfl⟩
 | p::r,i=>by
  have:=SB v r (i+1);left;simp only [CE,List.length_cons];cases (AR p v).2
  ·simp only [cond_false];rcases this with h | ⟨h1,h2⟩
   ·omega
   ·rw [h2];omega
  ·simp only [cond_true];omega
theorem SA (v:Ty) (l:List Ty) : -1<=CE v 0 l/\(CE v 0 l<l.length):=by
 rcases SB v l 0 with h | ⟨h1,h2⟩
 ·omega
 ·rw [h2,h1];simp
theorem XQ (c:Cse) (v:Ty):Al Tryz.prog 28 [.agg (dCse c),.agg (dTyc v)] (.tup [.int .i64 (bif D6 c v then CE v 0 c.rows else 0),.bool (D6 c v)]):=by
 have hF:=SU c v;have hb:=SA v c.rows;generalize D6 c v=b at *;obtain ⟨ds,⟨c1,c2,c3,c4⟩,rows⟩:=c;obtain ⟨g,m,z,vs⟩:=v;simp only at hb hF ⊢;generalize CE (.mk g m z vs) 0 rows=n at *;refine Ad A4 Tryz.func28 (by decide +kernel) rfl [3,4,5] rfl rfl ?_;refine bg [] rfl (by simp) ?_;cases b with
 | false =>
  refine Ac rfl (λ_=>hF) (by simp) ?_;refine bg [] rfl (by simp) ?_;refine Aa rfl (λh=>by simp at h) (λh=>?_);refine bd [] rfl (by simp [Ah];rfl) ?_;exact Ab ⟨_,rfl,tV rfl,trivial⟩
 | true =>
  by_cases hn:n<0
  ·have:n = -1:=by omega
   subst this;refine Ac rfl (λ_=>hF) (by simp) ?_;refine bg [] rfl (by simp) ?_;refine Aa rfl (λh=>?_) (λh=>by simp at h);refine bd [] rfl (by simp [Ah]) ?_;exact Ab ⟨_,rfl,tV rfl,trivial⟩
  ·rw [show decide (n<0)=false by simpa using hn] at hF;refine Ac rfl (λ_=>hF) (by simp) ?_;refine bg [] rfl (by simp) ?_;refine Aa rfl (λh=>by simp at h) (λh=>?_);refine bd [] rfl (by simp [Ah];rfl) ?_;refine Ab ⟨_,rfl,tV ?_,trivial⟩;have h1:decide (0<=n)=true:=by simpa using (show 0<=n by omega)
   have h2:decide (n<rows.length)=true:=by simpa using hb.2
   simp [h1,h2]
mutual
def EB:Ty->Nat
 | .mk _ _ _ ps=>1+CB ps
def CB:List Ty->Nat
 | []=>0
 | t::r=>max (EB t) (CB r)
end
mutual
theorem K1:∀(t:Ty) (l d:Int),(0<=Bw t l d↔(Ai t:Int)<=l/\(EB t:Int)<=d)/\(0<=Bw t l d->Bw t l d=l-Ai t)
 | .mk s n x ps,l,d=>by
  obtain ⟨h1,h2⟩:=Nz ps (l-1) (d-1);simp only [Bw,Ai,EB];by_cases h0:l<1\/d<1
  ·rw [if_pos h0];exact ⟨⟨λh=>by omega,λh=>by omega⟩,λh=>by omega⟩
  ·rw [if_neg h0];by_cases hl:0<=l-1
   ·refine ⟨⟨λh=>?_,λh=>(h1 hl).2 ⟨by omega,.inr (by omega)⟩⟩,λh=>by have:=h2 hl h;omega⟩;obtain ⟨q1,q2⟩:=(h1 hl).1 h;rcases q2 with rfl | q2
    ·simp only [CB,Ag] at q1 ⊢;omega
    ·omega
   ·omega
theorem Nz:∀(ts:List Ty) (l d:Int),(0<=l->(0<=BE ts l d↔(Ag ts:Int)<=l/\(ts=[]\/(CB ts:Int)<=d)))/\(0<=l->0<=BE ts l d->BE ts l d=l-Ag ts)
 | [],l,d=>by simp [BE,Ag]
 | t::r,l,d=>by
  obtain ⟨a1,a2⟩:=K1 t l d;obtain ⟨b1,b2⟩:=Nz r (Bw t l d) d;simp only [BE,Ag,CB];refine ⟨λhl=>?_,λhl=>?_⟩
  ·rw [if_pos hl];by_cases hw:0<=Bw t l d
   ·have e:=a2 hw;obtain ⟨q1,q2⟩:=a1.1 hw;rw [b1 hw,e];constructor
    ·rintro ⟨h,h'⟩;refine ⟨by omega,.inr ?_⟩;rcases h' with rfl | h'
     ·simp [CB];omega
     ·omega
    ·rintro ⟨h,h'⟩;refine ⟨by omega,?_⟩;rcases h' with h' | h'
     ·cases h'
     ·exact .inr (by omega)
   ·have hle:=HB t l d;have:BE r (Bw t l d) d=Bw t l d:=by
     cases r with
     | nil=>rfl
     | cons a b=>simp only [BE];rw [if_neg hw]
    rw [this];refine ⟨λh=>absurd h hw,λ⟨h,h'⟩=>?_⟩;rcases h' with h' | h'
    ·cases h'
    ·exact absurd (a1.2 ⟨by omega,by omega⟩) hw
  ·rw [if_pos hl];intro h;have hw:0<=Bw t l d:=by
    by_cases hw:0<=Bw t l d
    ·exact hw
    ·exfalso;cases r with
     | nil=>exact hw h
     | cons a b=>simp only [BE] at h;rw [if_neg hw] at h;exact hw h
   have:=b2 hw h;have:=a2 hw;omega
end
def QJ (s:List Int) (n:Int):Nat:=(s.filter λx=>decide (0<x/\x<=n)).length
theorem mE (s:List Int) (n:Int):QJ s n<=s.length:=List.length_filter_le _ _
theorem VO {a b:Int} (h:a<=b):∀s:List Int,QJ s a<=QJ s b
 | []=>Nat.le_refl _
 | x::r=>by
  have ih:=VO h r;simp only [QJ,List.filter_cons] at ih ⊢;by_cases h1:0<x/\x<=a
  ·have h2:0<x/\x<=b:=⟨h1.1,by omega⟩
   simp only [h1,h2,and_self,decide_true,if_true,List.length_cons];omega
  ·by_cases h2:0<x/\x<=b
   ·simp only [decide_eq_false h1,decide_eq_true h2,if_true,Bool.false_eq_true,if_false,List.length_cons];omega
   ·simp only [decide_eq_false h1,decide_eq_false h2,Bool.false_eq_true,if_false];exact ih
theorem fM {a b:Int} (h:a<b) (h0:0<b):∀{s:List Int},b∈s->QJ s a<QJ s b
 | x::r,hm=>by
  have im:=VO (show a<=b by omega) r;simp only [QJ,List.filter_cons] at im ⊢;by_cases e:x=b
  ·subst e;have h1:¬(0<x/\x<=a):=λh=>by omega
   have h2:0<x/\x<=x:=⟨h0,Int.le_refl _⟩
   simp only [decide_eq_false h1,decide_eq_true h2,if_true,Bool.false_eq_true,if_false,List.length_cons];omega
  ·have ih:=fM h h0 (s:=r) (by simpa [Ne.symm e] using hm);simp only [QJ] at ih;by_cases h1:0<x/\x<=a
   ·have h2:0<x/\x<=b:=⟨h1.1,by omega⟩
    simp only [h1,h2,and_self,decide_true,if_true,List.length_cons];omega
   ·by_cases h2:0<x/\x<=b
    ·simp only [decide_eq_false h1,decide_eq_true h2,if_true,Bool.false_eq_true,if_false,List.length_cons];omega
    ·simp only [decide_eq_false h1,decide_eq_false h2,Bool.false_eq_true,if_false];exact ih
theorem fN {ds:List Dt} (ho:OkW ds) (n:Int):QJ (D7 ds) n<=4:=by
 have:=mE (D7 ds) n;rw [(Mz ho).len] at this;have:=ho.d4;omega
theorem iB {ds:List Dt} {t:Ty} (h8:AC t=8) (h:0<Cq ds t):Cq ds t∈D7 ds:=by
 obtain ⟨so,n,x,ps⟩:=t;simp only [AC] at h8;subst h8;simp only [Cq,EI,if_true] at h ⊢;cases hq:(D7 ds)[(Kh ds x).toNat]? with
 | none=>simp [List.getD,hq] at h
 | some y=>simp only [List.getD,hq,Option.getD_some];exact List.mem_of_getElem? hq
theorem NX {g:Mi->Option (Option Ty)}:∀{ks:List Mi} {vs:List Ty},Bd g ks=some (some vs)->ks.length=vs.length/\∀(i:Nat) k v,ks[i]?=some k->vs[i]?=some v->g k=some (some v)
 | [],vs,h=>by
  simp only [Bd,Option.some.injEq] at h;subst h;exact ⟨rfl,λi k v h=>by simp at h⟩
 | k::r,vs,h=>by
  obtain ⟨v,h1,h2⟩:=NV h;cases v with
  | none=>simp only at h2;cases h2
  | some v =>
   simp only at h2;obtain ⟨q,h3,h4⟩:=h2;cases q with
   | none=>simp at h4
   | some ws =>
    simp only [Option.map_some,Option.some.injEq] at h4;subst h4;obtain ⟨i1,i2⟩:=NX h3;refine ⟨by simp [i1],λi x y hx hy=>?_⟩;cases i with
    | zero=>simp at hx hy;subst hx;subst hy;exact h1
    | succ i=>exact i2 i x y (by simpa using hx) (by simpa using hy)
theorem KT {l:List Ty} {n:Nat}:CB l<=n↔∀v∈l,EB v<=n:=by
 induction l with
 | nil=>simp [CB]
 | cons t r ih=>simp only [CB,List.mem_cons,forall_eq_or_imp,<- ih];omega
theorem KS (h:Ty) (vs:List Ty):EB (Cs h vs)=1+CB vs:=by obtain ⟨a,b,c,d⟩:=h;rfl
theorem Jn {ds:List Dt} {f:Nat} {m:Mi} {v:Ty} (hh:AC m.hd≠0) (h:AD ds (f+1) m=some (some v)):∃vs,v=Cs m.hd vs/\m.ks.length=vs.length/\∀(i:Nat) k u,m.ks[i]?=some k->vs[i]?=some u->AD ds f k=some (some u):=by
 rw [En hh] at h;cases hl:Bd (AD ds f) m.ks with
 | none=>rw [hl] at h;cases h
 | some o =>
  rw [hl] at h;cases o with
  | none=>simp at h
  | some vs =>
   simp only [Option.map_some,Option.some.injEq] at h;subst h;obtain ⟨h1,h2⟩:=NX hl;exact ⟨vs,rfl,h1,h2⟩
theorem RW {ds:List Dt} {m:Mi} {h:Ty} (hq:A9 ds m=some h):h∈A0 ds m.ty/\0<AP ds m h/\∀x∈A0 ds m.ty,0<AP ds m x->BD m.nt x=false->AP ds m h<=AP ds m x:=by
 have hm:=G4 hq;simp only [A9,Option.map_eq_some_iff] at hq;obtain ⟨p,hp,rfl⟩:=hq;obtain ⟨q1,_,q3⟩:=Eg hp;rcases q1 with q1 | ⟨_,q2,q4,_⟩
 ·cases q1
 exact ⟨hm,by omega,λx hx h0 hn=>by have:=q3 x hx h0 hn;omega⟩
theorem Vt {ds:List Dt} (ho:OkW ds):∀(k:Nat) (t:Ty) (f:Nat) (v:Ty),AB ds t=true->Py t=true->Cq ds t<=k->AD ds f (Aq t)=some (some v)->EB v<=QJ (D7 ds) (Cq ds t)+1:=by
 intro k
 induction k with
 | zero =>
  intro t f v hn hs hk h;obtain ⟨r,r1,r2,_⟩:=F9 ho 0 t hn hs hk (f+2) (by omega);have:=I1 (show f<=f+2 by omega) h;rw [r1] at this;cases this;have:=(Cp ho t).1;cases r2 (by omega)
 | succ k ih =>
  intro t f v hn hs hk h;obtain ⟨f,rfl⟩:∃g,f=g+1:=⟨f-1,by cases f with | zero=>simp [AD] at h | succ f=>rfl⟩
  by_cases t1:AC t=1
  ·rw [E7 (m:=Aq t) rfl t1] at h;simp only [Option.some.injEq] at h;obtain ⟨n,e,_⟩:=HM (Aq t).nt (Aq t).nt.length 0 (by omega);rw [<- h,CW,e];simp [EB,CB]
  by_cases t4:AC t=4\/AC t=5\/AC t=6\/AC t=7
  ·rw [E6 (m:=Aq t) rfl t4] at h;simp only [Option.some.injEq] at h;rw [<- h];simp [EB,CB]
  rw [CX (m:=Aq t) rfl t1 t4] at h;cases hq:A9 ds (Aq t) with
  | none=>rw [hq] at h;simp at h
  | some x =>
   rw [hq] at h;simp only at h;obtain ⟨x1,x2,x3⟩:=RW hq;obtain ⟨vs,e,hl,hv⟩:=Jn (m:=AX ds (Aq t) x) (Bs x1).2 h;subst e;rw [KS];have hks:(AX ds (Aq t) x).ks=(AK ds t (C4 x)).1.map Aq:=rfl;rw [hks] at hl hv;by_cases h8:AC t=8
   ·obtain ⟨z1,z2⟩:=OV ho (m:=Aq t) hn h8;have h0:Cq ds t≠0:=λe=>z1 e x x1 x2;obtain ⟨⟨y,y1,y2,y3⟩,_⟩:=z2 h0;have hc:=x3 y y1 y2 rfl;rw [JX ho (m:=Aq t) hn (.inl x1)] at x2 hc;have hge:=(M8 ho x2).2;have hb:=(Cp ho t).1;have hty:(Aq t).ty=t:=rfl;rw [hty] at hge y3 hc;have hmem:=iB (ds:=ds) h8 (by omega);have hna:=BT ho.okd (t:=t) (s:=C4 x);rw [C3,List.all_eq_true] at hna;have:CB vs<=QJ (D7 ds) (Cq ds t):=KT.2 λu hu=>by
     obtain ⟨i,hi,e⟩:=List.getElem_of_mem hu;have hui:vs[i]?=some u:=by rw [List.getElem?_eq_getElem hi,e]
     obtain ⟨a,ha⟩:=Am (l:=(AK ds t (C4 x)).1) (i:=i) (by simpa using (by rw [<- hl] at hi;simpa using hi));have hg:=hge a (List.mem_of_getElem? ha);have:=ih a f u (hna a (List.mem_of_getElem? ha)) (GO ho a (List.mem_of_getElem? ha)) (by omega) (hv i _ u (by simp [ha]) hui);have:=fM (show Cq ds a<Cq ds t by omega) (by omega) hmem;omega
    omega
   ·rw [Fr h8] at hl;have:vs=[]:=List.eq_nil_of_length_eq_zero (by simpa using hl.symm);subst this;simp [CB]
mutual
def TW:Mi->Nat
 | .mk _ nt hd ks=>if AC hd=0 then (if nt=[] then 256 else 769) else 1+Ny ks
def Ny:List Mi->Nat
 | []=>0
 | k::r=>TW k+Ny r
end
theorem gN (m:Mi):TW m=if AC m.hd=0 then (if m.nt=[] then 256 else 769) else 1+Ny m.ks:=by obtain ⟨a,b,c,d⟩:=m;simp only [TW,Mi.hd,Mi.nt,Mi.ks];rfl
theorem TV:∀{ks:List Mi} {vs:List Ty},ks.length=vs.length->(∀(i:Nat) k u,ks[i]?=some k->vs[i]?=some u->Ai u<=TW k)->Ag vs<=Ny ks
 | [],[],_,_=>Nat.le_refl _
 | k::r,v::vs,hl,h=>by
  have h1:=h 0 k v rfl rfl;have h2:=TV (ks:=r) (vs:=vs) (by simpa using hl) λi x y hx hy=>h (i+1) x y (by simpa using hx) (by simpa using hy);simp only [Ag,Ny];omega
 | [],_::_,h,_=>by simp at h
 | _::_,[],h,_=>by simp at h
theorem UY {ds:List Dt} (ho:OkW ds) {N:Nat} (hN:N<=1000000):∀(f:Nat) (m:Mi) (v:Ty),GU ds N m=true->DF ds m->AD ds f m=some (some v)->Ai v<=TW m/\EB v<=GS m+5:=by
 intro f
 induction f with
 | zero=>intro m v _ _ h;simp [AD] at h
 | succ f ih =>
  intro m v hw hc h;have hwi:=Bf.1 hw;have hci:=B4.1 hc;rw [gN];by_cases hh:AC m.hd=0
  case neg =>
   rw [if_neg hh];obtain ⟨vs,rfl,hl,hv⟩:=Jn hh h;rw [PW,KS];have hk:∀(i:Nat) k u,m.ks[i]?=some k->vs[i]?=some u->Ai u<=TW k/\EB u<=GS k+5:=λi k u hk hu=>ih k u (hwi.2.2 k (List.mem_of_getElem? hk)) (hci.2.2 k (List.mem_of_getElem? hk)) (hv i k u hk hu);have h1:=TV hl λi k u a b=>(hk i k u a b).1;have h2:CB vs<=GS m+4:=KT.2 λu hu=>by
    obtain ⟨i,hi,e⟩:=List.getElem_of_mem hu;obtain ⟨k,hki⟩:=Am (l:=m.ks) (i:=i) (by omega);have:=(hk i k u hki (by rw [List.getElem?_eq_getElem hi,e])).2;have:=LK (List.mem_of_getElem? hki);omega
   omega
  rw [if_pos hh];have hg1:1<=GS m:=by rw [FW];omega
  have hsr:=of_decide_eq_true hwi.2.1.2;constructor
  ·by_cases hnt:m.nt=[]
   ·rw [if_pos hnt,];have hfr:AD ds (f+1) m=AD ds (f+1) (Aq m.ty):=NY f rfl hnt hh rfl;rw [hfr] at h;obtain ⟨r,r1,r2,r3⟩:=F9 ho 256 m.ty hwi.1.1 hwi.2.1.2 (Cp ho m.ty).2 (f+1+258) (by omega);have:=I1 (show f+1<=f+1+258 by omega) h;rw [r1] at this;cases this;have hb:=Cp ho m.ty;by_cases h0:Cq ds m.ty=0
    ·cases r2 h0
    ·obtain ⟨w,w1,w2,_⟩:=r3 h0;cases w1;omega
   ·rw [if_neg hnt];obtain ⟨r,r1,r2⟩:=UW ho (f:=f+770) (by omega) hwi.1.1 hwi.2.1.2 (by omega) hh;have:=I1 (show f+1<=f+770+1 by omega) h;rw [r1] at this;cases this;exact (r2 v rfl).1
  ·by_cases t1:AC m.ty=1
   ·rw [E7 hh t1] at h;simp only [Option.some.injEq] at h;obtain ⟨n,e,_⟩:=HM m.nt m.nt.length 0 (by omega);rw [<- h,CW,e];simp [EB,CB]
   by_cases t4:AC m.ty=4\/AC m.ty=5\/AC m.ty=6\/AC m.ty=7
   ·rw [E6 hh t4] at h;simp only [Option.some.injEq] at h;rw [<- h];simp [EB,CB]
   rw [CX hh t1 t4] at h;cases hq:A9 ds m with
   | none=>rw [hq] at h;simp at h
   | some x =>
    rw [hq] at h;simp only at h;obtain ⟨x1,_,_⟩:=RW hq;obtain ⟨vs,e,hl,hv⟩:=Jn (m:=AX ds m x) (Bs x1).2 h;subst e;rw [KS];have hks:(AX ds m x).ks=(AK ds m.ty (C4 x)).1.map Aq:=rfl;rw [hks] at hl hv;have hna:=BT ho.okd (t:=m.ty) (s:=C4 x);rw [C3,List.all_eq_true] at hna;have:CB vs<=5:=KT.2 λu hu=>by
     obtain ⟨i,hi,e⟩:=List.getElem_of_mem hu;have hui:vs[i]?=some u:=by rw [List.getElem?_eq_getElem hi,e]
     obtain ⟨a,ha⟩:=Am (l:=(AK ds m.ty (C4 x)).1) (i:=i) (by rw [<- hl] at hi;simpa using hi);have hd:=Vt ho 256 a f u (hna a (List.mem_of_getElem? ha)) (GO ho a (List.mem_of_getElem? ha)) (Cp ho a).2 (hv i _ u (by simp [ha]) hui);have:=fN ho (Cq ds a);omega
    omega
def GT (p:Ty):Bool:=decide (AC p=1\/AC p=2)
mutual
def mX:Ty->Nat
 | .mk f _ _ ps=>if f=1\/f=2 then 0 else 1+IN ps
def IN:List Ty->Nat
 | []=>0
 | p::r=>mX p+IN r
end
mutual
theorem dM:∀p:Ty,mX p<=Ai p
 | .mk f n x ps=>by
  have:=dL ps;simp only [mX,Ai]
  split <;> omega
theorem dL:∀l:List Ty,IN l<=Ag l
 | []=>Nat.le_refl _
 | p::r=>by
  have:=dM p;have:=dL r;simp only [IN,Ag];omega
end
theorem lJ (p:Ty):mX p=if GT p=true then 0 else 1+IN (Bm p):=by
 obtain ⟨f,n,x,ps⟩:=p;by_cases h:f=1\/f=2 <;> simp [mX,GT,AC,Bm,h]
def IU (i:Nat):List Ty->List Ty
 | []=>[]
 | p::r=>if GT p=true then IU i r else match (Bm p)[i]? with
  | some q=>q::IU i r
  | none=>IU i r
theorem Ui {i:Nat} {p q:Ty}:∀{ps:List Ty},p∈ps->GT p=false->(Bm p)[i]?=some q->q∈IU i ps
 | x::r,hm,hw,hq=>by
  simp only [IU];rcases List.mem_cons.1 hm with rfl | hm
  ·rw [if_neg (by rw [hw];simp),hq];simp
  ·have ih:=Ui (ps:=r) hm hw hq
   split
   ·exact ih
   ·split
    ·exact List.mem_cons_of_mem _ ih
    ·exact ih
def N7:List Ty->Nat
 | []=>0
 | p::r=>(if GT p=true then 0 else 1)+N7 r
theorem Uh {p:Ty}:∀{ps:List Ty},p∈ps->GT p=false->1<=N7 ps
 | x::r,hm,hw=>by
  simp only [N7];rcases List.mem_cons.1 hm with rfl | hm
  ·rw [hw];simp
  ·have:=Uh (ps:=r) hm hw;omega
def Hy (ps:List Ty):Nat->Nat->Nat
 | _,0=>0
 | i,n+1=>IN (IU i ps)+Hy ps (i+1) n
theorem NA (p:Ty) (ps:List Ty):∀(n i:Nat),Hy (p::ps) i n<=(if GT p=true then 0 else IN ((Bm p).drop i))+Hy ps i n
 | 0,i=>by simp only [Hy];omega
 | n+1,i=>by
  have ih:=NA p ps n (i+1);simp only [Hy,IU];cases hw:GT p with
  | true=>rw [hw] at ih;simp only [if_true] at ih ⊢;omega
  | false =>
   rw [hw] at ih;simp only [Bool.false_eq_true,if_false] at ih ⊢;cases hq:(Bm p)[i]? with
   | none =>
    have h1:(Bm p).length<=i:=List.getElem?_eq_none_iff.1 hq;rw [List.drop_eq_nil_of_le (by omega)] at ih;simp only [IN] at ih ⊢;omega
   | some q =>
    rw [An hq];simp only [IN];omega
theorem M3:∀(ps:List Ty) (n:Nat),Hy ps 0 n+N7 ps<=IN ps
 | [],n=>by
  have:∀n i,Hy [] i n=0:=λn=>by
   induction n with
   | zero=>intro i;rfl
   | succ n ih=>intro i;simp [Hy,IU,IN,ih]
  simp [this,N7,IN]
 | p::r,n=>by
  have h1:=NA p r n 0;have h2:=M3 r n;have h3:=lJ p;simp only [IN,N7];cases hw:GT p with
  | true=>rw [hw] at h1 h3;simp only [if_true] at h1 h3 ⊢;omega
  | false=>rw [hw] at h1 h3;simp only [Bool.false_eq_true,if_false,List.drop_zero] at h1 h3 ⊢;omega
mutual
def KX:Mi->List Ty->Prop
 | .mk _ nt hd ks,ps=>(nt≠[]\/AC hd≠0->∃p∈ps,GT p=false)/\LY ks 0 ps
def LY:List Mi->Nat->List Ty->Prop
 | [],_,_=>True
 | k::r,i,ps=>KX k (IU i ps)/\LY r (i+1) ps
end
theorem LZ (m:Mi) (ps:List Ty):KX m ps↔(m.nt≠[]\/AC m.hd≠0->∃p∈ps,GT p=false)/\LY m.ks 0 ps:=by obtain ⟨a,b,c,d⟩:=m;simp only [KX,Mi.nt,Mi.hd,Mi.ks]
theorem JW {ps:List Ty}:∀{ks:List Mi} {i:Nat},LY ks i ps↔∀(j:Nat) k,ks[j]?=some k->KX k (IU (i+j) ps)
 | [],i=>by simp [LY]
 | k::r,i=>by
  simp only [LY,JW (ks:=r) (i:=i+1)];constructor
  ·rintro ⟨h1,h2⟩ j x hx;cases j with
   | zero=>simp at hx;subst hx;exact h1
   | succ j=>have:=h2 j x (by simpa using hx);rwa [show i+1+j=i+(j+1) by omega] at this
  ·intro h;exact ⟨h 0 k rfl,λj x hx=>by have:=h (j+1) x (by simpa using hx);rwa [show i+(j+1)=i+1+j by omega] at this⟩
theorem SI (t:Ty) (ps:List Ty):KX (Aq t) ps:=(LZ _ _).2 ⟨λh=>by rcases h with h | h <;> exact absurd rfl h,by simp [Aq,Mi.ks,LY]⟩
theorem SH {ds:List Dt} {m:Mi} {h p:Ty} {ps:List Ty} (hp:p∈ps) (hw:GT p=false):KX (AX ds m h) ps:=(LZ _ _).2 ⟨λ_=>⟨p,hp,hw⟩,JW.2 λj k hk=>by
 simp only [AX,Mi.ks,List.getElem?_map,Option.map_eq_some_iff] at hk;obtain ⟨t,_,rfl⟩:=hk;exact SI t _⟩
theorem VG {ds:List Dt} {m:Mi} {p:Ty} {ps:List Ty} (hp:p∈ps) (hw:GT p=false) (h:KX m ps):KX (Af ds m) ps:=by
 rcases CI (ds:=ds) m with e | ⟨_,x,_,e⟩
 ·rw [e];exact h
 ·rw [e];exact SH hp hw
mutual
theorem Ni {ds:List Dt} (is:Bool):∀(p:Ty) {m:Mi} {ps:List Ty},p∈ps->KX m ps->(Ax ds p m).1=2->KX (A7 ds m (Ax ds p m).2.1 (Ax ds p m).2.2 is) ps
 | .mk f n x qs,m,ps,hp,hc,hl=>by
  by_cases h12:f=1\/f=2
  ·simp only [Ax,if_pos h12] at hl;cases hl
  have hw:GT (.mk f n x qs)=false:=decide_eq_false h12;have hs:=VG (ds:=ds) hp hw hc;have el:Ax ds (.mk f n x qs) m=if AC (Af ds m).hd=0/\BD (Af ds m).nt (AN (.mk f n x qs))=false then (2,[],AN (.mk f n x qs)) else
   if AC (Af ds m).hd=0\/A5 (Af ds m).hd (AN (.mk f n x qs))=false then (0,[],zT) else AW ds 0 qs (Af ds m).ks:=by simp only [Ax,if_neg h12]
  rw [el] at hl ⊢
  split
  ·cases is with
   | true=>exact SH hp hw
   | false =>
    rw [LZ] at hc ⊢;exact ⟨λ_=>⟨_,hp,hw⟩,hc.2⟩
  ·rename_i h1;rw [if_neg h1] at hl
   split
   ·rename_i h2;rw [if_pos h2] at hl;cases hl
   ·rename_i h2;rw [if_neg h2] at hl;have h0:AC (Af ds m).hd≠0:=λe=>h2 (.inl e);obtain ⟨hs1,hs2⟩:=(LZ _ _).1 hs;obtain ⟨j,q,k,j1,j2,j3,j4,j5,j6⟩:=QB (ds:=ds) is qs (l:=(Af ds m).ks) (i:=0) hl;rw [j4,j5];have hz:(0+(j:Int)).toNat=j:=by omega
    simp only [A7,hz,j2];rw [LZ];refine ⟨λ_=>⟨_,hp,hw⟩,JW.2 λi y hy=>?_⟩;rw [JW] at hs2;by_cases e:j=i
    ·subst e;replace hy:((Af ds m).ks.set j (A7 ds k (Ax ds q k).2.1 (Ax ds q k).2.2 is))[j]?=some y:=hy;rw [List.getElem?_set_self (List.getElem?_eq_some_iff.1 j2).1] at hy;cases hy;exact j6 (IU (0+j) ps) (by rw [Nat.zero_add];exact Ui hp hw j1) (hs2 j k j2)
    ·replace hy:((Af ds m).ks.set j (A7 ds k (Ax ds q k).2.1 (Ax ds q k).2.2 is))[i]?=some y:=hy;rw [List.getElem?_set_ne e] at hy;exact hs2 i y hy
theorem QB {ds:List Dt} (is:Bool):∀(qs:List Ty) {l:List Mi} {i:Int},(AW ds i qs l).1=2->∃(j:Nat) (q:Ty) (k:Mi),qs[j]?=some q/\l[j]?=some k/\(Ax ds q k).1=2/\(AW ds i qs l).2.1=(i+j)::(Ax ds q k).2.1/\(AW ds i qs l).2.2=(Ax ds q k).2.2 /\
  ∀ps,q∈ps->KX k ps->KX (A7 ds k (Ax ds q k).2.1 (Ax ds q k).2.2 is) ps
 | [],l,i,h=>by simp [AW] at h
 | q::r,[],i,h=>by simp [AW] at h
 | q::r,k::ks,i,h=>by
  simp only [AW] at h ⊢;by_cases h1:(Ax ds q k).1=1
  ·rw [if_pos h1] at h ⊢;obtain ⟨j,y,z,a,b,c,d,e,g⟩:=QB is r h;exact ⟨j+1,y,z,by simpa using a,by simpa using b,c,by rw [d];simp;omega,e,g⟩
  ·rw [if_neg h1] at h ⊢;exact ⟨0,q,k,rfl,rfl,h,by simp,rfl,λps hp hk=>Ni is q hp hk h⟩
end
mutual
theorem Y1:∀(m:Mi) {ps:List Ty},KX m ps->(∀N ds,GU ds N m=true->TW m<=256+513*IN ps)
 | .mk ty nt hd ks,ps,hc,N,ds,hw=>by
  simp only [KX] at hc;obtain ⟨h1,h2⟩:=hc;have hwi:=Bf.1 hw;simp only [Mi.ks] at hwi;simp only [TW];have hone:(nt≠[]\/AC hd≠0)->1<=N7 ps/\N7 ps<=IN ps:=λh=>by
   obtain ⟨p,hp,hpw⟩:=h1 h;have:=M3 ps 0;exact ⟨Uh hp hpw,by omega⟩
  split
  ·split
   ·omega
   ·rename_i h;have:=hone (.inl h);omega
  ·rename_i h;have ho:=hone (.inr h);have hk:=VF ks h2 N ds hwi.2.2;have hs:=M3 ps ks.length;have h3:=hwi.1.2.1;omega
theorem VF:∀(ks:List Mi) {i:Nat} {ps:List Ty},LY ks i ps->(∀N ds,(∀k∈ks,GU ds N k=true)->Ny ks<=ks.length*256+513*Hy ps i ks.length)
 | [],i,ps,_,N,ds,_=>by simp [Ny]
 | k::r,i,ps,hc,N,ds,hw=>by
  simp only [LY] at hc;have h1:=Y1 k hc.1 N ds (hw k (by simp));have h2:=VF r hc.2 N ds (λx hx=>hw x (by simp [hx]));simp only [Ny,List.length_cons,Hy,Nat.mul_add,Nat.add_mul];omega
end
theorem Tg {ds:List Dt} (ho:OkW ds) {t:Ty}:∀(f N:Nat) (m:Mi) (l:List (Ty×Int)) (v:Ty) (ps:List Ty),N+f<=1000000->MOk ds t N m->KX m ps->(∀x∈l,x.1∈ps)->H1 ds t l->Ci ds f m l=some (some v)->Ai v<=256+513*IN ps/\EB v<=19:=by
 intro f
 induction f with
 | zero=>intro N m l v ps _ _ _ _ _ h;simp [Ci] at h
 | succ f ih =>
  intro N m l v ps hN hm hc hp hr h;cases l with
  | nil =>
   obtain ⟨b1,b2⟩:=UY ho (by omega) 1000 m v hm.wf hm.coh h;have:=Y1 m hc N ds hm.wf;have:=hm.hgt;exact ⟨by omega,by omega⟩
  | cons x l =>
   obtain ⟨p,b⟩:=x;obtain ⟨h1,h2,h3⟩:=hr (p,b) (by simp);have hpm:=hp (p,b) (by simp);simp only at h1 h2 h3 hpm;simp only [Ci] at h;by_cases h22:(Ax ds p m).1=2
   ·rw [if_pos h22] at h;have hmT:=hm.split ho h1 h2 h3 h22;cases ha:Ci ds f (A7 ds m (Ax ds p m).2.1 (Ax ds p m).2.2 true) ((p,b)::l) with
    | none=>rw [ha] at h;simp [ND] at h
    | some ra =>
     cases hbb:Ci ds f (A7 ds m (Ax ds p m).2.1 (Ax ds p m).2.2 false) ((p,b)::l) with
     | none=>rw [ha,hbb] at h;simp [ND] at h
     | some rb =>
      rw [ha,hbb] at h;simp only [ND,Option.some.injEq] at h;rcases Td (ds:=ds) ra rb with e | e
      ·rw [e] at h;subst h;exact ih (N+1) _ _ v ps (by omega) (hmT true) (Ni true p hpm hc h22) hp hr ha
      ·rw [e] at h;subst h;exact ih (N+1) _ _ v ps (by omega) (hmT false) (Ni false p hpm hc h22) hp hr hbb
   ·rw [if_neg h22] at h
    split at h
    ·exact ih N m l v ps (by omega) hm hc (λy hy=>hp y (by simp [hy])) (λy hy=>hr y (by simp [hy])) h
    ·simp at h
end Go.Hk
namespace Go.Hk
structure nR where
 dx:D
 es:List (List V)
 es2:List (List V)
 sz:Nat
 bytes:Nat
 dst:Option Nat
 todo:List DI
def Y8:D->Option (List (List V))
 | .nils=>some []
 | .clip es=>some es
 | _=>none
def kG (tt:TT) (n:Nat) (env:Env) (todo:List DI):Option nR :=
 match AU todo ([],[]) with
 | some (_,o,todo')=>match o.guard,o.op with
  | none,.call { callee:=.builtin .append,args:=⟨[x,y]⟩,argTypes:=⟨[t,t']⟩ }=>match Nat.beq t t',lk tt t,Di env x,Di env y with
   | true,some { sh:=.sl e,.. },some dx,some (.imm (.sl (e1::es2)))=>match lk tt e,Y8 dx with
    | some i,some es=>match Nat.beq i.zero.length i.size&&Nat.blt 0 i.size,B3 n o.dst with
     | true,true=>some ⟨dx,es,e1::es2,i.size,i.bytes,o.dst,todo'⟩
     | _,_=>none
    | _,_=>none
   | _,_,_,_=>none
  | _,_=>none
 | none=>none
section
variable {P:Program} {n:Nat} {F:List Nat} {Q:DQ} {tt:TT} {env env':Env} {st st':St} {ids ids':List Nat} {k todo todo':List DI} {I:Imm} {μ:Mu} {w w':World} {a:Act} {Pn:V->Prop} {d:D} {cx:Prop} {ob:List Prop}
theorem StRep.growI (hst:StRep I μ st ids w) (hg:w.grownBy w' none) {c:Nat} {o:Obj} (hc:w.heap.size<=c) (ho:w'.heap[c]?=some o):∃I',I' c=some o/\I.le I'/\StRep I' μ st ids w'/\Ext I μ st w I' μ st w':=by
 have hnew:I c=none:=by
  cases h:I c with
  | none=>rfl
  | some o'=>have:=BC (hst.imm _ _ h);omega
 have hold:∀b,b<w.heap.size->w'.heap[b]?=w.heap[b]?:=λb hb=>hg.block b hb (by simp);have hle:I.le (λb=>if b=c then some o else I b):=λb o' h=>by
  have:b≠c:=λe=>by rw [e,hnew] at h;cases h
  simp [this,h]
 refine ⟨λb=>if b=c then some o else I b,by simp,hle,?_,?_⟩
 ·refine { imm:=λb o' h=>?_,blk:=λid blk hl=>?_,apart:=λid blk g b hl hg' hb=>?_,inj:=hst.inj,nodup:=hst.nodup,idsFree:=hst.idsFree }
  ·by_cases hb:b=c
   ·subst hb;simp at h;subst h;exact ho
   ·simp [hb] at h;have:=hst.imm _ _ h;rw [hold b (BC this)];exact this
  ·obtain ⟨g,h1,h2⟩:=hst.blk id blk hl;exact ⟨g,h1,(h2.mono hle (Mu.le_refl μ)).world (λb hb=>hold b (hst.apart id blk g b hl h1 hb).2)⟩
  ·obtain ⟨h1,h2⟩:=hst.apart id blk g b hl hg' hb;have:b≠c:=by omega
   exact ⟨by simp [this,h1],Nat.lt_of_lt_of_le h2 hg.size⟩
 ·exact { imm:=hle,os:=hg.os,tape:=hg.tape,output:=hg.output,size:=hg.size,block:=λb hb _=>hold b hb,fresh:=λb _ h=>h,old:=λb hb _=>if_neg (by omega) }
theorem Ws {e:TypeId} {sz:Nat} {u:Value} {es:List (List V)} {xs:List Value} (h:w.ownsRow 0 e sz u es.length xs) (hr:RepVL I xs es.flatten) (hsz:∀c∈es,c.length=sz) (h1:∀v∈xs,v.oneCell'=true) {b:Nat} {o:Obj} (hb:u.ownBlock=some b) (ho:w.heap[b]?=some o) (hI:I b=some o):RepV I u (.sl es):=by
 rcases h.2 with ⟨rfl,_⟩ | ⟨g,cap,cur,rfl,_,hheap,hle,hcm,hcs,htake⟩
 ·cases hb
 ·have hb:g=b:=by simpa [Value.ownBlock] using hb
  subst hb;rw [hheap] at ho;cases ho;have hxl:=h.1;refine .sl g 0 es.length cap sz es (λi j=>(xs[i*sz+j]?).getD undef) rfl hle hcm hsz ?_ ?_
  ·intro i c j x hi hj;have hf:=Cl hsz i c j x hi hj;have hlt:i*sz+j<xs.length:=by rw [hr.1];exact (List.getElem?_eq_some_iff.1 hf).1
   have hxs:xs[i*sz+j]?=some xs[i*sz+j]:=List.getElem?_eq_getElem hlt;rw [hxs,Option.getD_some];refine ⟨?_,h1 _ (List.getElem_mem hlt)⟩;unfold Imm.cell;rw [hI];have hcur:cur[i*sz+j]?=some xs[i*sz+j]:=by
    have e1:(cur.toList.take (es.length*sz))[i*sz+j]?=some xs[i*sz+j]:=by rw [htake];exact hxs
    have e2:=e1;rw [List.getElem?_take] at e2
    split at e2
    ·simpa using e2
    ·cases e2
   simp only [Nat.zero_add,hcur]
  ·intro i c j x hi hj;have hf:=Cl hsz i c j x hi hj;have hlt:i*sz+j<xs.length:=by rw [hr.1];exact (List.getElem?_eq_some_iff.1 hf).1
   have hxs:xs[i*sz+j]?=some xs[i*sz+j]:=List.getElem?_eq_getElem hlt;rw [hxs,Option.getD_some];exact hr.2 _ _ x hxs hf
theorem S5 (htt:TTok P tt) {c:nR} (h:kG tt n env todo=some c) (hok:fT c.sz c.bytes (.clip []) c.es c.es2) (hes:∀x∈c.es,x.length=c.sz)
  (hk:G P n F Q c.todo (B1 c.dst (.imm (.sl (c.es++c.es2))) env) st ids):G P n F Q todo env st ids:=by
 unfold kG at h
 split at h
 ·rename_i all o todo' hn1
  split at h
  ·rename_i x y t t' hg hop
   split at h
   ·rename_i e _ _ _ _ dx e1 es2 htt' ht hx hy;have:=Nat.eq_of_beq_eq_true htt';subst this
    split at h
    ·rename_i i es hi hb
     split at h
     ·rename_i hz hd;cases h;simp only at hok hes hk;refine By (fr:=[]) (wr:=[]) (rd:=[]) hn1 ?_ hd (λc hc=>by rw [hop] at hc;cases hc) hk;intro I μ st1 ids1 a w hag hst hon;refine ⟨λ_=>?_,λhw=>by rw [A3 hg] at hw;cases hw⟩;have hops:=AT hon;rw [hop] at hops;have rx:=hops x (by simp [Op.operands,Call.operands]) _ hx;have ry:=(hops y (by simp [Op.operands,Call.operands]) _ hy).immInv;obtain ⟨inf,z,z1,z2,z3,z4,z5,z6⟩:=(htt e i hi).info;have hu:P.underlying t=some (.slice e):=htt.sh ht;simp only [Bool.and_eq_true,Nat.blt_eq] at hz;have hzl:z.cells.size=i.size:=by
       have:=(z5 I μ).1;rw [Nat.eq_of_beq_eq_true hz.1] at this;simpa using this
      obtain ⟨k1,k2,k3,_⟩:=hok;have hrun:∀{u w'},(Builtin.append_ #[t,t] o.type #[a.eval x,a.eval y]).run P w = .ok u w'->(execOp a.eval o).run P w = .ok (.value u) w':=by
       intro u w' h;simp only [execOp,hop,resolve,invoke,builtin,Sem.run_bind,Sem.run_pure,Result.andThen_ok,List.map_toArray,List.map_cons,List.map_nil,h]
      rcases Lr hst.imm ry k1 hz.2 with ⟨_,e0⟩ | ⟨yb,yo,yc,news,ey,_,_,n1,n2,n3,n4,n5⟩
      ·cases e0
      have fin:∀{u:Value} {w':World} {xs:List Value},(Builtin.append_ #[t,t] o.type #[a.eval x,a.eval y]).run P w = .ok u w'->w'.ownsRow 0 e i.size u (es.length+(e1::es2).length) (xs++news)->w.grownBy w' none->(∀b,u.ownBlock=some b->w.heap.size<=b)->RepVL I xs es.flatten->(∀v∈xs,v.oneCell'=true) ->
        valX P ((execOp a.eval o).run P w) (λv w'=>∃I' μ',StRep I' μ' ([]++st1) ids1 w'/\RepD I' μ' v (.imm (.sl (es++e1::es2)))/\μ.le μ'/\Ext I μ st1 w I' μ' ([]++st1) w') (Kf (L0 Q) I μ st1 w):=by
       intro u w' xs r1 r2 r3 r4 r5 r6;rw [hrun r1];obtain ⟨b,hb,hlt⟩:∃b,u.ownBlock=some b/\b<w'.heap.size:=by
        rcases r2.2 with ⟨_,hh⟩ | ⟨g,cap,cur,rfl,_,hheap,_⟩
        ·simp at hh
        ·exact ⟨g,rfl,BC hheap⟩
       have ho:w'.heap[b]?=some w'.heap[b]:=Array.getElem?_eq_getElem hlt;obtain ⟨I',q1,q2,q3,q4⟩:=hst.growI r3 (r4 b hb) ho;refine ⟨I',μ,q3,.imm _ _ (Ws (es:=es++e1::es2) (by rw [List.length_append];exact r2) ?_ ?_ ?_ hb ho q1),Mu.le_refl μ,q4⟩
       ·rw [List.flatten_append];exact (r5.append n4).mono q2
       ·intro c hc;exact (List.mem_append.1 hc).elim (hes c) (k1 c)
       ·intro v hv;exact (List.mem_append.1 hv).elim (r6 v) (n3 v)
      have hnil:a.eval x = .slice none 0 0->es=[]->valX P ((execOp a.eval o).run P w) (λv w'=>∃I' μ',StRep I' μ' ([]++st1) ids1 w'/\RepD I' μ' v (.imm (.sl (es++e1::es2)))/\μ.le μ'/\Ext I μ st1 w I' μ' ([]++st1) w') (Kf (L0 Q) I μ st1 w):=λhv he=>by
       subst he;obtain ⟨v',w',q1,q2,q3,_⟩:=run_append_own (P:=P) w w.heap.size t o.type e inf z i.size i.bytes hu z1 z4 z2 z3 hzl hz.2 (.slice none 0 0) 0 [] (World.ownsRow_nil w _ e i.size) ⟨yb,yo,none⟩ (e1::es2).length yc news n1 n2 n3
        (by simpa using k2) (by simpa using k3) (Nat.le_refl _)
       have q2':w'.ownsRow 0 e i.size v' (0+(e1::es2).length) ([]++news):=⟨q2.1,q2.2.imp id λ⟨g,cap,cur,a1,_,a2⟩=>⟨g,cap,cur,a1,Nat.zero_le _,a2⟩⟩
       exact fin (by rw [hv,ey];exact q1) q2' ⟨q3.os,q3.tape,q3.output,q3.size,λb hb _=>q3.block b hb (by simp [Value.ownBlock])⟩ (λb h=>(q2.lt b h).1) .nil (by simp)
      have hgrow:∀(ad:Addr) (cap:Nat) (xs:List Value),a.eval x = .slice (some ad) es.length cap->xs.length=es.length*i.size->(∀j u,xs[j]?=some u->w.cell? (ad.add j)=some u)->cap<es.length+(e1::es2).length->RepVL I xs es.flatten->(∀v∈xs,v.oneCell'=true) ->
        valX P ((execOp a.eval o).run P w) (λv w'=>∃I' μ',StRep I' μ' ([]++st1) ids1 w'/\RepD I' μ' v (.imm (.sl (es++e1::es2)))/\μ.le μ'/\Ext I μ st1 w I' μ' ([]++st1) w') (Kf (L0 Q) I μ st1 w):=λad cap xs hv hl hcell hlt hr h1=>by
       have hsmall:es.length+(e1::es2).length<=9223372036854775807:=by simp only [maxLen] at k2;omega
       have hr':=run_append_grow (P:=P) w t o.type e inf z hu z1 z4 ad es.length cap xs (by rw [z2];exact hl) hcell ⟨yb,yo,none⟩ (e1::es2).length yc news (by rw [z2];exact n1) n2 hlt (by omega) (by rw [z3];exact growslice_fits hlt k3);have hge:=grownCap_ge w (es.length+(e1::es2).length) cap e;have hcm:grownCap w (es.length+(e1::es2).length) cap e<=maxLen:=grownCap_le_maxLen w _ cap e k2;have hlen:(xs++news).length=(es.length+(e1::es2).length)*i.size:=by rw [List.length_append,hl,n1,Nat.add_mul]
       refine fin (by rw [hv,ey];exact hr') (xs:=xs) ⟨hlen,.inr ⟨w.heap.size,_,_,rfl,Nat.zero_le _,DB w.drew _,hge,hcm,?_,?_⟩⟩ ⟨rfl,rfl,rfl,by simp,λk hk _=>FX w.drew _ hk⟩
        (λb h=>by simp [Value.ownBlock] at h;omega) hr h1
       ·simp only [Array.size_append,List.size_toArray,size_zeroCells,hzl,hl,n1,<- Nat.add_mul];congr 1;omega
       ·simp only [Array.toList_append,List.append_assoc];rw [<- List.append_assoc,<- hlen];exact List.take_left
      cases dx with
      | nils =>
       simp only [Y8,Option.some.injEq] at hb;subst hb;have hv:a.eval x = .slice none 0 0:=by
        generalize a.eval x=v at rx;cases rx;rfl
       exact hnil hv rfl
      | clip es' =>
       simp only [Y8,Option.some.injEq] at hb;subst hb;have rx':∃ad len,a.eval x = .slice ad len len/\RepV I (.slice ad len len) (.sl es'):=by
        generalize a.eval x=v at rx;cases rx with
        | clip ad len _ h=>exact ⟨ad,len,rfl,h⟩
       obtain ⟨ad,len,hv,hr⟩:=rx';rcases Lr hst.imm hr hes hz.2 with ⟨⟨adx,ex⟩,e0⟩ | ⟨xb,xo,xc,xs,ex,_,_,p1,p2,p3,p4,p5⟩
       ·cases adx with
        | none=>exact hnil (hv.trans ex) e0
        | some adx =>
         subst e0;exact hgrow adx 0 [] (hv.trans ex) (by simp) (λj u h=>by simp at h) (by simp) .nil (by simp)
       ·cases ex;exact hgrow ⟨xb,xo,none⟩ _ xs hv p1 p2 (by simp) p4 p3
      | _=>simp [Y8] at hb
     ·cases h
    ·cases h
   ·cases h
  ·cases h
 ·cases h
end
end Go.Hk
namespace Go.Hk
structure PCl where
 es:List (List V)
 m:Int
 m2:Int
 dst:Option Nat
 todo:List DI
def kC (tt:TT) (n:Nat) (env:Env) (todo:List DI):Option PCl :=
 match AU todo ([],[]) with
 | some (_,o,todo')=>match o.guard,o.op with
  | none,.slice t x none (some h) (some c)=>match lk tt t,Di env x,Di env h,Di env c,B3 n o.dst with
   | some { sh:=.sl e,.. },some (.imm (.sl es)),some (.imm (.int _ m)),some (.imm (.int _ m2)),true=>match lk tt e with
    | some _=>some ⟨es,m,m2,o.dst,todo'⟩
    | none=>none
   | _,_,_,_,_=>none
  | _,_=>none
 | none=>none
section
variable {P:Program} {n:Nat} {F:List Nat} {Q:DQ} {tt:TT} {env env':Env} {st st':St} {ids ids':List Nat} {k todo todo':List DI} {I:Imm} {μ:Mu} {w w':World} {a:Act}
theorem lZ (htt:TTok P tt) {c:PCl} (h:kC tt n env todo=some c) (h1:c.m=c.es.length) (h2:c.m2=c.es.length)
  (hk:G P n F Q c.todo (B1 c.dst (.clip c.es) env) st ids):G P n F Q todo env st ids:=by
 unfold kC at h
 split at h
 ·rename_i all o todo' hn1
  split at h
  ·rename_i t x hh cc hg hop
   split at h
   ·rename_i e _ _ _ _ es k1 m k2 m2 ht hx hhh hcc hd
    split at h
    ·rename_i ti hti;cases h;simp only at h1 h2 hk;subst h1;subst h2;refine By (fr:=[]) (wr:=[]) (rd:=[]) hn1 ?_ hd (λc hc=>by rw [hop] at hc;cases hc) hk;intro I μ st1 ids1 a w hag hst hon;refine ⟨λ_=>?_,λhw=>by rw [A3 hg] at hw;cases hw⟩;have hops:=AT hon;rw [hop] at hops;have rx:=(hops x (by simp [Op.operands]) _ hx).immInv;have e1:a.eval hh = .int k1 es.length:=(hops hh (by simp [Op.operands]) _ hhh).immInv.intInv;have e2:a.eval cc = .int k2 es.length:=(hops cc (by simp [Op.operands]) _ hcc).immInv.intInv;have hb:∀(k:IntKind) (x y:Nat) (c:BoundsCode),x<=y->(Instr.sliceBound (.int k x) y c).run P w = .ok x w:=by
      intro k x y c hxy;simp [Instr.sliceBound,asIntOf,hxy]
     have hb0:∀(k:IntKind) (c:BoundsCode),(Instr.sliceBound (.int k 0) 0 c).run P w = .ok 0 w:=by
      intro k c;simp [Instr.sliceBound,asIntOf]
     have key:∃ad,(Instr.sliceAt t (a.eval x) none (some (.int k1 es.length)) (some (.int k2 es.length))).run P w = .ok (.slice ad es.length es.length) w/\RepV I (.slice ad es.length es.length) (.sl es):=by
      generalize a.eval x=v at rx;cases rx with
      | slnil=>exact ⟨none,by simp [Instr.sliceAt,run_underlying (htt.sh ht),Instr.slice,Instr.sliceBounds,hb0,(htt e ti hti).sizeOf w],.slnil⟩
      | sl0 ad=>exact ⟨ad,by simp [Instr.sliceAt,run_underlying (htt.sh ht),Instr.slice,Instr.sliceBounds,hb0,(htt e ti hti).sizeOf w],.sl0 ad⟩
      | sl b o len cap sz _ vs hl hc hm hsz hcell hrep =>
       subst hl;refine ⟨some ⟨b,o,none⟩,?_,.sl b o _ _ sz es vs rfl (Nat.le_refl _) (by omega) hsz hcell hrep⟩;simp [Instr.sliceAt,run_underlying (htt.sh ht),Instr.slice,Instr.sliceBounds,hb _ _ _ _ hc,hb _ _ _ _ (Nat.le_refl es.length),(htt e ti hti).sizeOf w,Da]
     obtain ⟨ad,r1,r2⟩:=key;have hrun:(execOp a.eval o).run P w = .ok (.value (.slice ad es.length es.length)) w:=by
      simp only [execOp,hop,e1,e2,Option.map_none,Option.map_some,Sem.run_bind,r1,Result.andThen_ok,Sem.run_pure]
     rw [hrun];exact ⟨I,μ,hst,.clip _ _ _ r2,Mu.le_refl μ,Ext.refl _ _ _ _⟩
    ·cases h
   ·cases h
  ·cases h
 ·cases h
end
end Go.Hk
namespace Go.Hk
open Go.Proofs
def Bp (l:List Ty):List (List V):=l.map Be
@[simp] theorem hdsV_length (l:List Ty):(Bp l).length=l.length:=by simp [Bp]
@[simp] theorem headV_length (h:Ty):(Be h).length=3:=by obtain ⟨a,b,c,d⟩:=h;rfl
theorem Ju {l:List Ty} {i:Nat} {h:Ty} (e:l[i]?=some h):(Bp l)[i]?=some (Be h):=by simp [Bp,e]
theorem Ob (a b:List Ty):Bp (a++b)=Bp a++Bp b:=by simp [Bp]
theorem Yq (l:List Ty):∀c∈Bp l,c.length=3:=λc hc=>by obtain ⟨h,_,rfl⟩:=List.mem_map.1 hc;simp
def T5 (h:Ty):Int->List Ty->Int
 | _,[]=>-1
 | i,x::r=>if A5 h x=true then i else T5 h (i+1) r
theorem Vi (h:Ty):∀(l:List Ty) (i:Int),0<=i->decide (0<=T5 h i l)=BD l h
 | [],i,_=>rfl
 | x::r,i,hi=>by
  have ih:=Vi h r (i+1) (by omega);have e:BD (x::r) h=(A5 h x||BD r h):=by rw [GC h x];rfl
  rw [e];by_cases hb:A5 h x=true
  ·simp only [T5,if_pos hb];rw [hb];simp [hi]
  ·simp only [T5,if_neg hb];rw [ih];simp [hb]
theorem aM (l:List Ty) (h:Ty):Al Tryz.prog 197 [.sl (Bp l),.agg (Be h)] (.int .i64 (T5 h 0 l)):=by
 obtain ⟨h1,h2,h3,h4⟩:=h;refine AF λhv=>?_;simp [Ca,Ee,maxLen,Be] at hv;refine Ad Aj Tryz.func197 (by decide +kernel) rfl [1,2] rfl rfl ?_;refine mg [] rfl (by simp) ?_;refine Ak (λi:Nat=>[(8,.imm (.int .i64 i)),(7,.imm (.int .i64 l.length)),(0,.imm (.sl (Bp l))),(3,.ref 1 0)]) (λ_=>[(1,some (.immb 150 3 (Be (.mk h1 h2 h3 h4))))]) [2] (λi=>l.length-i) (λi=>i<=l.length/\T5 (.mk h1 h2 h3 h4) 0 l=T5 (.mk h1 h2 h3 h4) i (l.drop i)) 0
  ⟨Nat.zero_le _,rfl⟩ ⟨rfl,As (by simp),rfl,rfl,trivial⟩ ⟨rfl,trivial⟩ rfl λi hi ih=>?_
 obtain ⟨hi1,hi2⟩:=hi;refine md [] rfl (by simp) ?_;refine Aa rfl (λh=>?_) (λh=>?_)
 ·simp at h;obtain ⟨x,hx⟩:=Am h;rw [An hx] at hi2;simp only [T5] at hi2;refine md [] rfl (by simp) ?_;refine mi rfl (c:=Be x) (λ_=>⟨by simp,by simpa using Ju hx,by simp⟩) (by simp [Ah]) ?_;obtain ⟨x1,x2,x3,x4⟩:=x;refine mg [] rfl (by simp [Ah]) ?_;refine Vr Aj rfl LL (by simp [Ah]) ?_;refine mg [] rfl (by simp [Ah];rfl) ?_;by_cases e:A5 (.mk h1 h2 h3 h4) (.mk x1 x2 x3 x4)=true
  ·rw [if_pos e] at hi2;simp only [A5] at e;refine Aa rfl (λh=>?_) (λh=>by exfalso;simp at h e;grind);refine md [] rfl (by simp) ?_;refine Ab ⟨_,rfl,tV ?_,trivial⟩;rw [hi2]
  ·rw [if_neg e] at hi2;simp only [A5] at e;refine Aa rfl (λh=>by exfalso;simp at h e;grind) (λh=>?_);refine md [] rfl (by simp) ?_;exact Ae (ih (i+1) (by omega) ⟨by omega,hi2⟩) ⟨As (B9 (by omega) (by omega)),rfl,rfl,rfl,trivial⟩ ⟨rfl,trivial⟩ rfl
 ·simp at h;rw [List.drop_eq_nil_of_le (by omega)] at hi2;refine Ar rfl ?_;refine md [] rfl (by simp) ?_;refine Ab ⟨_,rfl,tV ?_,trivial⟩;rw [hi2];rfl
theorem Gg (l:List Ty) (h:Ty):Al Tryz.prog 152 [.sl (Bp l),.agg (Be h)] (.bool (BD l h)):=by
 have hI:=aM l h;have hh:=Vi h l 0 (by omega);generalize T5 h 0 l=k at *;obtain ⟨h1,h2,h3,h4⟩:=h;refine Ad Aj Tryz.func152 (by decide +kernel) rfl [1,2] rfl rfl ?_;refine mg [] rfl (by simp) ?_;refine Ac rfl (λ_=>hI) (by simp) ?_;refine mg [] rfl (by simp) ?_;rw [<- hh];exact Ab ⟨_,rfl,tV rfl,trivial⟩
theorem Ud (h:Ty) (hf:AC h≠0):Al Tryz.prog 130 [.agg (Be h)] (.agg (mD h)):=by
 obtain ⟨h1,h2,h3,h4⟩:=h;refine Ad Aj Tryz.func130 (by decide +kernel) rfl [1,2] rfl rfl ?_;refine mg [] rfl (by simp) ?_;simp only [mD,AC] at hf ⊢;rw [if_neg hf];exact fG 2 [.imm (.int .i64 h1),.imm (.int .i64 h2),.imm (.str h3),.imm .nilsl] rfl (by simp [mW]) (Ab ⟨_,rfl,tV rfl,trivial⟩)
theorem aN (path:List Int) (hl:path.length<=1000000):Al Tryz.prog 153 [.sl (Bu path)] (.sl (Bu path)):=by
 have hs:∀c∈Bu path,c.length=1:=λc hc=>by simp only [Bu,List.mem_map] at hc;obtain ⟨q,_,rfl⟩:=hc;rfl
 have hl:(Bu path).length<=1000000:=by simpa using hl
 generalize Bu path=l at *;refine Ad Aj Tryz.func153 (by decide +kernel) rfl [1,2] rfl rfl ?_;refine mg [] rfl (by simp) ?_;refine Nd Aj rfl λb hb=>?_;cases b with
 | true =>
  have he:l=[]:=by
   cases l with
   | nil=>rfl
   | cons a b=>exact absurd (hb (by simp)) (by simp)
  subst he;refine md [] rfl (by simp) ?_;refine Aa rfl (λh=>?_) (λh=>by simp at h);refine md [] rfl (by simp) ?_;exact Ab ⟨_,rfl,tV rfl,trivial⟩
 | false =>
  refine md [] rfl (by simp) ?_;refine Aa rfl (λh=>by simp at h) (λh=>?_);cases l with
  | nil =>
   refine md [] rfl (by simp) ?_;refine ZS Aj rfl ?_;refine mg [] rfl (by simp) ?_;exact Ab ⟨_,rfl,tV rfl,trivial⟩
  | cons a b =>
   refine md [] rfl (by simp) ?_;refine S5 Aj rfl ⟨hs,by simp only [maxLen,List.length_nil] at *;omega,by simp only [List.length_nil] at *;omega,λc hc=>by simp at hc,by simp⟩ (by simp) ?_;refine mg [] rfl (by simp) ?_;exact Ab ⟨_,rfl,tV rfl,trivial⟩
theorem gG (path:List Int):Bc Tryz.prog 154 [.imm (.sl (Bu path))] [] (.ret (.clip (Bu path)) []):=by
 generalize Bu path=l at *;refine Ad Aj Tryz.func154 (by decide +kernel) rfl [1,2] rfl rfl ?_;refine mg [] rfl (by simp) ?_;refine lZ Aj rfl rfl rfl ?_;refine mg [] rfl (by simp) ?_;exact Ab ⟨_,rfl,rfl,trivial⟩
set_option maxHeartbeats 1000000 in
theorem WE (nt:List Ty) (hl:nt.length<=1000000):Al Tryz.prog 159 [.sl (Bp nt)] (.agg (Be (CW nt))):=by
 have hA:=λh=>Gg nt h;refine Ad Aj Tryz.func159 (by decide +kernel) rfl [1,2,3] rfl rfl ?_;refine mg [] rfl (by simp) ?_;refine Ak (λi:Nat=>[(3,.imm (.int .i64 i)),(2,.ref 1 0),(0,.imm (.sl (Bp nt)))]) (λ_=>[(1,some (.immb 150 3 [.int .i64 0,.int .i64 0,.str []]))]) [2,3] (λi=>nt.length+1-i)
  (λi=>i<=nt.length/\CW nt=Jj nt (nt.length-i) i/\∀j:Nat,j<i->BD nt (.mk 1 j [] [])=true) 0 ⟨Nat.zero_le _,rfl,λj h=>by omega⟩ ⟨rfl,rfl,rfl,trivial⟩ ⟨rfl,trivial⟩ rfl λi hi ih=>?_
 obtain ⟨hi1,hi2,hi3⟩:=hi;rw [Si hi1 hi3] at hi2;have h1:=hA (.mk 1 i [] []);have h2:=hA (.mk 1 (0-i) [] []);have hih:BD nt (.mk 1 i [] [])=true->BD nt (.mk 1 (0-i) [] [])=true->_:=λe1 e2=>ih (i+1) (by omega) ⟨KF (i:=i+1) (λj hj=>by
   by_cases e:j=i
   ·rw [e];exact e1
   ·exact hi3 j (by omega)),by rw [hi2,e1,e2];simp,λj hj=>by
   by_cases e:j=i
   ·rw [e];exact e1
   ·exact hi3 j (by omega)⟩
 generalize CW nt=R at *;generalize BD nt (.mk 1 i [] [])=b1 at *;generalize BD nt (.mk 1 (0-i) [] [])=b2 at *;clear ih hi3;have hw:IntKind.i64.wrap (0-(i:Int))=0-i:=B9 (by omega) (by omega);have hn:∀q:Nat,q<2->∃x:Ty,[[V.int .i64 1,.int .i64 i,.str []],[.int .i64 1,.int .i64 (IntKind.i64.wrap (0-(i:Int))),.str []]][q]?=some (Be x)/\x=(if q=0 then .mk 1 i [] [] else .mk 1 (0-i) [] []):=λq hq=>by
  have:q=0\/q=1:=by omega
  rcases this with rfl | rfl
  ·exact ⟨_,rfl,rfl⟩
  ·exact ⟨.mk 1 (0-i) [] [],by rw [hw];rfl,rfl⟩
 refine md [] rfl (by simp) ?_;obtain ⟨L2,hL⟩:∃L2,L2=[[V.int .i64 1,.int .i64 i,.str []],[.int .i64 1,.int .i64 (IntKind.i64.wrap (0-(i:Int))),.str []]]:=⟨_,rfl⟩
 rw [<- hL] at hn;have hl2:L2.length=2:=by rw [hL];rfl
 refine Ak (λq:Nat=>[(15,.imm (.int .i64 q)),(14,.imm (.int .i64 2)),(13,.imm (.sl L2)),(3,.imm (.int .i64 i)),(2,.ref 1 0),(0,.imm (.sl (Bp nt)))]) (λ_=>[(1,some (.immb 150 3 [.int .i64 0,.int .i64 0,.str []]))]) [2,3] (λq=>2-q)
  (λq=>q<=2/\(1<=q->b1=true)/\(2<=q->b2=true)) 0 ⟨Nat.zero_le _,λh=>by omega,λh=>by omega⟩ ⟨rfl,rfl,by rw [hL];rfl,rfl,rfl,rfl,trivial⟩ ⟨rfl,trivial⟩ rfl λq hq jh=>?_
 obtain ⟨hq1,hq2,hq3⟩:=hq;refine md [] rfl (by simp) ?_;refine Aa rfl (λh=>?_) (λh=>?_)
 ·have hq:q<2:=by simp at h;omega
  obtain ⟨x,x1,x2⟩:=hn q hq;refine md [] rfl (by simp) ?_;refine mi rfl (c:=Be x) (λ_=>⟨by simp,by simpa using x1,by simp⟩) (by simp) ?_;have hx:Al Tryz.prog 152 [.sl (Bp nt),.agg (Be x)] (.bool (if q=0 then b1 else b2)):=by
   rw [x2];by_cases e:q=0
   ·rw [if_pos e,if_pos e];exact h1
   ·rw [if_neg e,if_neg e];exact h2
  have hb:(if q=0 then b1 else b2)=false->R=x:=λhb=>by
   rw [hi2,x2];by_cases e:q=0
   ·rw [if_pos e] at hb ⊢;rw [if_pos hb]
   ·rw [if_neg e] at hb ⊢;rw [if_neg (by rw [hq2 (by omega)];simp),if_pos hb]
  have hb':(if q=0 then b1 else b2)=true->(1<=q+1->b1=true)/\(2<=q+1->b2=true):=λhb=>by
   by_cases e:q=0
   ·rw [if_pos e] at hb;exact ⟨λ_=>hb,λh=>by omega⟩
   ·rw [if_neg e] at hb;exact ⟨λ_=>hq2 (by omega),λ_=>hb⟩
  generalize (if q=0 then b1 else b2)=bq at *;obtain ⟨y1,y2,y3,y4⟩:=x;refine mg [] rfl (by simp) ?_;refine Ac rfl (λ_=>hx) (by simp) ?_;refine mg [] rfl (by simp) ?_;cases bq with
  | false =>
   refine Aa rfl (λh=>?_) (λh=>by simp at h);refine md [] rfl (by simp) ?_;rw [hb rfl];exact Ab ⟨_,rfl,tV rfl,trivial⟩
  | true =>
   refine Aa rfl (λh=>by simp at h) (λh=>?_);refine md [] rfl (by simp) ?_;exact Ae (jh (q+1) (by omega) ⟨by omega,hb' rfl⟩) ⟨As (B9 (by omega) (by omega)),rfl,rfl,rfl,rfl,rfl,trivial⟩ ⟨rfl,trivial⟩ rfl
 ·have hq:¬q<2:=by simp at h;omega
  refine Ar rfl ?_;refine md [] rfl (by simp) ?_;exact Ae (hih (hq2 (by omega)) (hq3 (by omega))) ⟨As (B9 (by omega) (by omega)),rfl,rfl,trivial⟩ ⟨rfl,trivial⟩ rfl
end Go.Hk
namespace Go.Hk
theorem cW {P:Program} {f:FuncId} {vs:List V} {k:Nat} {e:TypeId} {sz:Nat} {es:List (List V)} (h:Bc P f (vs.map .imm) [] (.ret (.own k es.length) [(k,some (.row e sz es))])):Al P f vs (.sl es):=by
 intro I μ w xs hst hx;refine (h I μ w xs hst hx).mono (λu w' hu=>?_) (λ_ _ h=>h.elim);obtain ⟨I',μ',r1,r2,r3,r4⟩:=hu;have hlive:Ap [(k,some (Blk.row e sz es))] k (.row e sz es):=by simp [Ap,lk]
 obtain ⟨g,hg,ys,hown,hrep,hsz,hone,hp⟩:=r2.blk k _ hlive;have hu:u=g:=by
  cases r1 with
  | own _ _ ad cap hm=>rw [hm] at hg;cases hg;rfl
 subst hu;have hno0:∀b,¬Br μ [] b:=λb ⟨i,bi,g,h,_⟩=>by simp [Ap,lk] at h
 obtain ⟨J,hJ,hJs,hJr,hJo⟩:∃J:Imm,I'.le J/\(∀b,b<w.heap.size->J b=I' b)/\RepV J u (.sl es)/\(∀k o,J k=some o->(I' k=some o\/w'.heap[k]?=some o)):=by
  rcases hown.2 with ⟨rfl,h0⟩ | ⟨gb,cap,cur,rfl,_,hheap,hle,hcm,hcs,htake⟩
  ·have:es=[]:=List.eq_nil_of_length_eq_zero h0;subst this;exact ⟨I',Imm.le_refl I',λ_ _=>rfl,.slnil,λk o h=>.inl h⟩
  ·have hno:=(r2.apart k _ _ gb hlive hg rfl).1;have hge:w.heap.size<=gb:=by
    rcases Nat.lt_or_ge gb w.heap.size with hlt | hge
    ·exact absurd (r4.fresh gb hlt ⟨k,_,_,hlive,hg,rfl⟩) (hno0 gb)
    ·exact hge
   have hle':I'.le (λk=>if k=gb then some (.cells cur e (0,0)) else I' k):=λk o h=>by
    have:k≠gb:=λe=>by rw [e,hno] at h;cases h
    simp [this,h]
   refine ⟨_,hle',λb hb=>if_neg (by omega),?_,λk o h=>?_⟩
   ·refine Ws (w:=w') (xs:=ys) (u:=.slice (some ⟨gb,0,none⟩) es.length cap) hown (hrep.mono hle') hsz ?_ (b:=gb) rfl hheap (by simp);intro v hv;obtain ⟨q,hq⟩:=List.mem_iff_getElem?.1 hv;have hlt:q<es.flatten.length:=by rw [<- hrep.1];exact (List.getElem?_eq_some_iff.1 hq).1
    obtain ⟨c,hc,hx⟩:=List.mem_flatten.1 (List.getElem_mem hlt);exact (hrep.2 q v _ hq (List.getElem?_eq_getElem hlt)).one (hone c hc _ hx)
   ·by_cases hk:k=gb
    ·subst hk;simp at h;subst h;exact .inr hheap
    ·simp [hk] at h;exact .inl h
 refine ⟨J,μ',.imm _ _ hJr,?_,r3,?_⟩
 ·exact { imm:=λb o h=>(hJo b o h).elim (λh=>r2.imm b o h) id,blk:=λi b h=>by simp [Ap,lk] at h,apart:=λi b g k h=>by simp [Ap,lk] at h,inj:=λi j bi bj gi gj k h=>by simp [Ap,lk] at h,nodup:=r2.nodup,idsFree:=r2.idsFree }
 ·exact { imm:=λb o h=>hJ b o (r4.imm b o h),os:=r4.os,tape:=r4.tape,output:=r4.output,size:=r4.size,block:=r4.block,fresh:=λb _ ⟨i,bi,g,h,_⟩=>by simp [Ap,lk] at h,old:=λb hb ho=>by rw [hJs b hb];exact r4.old b hb ho }
end Go.Hk
namespace Go.Hk
open Go.Proofs
set_option maxHeartbeats 2000000 in
theorem S3 (c:Cse) (sz:List (List V)) (t:Ty) (ho:OkW c.datas) (ht:AB c.datas t=true) :
  Bc Tryz.prog 195 [.imm (AL c sz),.imm (.agg (dTyc t))] [] (.ret (.own 2 (Bp (A0 c.datas t)).length) [(2,some (.row 150 3 (Bp (A0 c.datas t))))]):=by
 obtain ⟨ds,⟨c1,c2,c3,c4⟩,rows⟩:=c;obtain ⟨so,n,x,ps⟩:=t;simp only at ho ht ⊢;simp only [A0];refine Ad Aj Tryz.func195 (by decide +kernel) rfl [1,2,3,4] rfl rfl ?_;refine mg [] rfl (by simp) ?_;by_cases h2:so=2
 ·subst h2;refine Aa rfl (λh=>?_) (λh=>by simp at h);refine oB 4 rfl (by simp) ?_;refine eO Aj 2 rfl (by simp) ?_;refine mg [] rfl (by simp) ?_;exact Ab ⟨_,rfl,rfl,rfl,trivial⟩
 rw [if_neg h2];refine Aa rfl (λh=>absurd (by simpa using h) h2) (λh=>?_);clear h;refine md [] rfl (by simp) ?_;by_cases h3:so=3
 ·subst h3;refine Aa rfl (λh=>?_) (λh=>by simp at h);refine oB 3 rfl (by simp) ?_;refine eO Aj 2 rfl (by simp) ?_;refine mg [] rfl (by simp) ?_;exact Ab ⟨_,rfl,rfl,rfl,trivial⟩
 rw [if_neg h3];refine Aa rfl (λh=>absurd (by simpa using h) h3) (λh=>?_);clear h;refine md [] rfl (by simp) ?_;by_cases h8:so=8
 case neg =>
  rw [if_neg h8];refine Aa rfl (λh=>absurd (by simpa using h) h8) (λh=>?_);refine md [] rfl (by simp) ?_;refine D4 (e:=150) (sz:=3) 4 2 (by decide) rfl ?_;exact Ab ⟨_,rfl,rfl,rfl,trivial⟩
 subst h8;rw [if_pos rfl];obtain ⟨hp,d,hd⟩:=C5 ht 8 n x ps rfl rfl;have hdl:=(ho.lim d (List.mem_of_getElem? hd)).1;rw [hd];simp only;refine Aa rfl (λh=>?_) (λh=>by simp at h);clear h;refine md [] rfl (by simp) ?_;refine FA Aj rfl rfl rfl (Ef _) (by simp [Ah]) (z:=.int .i64 0) rfl (λ_=>.int _ _) (Hj ds x) ?_;refine mg [] rfl (by simp) ?_;rw [show Kh ds x=AQ x 0 ds by simp [Kh,hp]];refine mi rfl (c:=C7 d) (λ_=>⟨hp,by simpa using Bk hd,by simp⟩) (by simp) ?_;obtain ⟨dn,dc⟩:=d;simp only at hdl;refine mg [] rfl (by simp;rfl) ?_;refine D4 (e:=150) (sz:=3) 5 2 (by decide) rfl ?_
 have el:∀i c,dc[i]?=some c->Bp ((dc.take (i+1)).map Kg)=Bp ((dc.take i).map Kg)++[Be (Kg c)]:=λi c hc=>by rw [Bb hc,List.map_append,Ob];rfl
 refine Ak (λi:Nat=>[(37,.imm (.int .i64 i)),(36,.imm (.int .i64 dc.length)),(35,.imm (.sl (dc.map Ds))),(5,.own 2 (Bp ((dc.take i).map Kg)).length)]) (λi=>[(2,some (.row 150 3 (Bp ((dc.take i).map Kg))))]) [3,4] (λi=>dc.length-i)
  (λi=>i<=dc.length) 0 (Nat.zero_le _) ⟨rfl,As (by simp),rfl,rfl,trivial⟩ ⟨rfl,trivial⟩ rfl λi hi ih=>?_
 refine md [] rfl (by simp) ?_;refine Aa rfl (λh=>?_) (λh=>?_)
 ·simp at h;obtain ⟨e,he⟩:=Am h;have et:=el i e he;have hlen:(Bp ((dc.take i).map Kg)).length<=5:=by simp;omega
  have hih:=ih (i+1) (by omega) (by omega);rw [et] at hih;generalize Bp ((dc.take i).map Kg)=l at *;refine md [] rfl (by simp) ?_;refine mi rfl (c:=Ds e) (λ_=>⟨by omega,by simpa using Bk he,by simp⟩) (by simp) ?_;obtain ⟨en,ea⟩:=e;refine mg [] rfl (by simp) ?_;refine BR Aj rfl ⟨by simp [Kg],by simp [maxLen] at hlen ⊢;omega,by simp at hlen ⊢;omega,trivial⟩ ?_;refine mg [] rfl (by simp) ?_;refine A6 2 4 rfl ?_;exact Ae hih ⟨As (B9 (by omega) (by omega)),rfl,rfl,by simp only [List.length_append];rfl,trivial⟩ ⟨rfl,trivial⟩ rfl
 ·simp at h;refine Ar rfl ?_;refine md [] rfl (by simp) ?_;rw [List.take_of_length_le (by omega)];exact Ab ⟨_,rfl,rfl,rfl,trivial⟩
theorem eJ (c:Cse) (sz:List (List V)) (t:Ty) (ho:OkW c.datas) (ht:AB c.datas t=true):Al Tryz.prog 195 [AL c sz,.agg (dTyc t)] (.sl (Bp (A0 c.datas t))) :=
 cW (S3 c sz t ho ht)
def ptr (b:Nat):Value:=.pointer (some ⟨b,0,none⟩)
def Sc (I:Imm) (w:World) (nt:List Ty) (nv:Value):Prop:=(∃xs,w.ownsRow 0 150 3 nv nt.length xs/\RepVL I xs (Bp nt).flatten)/\(nt=[]->nv = .slice none 0 0)
def JO (w:World) (kbs:List Nat) (kv:Value):Prop:=w.ownsRow 0 109 1 kv kbs.length (kbs.map ptr)
def H2 (I:Imm) (w:World) (ty:Ty) (nt:List Ty) (hd:Ty) (nv kv:Value) (kbs:List Nat) (b:Nat):Prop :=
 (∃vs ts hs,w.heap[b]?=some (.cells vs 177 (0,0))/\vs.toList=ts++hs++[nv,kv]/\RepVL I ts (dTyc ty)/\RepVL I hs (Be hd))/\Sc I w nt nv/\JO w kbs kv
def AG (nv kv:Value) (b:Nat):List Nat:=b::(nv.ownBlock.toList++kv.ownBlock.toList)
mutual
def E4 (I:Imm) (w:World):Mi->Nat->List Nat->Prop
 | .mk ty nt hd ks,b,F=>∃nv kv kbs Fk,H2 I w ty nt hd nv kv kbs b/\Dh I w ks kbs Fk/\F=AG nv kv b++Fk/\F.Nodup
def Dh (I:Imm) (w:World):List Mi->List Nat->List Nat->Prop
 | [],kbs,F=>kbs=[]/\F=[]
 | k::r,kbs,F=>∃kb kr F1 F2,kbs=kb::kr/\E4 I w k kb F1/\Dh I w r kr F2/\F=F1++F2
end
section
variable {I J:Imm} {w w':World}
theorem BG {e:TypeId} {sz n:Nat} {v:Value} {xs:List Value} (h:∀q∈v.ownBlock.toList,w'.heap[q]?=w.heap[q]?) (hr:w.ownsRow 0 e sz v n xs):w'.ownsRow 0 e sz v n xs:=by
 refine ⟨hr.1,?_⟩;rcases hr.2 with h0 | ⟨g,cap,cur,rfl,h1,h2,h3⟩
 ·exact .inl h0
 ·exact .inr ⟨g,cap,cur,rfl,h1,(h g (by simp [Value.ownBlock])).trans h2,h3⟩
theorem Fb {ty:Ty} {nt:List Ty} {hd:Ty} {nv kv:Value} {kbs:List Nat} {b:Nat} (h:∀q∈AG nv kv b,w'.heap[q]?=w.heap[q]?) (hn:H2 I w ty nt hd nv kv kbs b):H2 I w' ty nt hd nv kv kbs b:=by
 obtain ⟨⟨vs,ts,hs,h1,h2⟩,⟨⟨xs,h3,h4⟩,h5⟩,h6⟩:=hn;exact ⟨⟨vs,ts,hs,(h b (by simp [AG])).trans h1,h2⟩,⟨⟨xs,BG (λq hq=>h q (by simp only [AG,List.mem_cons,List.mem_append];exact .inr (.inl hq))) h3,h4⟩,h5⟩,BG (λq hq=>h q (by simp only [AG,List.mem_cons,List.mem_append];exact .inr (.inr hq))) h6⟩
theorem Ej {ty:Ty} {nt:List Ty} {hd:Ty} {nv kv:Value} {kbs:List Nat} {b:Nat} (h:I.le J) (hn:H2 I w ty nt hd nv kv kbs b):H2 J w ty nt hd nv kv kbs b:=by
 obtain ⟨⟨vs,ts,hs,h1,h2,h3,h4⟩,⟨⟨xs,h5,h6⟩,h7⟩,h8⟩:=hn;exact ⟨⟨vs,ts,hs,h1,h2,h3.mono h,h4.mono h⟩,⟨⟨xs,h5,h6.mono h⟩,h7⟩,h8⟩
mutual
theorem G8:∀{c:Mi} {b:Nat} {F:List Nat},(∀q∈F,w'.heap[q]?=w.heap[q]?)->E4 I w c b F->E4 I w' c b F
 | .mk ty nt hd ks,b,F,h,⟨nv,kv,kbs,Fk,h1,h2,h3,h4⟩=>⟨nv,kv,kbs,Fk,Fb (λq hq=>h q (by rw [h3];simp [hq])) h1,Cr (λq hq=>h q (by rw [h3];simp [hq])) h2,h3,h4⟩
theorem Cr:∀{ks:List Mi} {kbs:List Nat} {F:List Nat},(∀q∈F,w'.heap[q]?=w.heap[q]?)->Dh I w ks kbs F->Dh I w' ks kbs F
 | [],_,_,_,h=>h
 | k::r,kbs,F,h,⟨kb,kr,F1,F2,h1,h2,h3,h4⟩=>⟨kb,kr,F1,F2,h1,G8 (λq hq=>h q (by rw [h4];simp [hq])) h2,Cr (λq hq=>h q (by rw [h4];simp [hq])) h3,h4⟩
end
mutual
theorem Hg (hI:I.le J):∀{c:Mi} {b:Nat} {F:List Nat},E4 I w c b F->E4 J w c b F
 | .mk ty nt hd ks,b,F,⟨nv,kv,kbs,Fk,h1,h2,h3,h4⟩=>⟨nv,kv,kbs,Fk,Ej hI h1,D2 hI h2,h3,h4⟩
theorem D2 (hI:I.le J):∀{ks:List Mi} {kbs:List Nat} {F:List Nat},Dh I w ks kbs F->Dh J w ks kbs F
 | [],_,_,h=>h
 | k::r,kbs,F,⟨kb,kr,F1,F2,h1,h2,h3,h4⟩=>⟨kb,kr,F1,F2,h1,Hg hI h2,D2 hI h3,h4⟩
end
theorem Iv {c:Mi} {b:Nat} {F:List Nat} (h:E4 I w c b F):F.Nodup:=by
 obtain ⟨ty,nt,hd,ks⟩:=c;obtain ⟨_,_,_,_,_,_,_,h⟩:=h;exact h
theorem GB:∀{ks:List Mi} {kbs:List Nat} {F:List Nat},Dh I w ks kbs F->kbs.length=ks.length
 | [],_,_,h=>by rw [h.1];rfl
 | k::r,_,_,⟨kb,kr,F1,F2,h1,_,h3,_⟩=>by rw [h1];simp [GB h3]
theorem KJ:∀{ks:List Mi} {kbs:List Nat} {F:List Nat} {i:Nat} {k:Mi},Dh I w ks kbs F->ks[i]?=some k->∃kb F1 Fk F2,kbs[i]?=some kb/\E4 I w k kb Fk/\F=F1++Fk++F2 /\
  ∀J w2 k' Fk',I.le J->(∀q∈F1++F2,w2.heap[q]?=w.heap[q]?)->E4 J w2 k' kb Fk'->Dh J w2 (ks.set i k') kbs (F1++Fk'++F2)
 | [],_,_,i,k,_,h=>by simp at h
 | x::r,kbs,F,0,k,⟨kb,kr,F1,F2,h1,h2,h3,h4⟩,h=>by
  simp at h;subst h;subst h1;refine ⟨kb,[],F1,F2,rfl,h2,by simpa using h4,λJ w2 k' Fk' hI hw hk=>?_⟩;simp only [List.set_cons_zero];exact ⟨kb,kr,Fk',F2,rfl,hk,D2 hI (Cr (λq hq=>hw q (by simp [hq])) h3),by simp⟩
 | x::r,kbs,F,i+1,k,⟨kb,kr,F1,F2,h1,h2,h3,h4⟩,h=>by
  subst h1;obtain ⟨kb',G1,Gk,G2,g1,g2,g3,g4⟩:=KJ h3 (i:=i) (k:=k) (by simpa using h);refine ⟨kb',F1++G1,Gk,G2,by simpa using g1,g2,by rw [h4,g3];simp,λJ w2 k' Fk' hI hw hk=>?_⟩;simp only [List.set_cons_succ];exact ⟨kb,kr,F1,G1++Fk'++G2,rfl,Hg hI (G8 (λq hq=>hw q (by simp [hq])) h2),g4 J w2 k' Fk' hI (λq hq=>hw q (by simp at hq ⊢;rcases hq with h | h <;> simp [h])) hk,by simp⟩
end
def AV (c:Mi) (b:Nat):Asn where
 P _ I w bs:=∃F,E4 I w c b F/\∀q∈F,q∈bs
 mono:=λh ⟨F,h1,h2⟩=>⟨F,Hg h h1,h2⟩
 loc:=λh ⟨F,h1,h2⟩=>⟨F,G8 (λq hq=>h q (h2 q hq)) h1,h2⟩
def Hv (c:Mi):Asn where
 P us I w bs:=∃b F,us=[ptr b]/\E4 I w c b F/\∀q∈F,q∈bs
 mono:=λh ⟨b,F,h0,h1,h2⟩=>⟨b,F,h0,Hg h h1,h2⟩
 loc:=λh ⟨b,F,h0,h1,h2⟩=>⟨b,F,h0,G8 (λq hq=>h q (h2 q hq)) h1,h2⟩
def CD (ty:Ty) (nt:List Ty) (hd:Ty) (ks:List Mi) (nv kv:Value) (kbs:List Nat) (b:Nat):Asn where
 P _ I w bs:=∃Fk,H2 I w ty nt hd nv kv kbs b/\Dh I w ks kbs Fk/\(AG nv kv b++Fk).Nodup/\∀q∈AG nv kv b++Fk,q∈bs
 mono:=λh ⟨F,h1,h2,h3⟩=>⟨F,Ej h h1,D2 h h2,h3⟩
 loc:=λh ⟨F,h1,h2,h3,h4⟩=>⟨F,Fb (λq hq=>h q (h4 q (by simp [hq]))) h1,Cr (λq hq=>h q (h4 q (by simp [hq]))) h2,h3,h4⟩
def FQ (b x:Nat) (T:Mi->Mi):Asn where
 P _ I w bs:=∀J w2 k F,I.le J->(∀q∈bs,w2.heap[q]?=w.heap[q]?)->E4 J w2 k x F->(∀q∈F,q∉bs)->∃G,E4 J w2 (T k) b G/\∀q∈G,q∈bs\/q∈F
 mono:=λh h1 J w2 k F hJ=>h1 J w2 k F (λb o hb=>hJ b o (h b o hb))
 loc:=λh h1 J w2 k F hJ hw=>h1 J w2 k F hJ λq hq=>(hw q hq).trans (h q hq)
theorem JI {I:Imm} {w:World} {ty:Ty} {nt:List Ty} {hd:Ty} {ks:List Mi} {b:Nat} {us:List Value} {bs:List Nat} (h:(AV (.mk ty nt hd ks) b).P us I w bs):∃x:Value×Value×List Nat,(CD ty nt hd ks x.1 x.2.1 x.2.2 b).P us I w bs:=by
 obtain ⟨F,⟨nv,kv,kbs,Fk,h1,h2,h3,h4⟩,h5⟩:=h;subst h3;exact ⟨(nv,kv,kbs),Fk,h1,h2,h4,h5⟩
theorem JJ {I:Imm} {w:World} {ty:Ty} {nt:List Ty} {hd:Ty} {ks:List Mi} {nv kv:Value} {kbs:List Nat} {b:Nat} {us vs:List Value} {bs:List Nat} (h:(CD ty nt hd ks nv kv kbs b).P us I w bs):(AV (.mk ty nt hd ks) b).P vs I w bs:=by
 obtain ⟨Fk,h1,h2,h3,h4⟩:=h;exact ⟨_,⟨nv,kv,kbs,Fk,h1,h2,rfl,h3⟩,h4⟩
theorem R6 {I:Imm} {w:World} {b x:Nat} {T:Mi->Mi} {k:Mi} {us vs:List Value} {b1 b2:List Nat} (h:(FQ b x T).P us I w b1) (hk:(AV k x).P vs I w b2) (hd:∀q∈b1,q∉b2):∃bs,(∀q∈bs,q∈b1\/q∈b2)/\(AV (T k) b).P [] I w bs:=by
 obtain ⟨F,h1,h2⟩:=hk;obtain ⟨G,g1,g2⟩:=h I w k F (Imm.le_refl I) (λ_ _=>rfl) h1 (λq hq hq1=>hd q hq1 (h2 q hq));exact ⟨G,λq hq=>(g2 q hq).imp id (h2 q),G,g1,λq hq=>hq⟩
theorem YN {I:Imm} {w:World} {b x y:Nat} {T S:Mi->Mi} {us vs:List Value} {b1 b2:List Nat} (h:(FQ b x T).P us I w b1) (hk:(FQ x y S).P vs I w b2) (hd:∀q∈b1,q∉b2):(FQ b y (λk=>T (S k))).P [] I w (b1++b2):=by
 intro J w2 k F hJ hw hm hF;obtain ⟨G,g1,g2⟩:=hk J w2 k F hJ (λq hq=>hw q (by simp [hq])) hm (λq hq hq2=>hF q hq (by simp [hq2]));obtain ⟨G',g3,g4⟩:=h J w2 (S k) G hJ (λq hq=>hw q (by simp [hq])) g1 (λq hq hq1=>by
  rcases g2 q hq with h | h
  ·exact hd q hq1 h
  ·exact hF q h (by simp [hq1]))
 refine ⟨G',g3,λq hq=>?_⟩;rcases g4 q hq with h | h
 ·exact .inl (by simp [h])
 ·rcases g2 q h with h | h
  ·exact .inl (by simp [h])
  ·exact .inr h
theorem gP {I:Imm} {w:World} {b:Nat} {us:List Value} {bs:List Nat}:(FQ b b (λk=>k)).P us I w bs:=λJ w2 k F _ _ hm _=>⟨F,hm,λq hq=>.inr hq⟩
end Go.Hk
namespace Go.Hk
section
variable {P:Program} {n:Nat} {F:List Nat} {Q:DQ} {tt:TT} {env env':Env} {st st':St} {ids ids':List Nat} {k todo todo':List DI} {I:Imm} {μ:Mu} {w w':World} {a:Act}
theorem GG (id t j:Nat) {B:Asn} (A:Asn) {v:Value} (hl:lk st id=some (some (.hp B))) (ht:lk env t=some (.raw v)) (h1:v.oneCell'=true)
  (hA:∀us I w bs,B.P us I w bs->A.P [v] I w bs) (h:DGo P n F Q todo ((t,.hv j 0)::env) ((j,some (.hp A))::(id,none)::st) ids'):DGo P n F Q todo env st (j::ids'):=by
 refine Du λI μ a w hc=>?_;obtain ⟨g,hg,us,bs,rfl,hP⟩:=hc.blk id _ hl;obtain ⟨q1,q2,q3⟩:=StRep.relay (R:=[id]) (new:=[(j,MX [v] bs,.hp A)]) (ids':=ids') hc.toStRep
  (λp hp b hb=>by
   rw [List.mem_singleton.1 hp] at hb;exact ⟨id,_,_,by simp,hl,hg,AJ.2 (AJ.1 hb)⟩)
  (λp hp q hq b _ _=>by rw [List.mem_singleton.1 hp,List.mem_singleton.1 hq]) (Imm.le_refl I) hc.imm (λb o h=>.inl h)
  (λ_ p hp=>by rw [List.mem_singleton.1 hp];exact ⟨[v],bs,rfl,hA us I w bs hP⟩)
 have hmj:E2 [(j,MX [v] bs,.hp A)] μ j=some (MX [v] bs):=by simp [E2,lk]
 refine ⟨I,_,_,_,ids',q2,λt' d hd=>?_,q3,.of_le q1,h⟩;by_cases e:t=t'
 ·subst e;rw [Ao] at hd;cases hd;have hv:=(hc.env t _ ht).rawInv;rw [hv];exact .hv v j 0 [v] bs hmj rfl h1
 ·rw [Av _ _ e] at hd;exact (hc.env t' d hd).mono (Imm.le_refl I) q1
end
end Go.Hk
namespace Go.Hk
open Go.Proofs
def HK:Value:=.slice none 0 0
theorem IY {I:Imm} {v:Value} (h:RepD I noMu v .nils):v=HK:=by cases h;rfl
theorem QK {I:Imm} {w:World} {ty:Ty} {hd:Ty} {b:Nat} {us:List Value} {bs:List Nat} (h:(Re b 177 ((dTyc ty++Be hd).map .imm++[.nils,.nils])).P us I w bs):(AV (.mk ty [] hd []) b).P us I w bs:=by
 obtain ⟨h1,vs,h2,h3,h4⟩:=h;obtain ⟨t1,t2,t3,t4⟩:=ty;obtain ⟨f1,f2,f3,f4⟩:=hd;have hl:=h3.1;simp only [dTyc,Be,List.map_append,List.map_cons,List.map_nil,List.cons_append,List.nil_append,List.length_cons,List.length_nil] at hl h3
 match hvs:vs.toList,hl with
 | [a0,a1,a2,a3,a4,a5,a6,a7,a8],_ =>
 rw [hvs] at h3;have e7:a7=HK:=IY (h3.2 7 a7 _ rfl rfl);have e8:a8=HK:=IY (h3.2 8 a8 _ rfl rfl);subst e7;subst e8;subst h1;refine ⟨[b],⟨HK,HK,[],[],⟨⟨vs,[a0,a1,a2,a3],[a4,a5,a6],h2,by rw [hvs];rfl,?_,?_⟩,⟨⟨[],World.ownsRow_nil w 0 _ 3,.nil⟩,λ_=>rfl⟩,World.ownsRow_nil w 0 _ 1⟩,⟨rfl,rfl⟩,rfl,by simp⟩,λq hq=>hq⟩
 ·exact .mk (h3.2 0 a0 _ rfl rfl).immInv (.mk (h3.2 1 a1 _ rfl rfl).immInv (.mk (h3.2 2 a2 _ rfl rfl).immInv (.mk (h3.2 3 a3 _ rfl rfl).immInv .nil)))
 ·exact .mk (h3.2 4 a4 _ rfl rfl).immInv (.mk (h3.2 5 a5 _ rfl rfl).immInv (.mk (h3.2 6 a6 _ rfl rfl).immInv .nil))
theorem GD (wd:V) (t:Ty):Bc Tryz.prog 58 [.imm wd,.imm (.agg (dTyc t))] [] (.ret (.hv 2 0) [(2,some (.hp (Hv (Aq t))))]):=by
 obtain ⟨t1,t2,t3,t4⟩:=t;refine Ad Aj Tryz.func58 (by decide +kernel) rfl [1,3,4,2] rfl rfl ?_;refine mg [] rfl (by simp) ?_;refine Gb 3 4 rfl rfl λb=>?_;refine GG 4 4 2 (Hv (Aq (.mk t1 t2 t3 t4))) rfl rfl rfl (λus I w bs h=>?_) ?_
 ·obtain ⟨F,h1,h2⟩:=QK (ty:=.mk t1 t2 t3 t4) (hd:=zT) h;exact ⟨b,F,rfl,h1,h2⟩
 exact Ab ⟨_,rfl,rfl,rfl,trivial⟩
section
variable {I J:Imm} {w w':World} {ty:Ty} {nt:List Ty} {hd:Ty} {ks:List Mi} {nv kv:Value} {kbs:List Nat} {b:Nat} {us:List Value} {bs:List Nat}
theorem PJ {e:TypeId} {sz n:Nat} {v:Value} {xs:List Value} {q:Nat} (h:w.ownsRow 0 e sz v n xs) (hq:q∈v.ownBlock.toList):q<w.heap.size:=by
 rcases h.2 with ⟨rfl,_⟩ | ⟨g,cap,cur,rfl,_,h2,_⟩
 ·simp [Value.ownBlock] at hq
 ·simp [Value.ownBlock] at hq;subst hq;exact BC h2
theorem Tw (h:H2 I w ty nt hd nv kv kbs b):∀q∈AG nv kv b,q<w.heap.size:=by
 obtain ⟨⟨vs,ts,hs,h1,_⟩,⟨⟨xs,h2,_⟩,_⟩,h3⟩:=h;intro q hq;simp only [AG,List.mem_cons,List.mem_append] at hq;rcases hq with rfl | hq | hq
 ·exact BC h1
 ·exact PJ h2 hq
 ·exact PJ h3 hq
mutual
theorem Ym:∀{c:Mi} {b:Nat} {F:List Nat},E4 I w c b F->∀q∈F,q<w.heap.size
 | .mk ty nt hd ks,b,F,⟨nv,kv,kbs,Fk,h1,h2,h3,_⟩,q,hq=>by
  rw [h3] at hq;rcases List.mem_append.1 hq with hq | hq
  ·exact Tw h1 q hq
  ·exact OP h2 q hq
theorem OP:∀{ks:List Mi} {kbs:List Nat} {F:List Nat},Dh I w ks kbs F->∀q∈F,q<w.heap.size
 | [],_,_,h,q,hq=>by rw [h.2] at hq;cases hq
 | k::r,kbs,F,⟨kb,kr,F1,F2,h1,h2,h3,h4⟩,q,hq=>by
  rw [h4] at hq;rcases List.mem_append.1 hq with hq | hq
  ·exact Ym h2 q hq
  ·exact OP h3 q hq
end
theorem Kq:∀{ks:List Mi} {kbs:List Nat} {F:List Nat} {ks2:List Mi} {kbs2:List Nat} {F2:List Nat},Dh I w ks kbs F->Dh I w ks2 kbs2 F2->Dh I w (ks++ks2) (kbs++kbs2) (F++F2)
 | [],_,_,_,_,_,h,h2=>by rw [h.1,h.2];exact h2
 | k::r,kbs,F,_,_,_,⟨kb,kr,F1,F2',h1,h2,h3,h4⟩,h5=>⟨kb,_,F1,_,by rw [h1];rfl,h2,Kq h3 h5,by rw [h4];simp⟩
theorem Fo {off:Nat} {ds sub:List D} (h:CP I w b 0 ds) (hs:∀(j:Nat) d,sub[j]?=some d->ds[off+j]?=some d):CP I w b off sub:=by
 obtain ⟨vs,t,k,h1,h2⟩:=h;refine ⟨vs,t,k,h1,λj d hd=>?_⟩;obtain ⟨c,h3,h4⟩:=h2 _ _ (hs j d hd);exact ⟨c,by simpa using h3,h4⟩
def dQ (ty hd:Ty) (nv kv:Value):List D:=(dTyc ty++Be hd).map .imm++[.raw nv,.raw kv]
theorem Ec (h:H2 I w ty nt hd nv kv kbs b):CP I w b 0 (dQ ty hd nv kv):=by
 obtain ⟨⟨vs,ts,hs,h1,h2,h3,h4⟩,⟨⟨xs,h5,_⟩,_⟩,h6⟩:=h;obtain ⟨t1,t2,t3,t4⟩:=ty;obtain ⟨f1,f2,f3,f4⟩:=hd;have hl3:=h3.1;have hl4:=h4.1;have h3:=h3.2;have h4:=h4.2;simp only [dTyc,Be,List.length_cons,List.length_nil] at hl3 hl4 h3 h4;have hn:=Hc h5;have hk:=Hc h6
 match ts,hl3 with
 | [a0,a1,a2,a3],_ =>
 match hs,hl4 with
 | [a4,a5,a6],_ =>
 have g:∀(j:Nat) (c:Value),([a0,a1,a2,a3,a4,a5,a6,nv,kv]:List Value)[j]?=some c->vs[0+j]?=some c:=λj c hc=>by
  have:vs.toList[j]?=some c:=by rw [h2];exact hc
  simpa using this
 refine ⟨vs,_,_,h1,λj d hd=>?_⟩;simp only [dQ,dTyc,Be,List.map_append,List.map_cons,List.map_nil,List.cons_append,List.nil_append] at hd;have r0:=h3 0 a0 _ rfl rfl;have r1:=h3 1 a1 _ rfl rfl;have r2:=h3 2 a2 _ rfl rfl;have r3:=h3 3 a3 _ rfl rfl;have r4:=h4 0 a4 _ rfl rfl;have r5:=h4 1 a5 _ rfl rfl;have r6:=h4 2 a6 _ rfl rfl
 match j,hd with
 | 0,hd=>cases hd;exact ⟨a0,g 0 a0 rfl,r0.one rfl,.imm _ _ r0⟩
 | 1,hd=>cases hd;exact ⟨a1,g 1 a1 rfl,r1.one rfl,.imm _ _ r1⟩
 | 2,hd=>cases hd;exact ⟨a2,g 2 a2 rfl,r2.one rfl,.imm _ _ r2⟩
 | 3,hd=>cases hd;exact ⟨a3,g 3 a3 rfl,r3.one rfl,.imm _ _ r3⟩
 | 4,hd=>cases hd;exact ⟨a4,g 4 a4 rfl,r4.one rfl,.imm _ _ r4⟩
 | 5,hd=>cases hd;exact ⟨a5,g 5 a5 rfl,r5.one rfl,.imm _ _ r5⟩
 | 6,hd=>cases hd;exact ⟨a6,g 6 a6 rfl,r6.one rfl,.imm _ _ r6⟩
 | 7,hd=>cases hd;exact ⟨nv,g 7 nv rfl,hn,.raw _ hn⟩
 | 8,hd=>cases hd;exact ⟨kv,g 8 kv rfl,hk,.raw _ hk⟩
 | j+9,hd=>simp at hd
theorem JK (h:(CD ty nt hd ks nv kv kbs b).P us I w bs):CP I w b 0 ((dTyc ty).map .imm):=by
 obtain ⟨F,h,_⟩:=h;obtain ⟨t1,t2,t3,t4⟩:=ty;obtain ⟨f1,f2,f3,f4⟩:=hd;exact Fo (off:=0) (Ec h) λj d hd=>by match j,hd with | 0,hd=>exact hd | 1,hd=>exact hd | 2,hd=>exact hd | 3,hd=>exact hd | j+4,hd=>simp [dTyc] at hd
theorem Z1 (h:(CD ty nt hd ks nv kv kbs b).P us I w bs):CP I w b 0 [.imm (.int .i64 (AC ty))]:=by
 obtain ⟨F,h,_⟩:=h;obtain ⟨t1,t2,t3,t4⟩:=ty;obtain ⟨f1,f2,f3,f4⟩:=hd;exact Fo (off:=0) (Ec h) λj d hd=>by match j,hd with | 0,hd=>exact hd | j+1,hd=>simp at hd
theorem ON (h:(CD ty nt hd ks nv kv kbs b).P us I w bs):CP I w b 4 ((Be hd).map .imm):=by
 obtain ⟨F,h,_⟩:=h;obtain ⟨t1,t2,t3,t4⟩:=ty;obtain ⟨f1,f2,f3,f4⟩:=hd;exact Fo (Ec h) λj d hd=>by match j,hd with | 0,hd=>exact hd | 1,hd=>exact hd | 2,hd=>exact hd | j+3,hd=>simp [Be] at hd
theorem MR (h:(CD ty nt hd ks nv kv kbs b).P us I w bs):CP I w b 4 [.imm (.int .i64 (AC hd))]:=by
 obtain ⟨F,h,_⟩:=h;obtain ⟨t1,t2,t3,t4⟩:=ty;obtain ⟨f1,f2,f3,f4⟩:=hd;exact Fo (Ec h) λj d hd=>by match j,hd with | 0,hd=>exact hd | j+1,hd=>simp at hd
theorem Iy (h:(CD ty nt hd ks nv kv kbs b).P us I w bs):CP I w b 7 [.raw nv]:=by
 obtain ⟨F,h,_⟩:=h;obtain ⟨t1,t2,t3,t4⟩:=ty;obtain ⟨f1,f2,f3,f4⟩:=hd;exact Fo (Ec h) λj d hd=>by match j,hd with | 0,hd=>exact hd | j+1,hd=>simp at hd
theorem JL (h:(CD ty nt hd ks nv kv kbs b).P us I w bs):CP I w b 8 [.raw kv]:=by
 obtain ⟨F,h,_⟩:=h;obtain ⟨t1,t2,t3,t4⟩:=ty;obtain ⟨f1,f2,f3,f4⟩:=hd;exact Fo (Ec h) λj d hd=>by match j,hd with | 0,hd=>exact hd | j+1,hd=>simp at hd
theorem CG {b q:Nat} {cs:Array Value} (h:q≠b):(w.setRow b cs).heap[q]?=w.heap[q]?:=setRow_other w b q cs h
theorem KC {nv kv:Value} {b:Nat} {F:List Nat} (h:(AG nv kv b++F).Nodup):(∀q∈nv.ownBlock.toList++kv.ownBlock.toList++F,q≠b):=by
 simp only [AG,List.cons_append,List.nodup_cons] at h;intro q hq e;subst e;exact h.1 (by simpa using hq)
theorem KE {off:Nat} {ds:List D} {nt':List Ty} {hd':Ty} {ks':List Mi} {nv' kv':Value} {kbs':List Nat} (hoff:off+ds.length<=9)
  (hcell:∀(I:Imm) (ts hs cs:List Value),RepVL I ts (dTyc ty)->RepVL I hs (Be hd)->RepL I noMu cs ds->∃hs',(ts++hs++[nv,kv]).take off++cs++(ts++hs++[nv,kv]).drop (off+ds.length)=ts++hs'++[nv',kv']/\RepVL I hs' (Be hd'))
  (hnot:∀I w,Sc I w nt nv->Sc I w nt' nv') (hrow:∀w,JO w kbs kv->JO w kbs' kv') (hkids:∀I w F,Dh I w ks kbs F->∃F',Dh I w ks' kbs' F'/\F'.Sublist F)
  (hn:nv'.ownBlock.toList.Sublist nv.ownBlock.toList) (hk:kv'.ownBlock.toList.Sublist kv.ownBlock.toList) :
  Mm (CD ty nt hd ks nv kv kbs b) (CD ty nt' hd' ks' nv' kv' kbs' b) b off ds:=by
 intro us I w bs ⟨Fk,⟨⟨vs,ts,hs,h1,h2,h3,h4⟩,h5,h6⟩,h7,h8,h9⟩;have hl:vs.toList.length=9:=by
  have:=h3.1;have:=h4.1;obtain ⟨t1,t2,t3,t4⟩:=ty;obtain ⟨f1,f2,f3,f4⟩:=hd;rw [h2];simp [dTyc,Be] at *;omega
 have hvl:vs.size=9:=by simpa using hl
 refine ⟨h9 b (by simp [AG]),vs,_,h1,by omega,λcs hcs hone=>?_⟩;obtain ⟨hs',e1,e2⟩:=hcell I ts hs cs h3 h4 hcs;obtain ⟨F',g1,g2⟩:=hkids I w Fk h7;have hne:=KC h8;have hsub:(AG nv' kv' b++F').Sublist (AG nv kv b++Fk):=by
  simp only [AG,List.cons_append];exact .cons_cons _ ((hn.append hk).append g2)
 have hnot':=hnot I w h5;have hrow':=hrow w h6;refine ⟨F',⟨⟨_,ts,hs',setRow_heap w b vs _ _ _ h1,by rw [List.toList_toArray,h2];exact e1,h3,e2⟩,⟨?_,hnot'.2⟩,?_⟩,?_,h8.sublist hsub,λq hq=>h9 q (hsub.subset hq)⟩
 ·obtain ⟨⟨xs,x1,x2⟩,_⟩:=hnot';exact ⟨xs,BG (λq hq=>CG (hne q (by simp only [List.mem_append];exact .inl (.inl (hn.subset hq))))) x1,x2⟩
 ·exact BG (λq hq=>CG (hne q (by simp only [List.mem_append];exact .inl (.inr (hk.subset hq))))) hrow'
 ·exact Cr (λq hq=>CG (hne q (by simp only [List.mem_append];exact .inr (g2.subset hq)))) g1
theorem cO {cs:List Value} {xs:List V} (h:RepL I noMu cs (xs.map .imm)):RepVL I cs xs:=by
 refine ⟨by simpa using h.1,λi v x hv hx=>(h.2 i v (.imm x) hv (by simp [hx])).immInv⟩
theorem gV {ts hs cs:List Value} {nv kv:Value} (h1:ts.length=4) (h2:hs.length=3) (h3:cs.length=3):(ts++hs++[nv,kv]).take 4++cs++(ts++hs++[nv,kv]).drop (4+3)=ts++cs++[nv,kv]:=by
 match ts,h1 with
 | [a0,a1,a2,a3],_ =>
 match hs,h2 with
 | [a4,a5,a6],_=>simp
theorem Pk:(dTyc ty).length=4:=by obtain ⟨t1,t2,t3,t4⟩:=ty;rfl
theorem bM (h:Ty):Mm (CD ty nt hd ks nv kv kbs b) (CD ty nt h ks nv kv kbs b) b 4 ((Be h).map .imm):=by
 refine KE (by simp) (λI ts hs cs h1 h2 h3=>⟨cs,?_,cO h3⟩) (λ_ _ h=>h) (λ_ h=>h) (λ_ _ F h=>⟨F,h,.refl _⟩) (.refl _) (.refl _);have e3:cs.length=3:=by have:=h3.1;simpa using this
 have:=gV (nv:=nv) (kv:=kv) (by rw [h1.1,Pk]) (by rw [h2.1];simp) e3;simpa using this
theorem bK:Mm (CD ty nt hd ks nv kv kbs b) (CD ty [] hd ks HK kv kbs b) b 7 [.nils]:=by
 refine KE (by simp) (λI ts hs cs h1 h2 h3=>⟨hs,?_,h2⟩) (λI w _=>⟨⟨[],World.ownsRow_nil w 0 _ 3,.nil⟩,λ_=>rfl⟩) (λ_ h=>h) (λ_ _ F h=>⟨F,h,.refl _⟩) (by simp [HK,Value.ownBlock]) (.refl _);have e1:ts.length=4:=by rw [h1.1,Pk]
 have e2:hs.length=3:=by rw [h2.1];simp
 have e3:=h3.1
 match ts,e1 with
 | [a0,a1,a2,a3],_ =>
 match hs,e2 with
 | [a4,a5,a6],_ =>
 match cs,e3,h3 with
 | [c],_,h3 =>
  have:c=HK:=IY (h3.2 0 c _ rfl rfl);subst this;simp
theorem bL:Mm (CD ty nt hd ks nv kv kbs b) (CD ty nt hd [] nv HK [] b) b 8 [.nils]:=by
 refine KE (by simp) (λI ts hs cs h1 h2 h3=>⟨hs,?_,h2⟩) (λ_ _ h=>h) (λw _=>World.ownsRow_nil w 0 _ 1) (λ_ _ F h=>⟨[],⟨rfl,rfl⟩,List.nil_sublist _⟩) (.refl _) (by simp [HK,Value.ownBlock]);have e1:ts.length=4:=by rw [h1.1,Pk]
 have e2:hs.length=3:=by rw [h2.1];simp
 have e3:=h3.1
 match ts,e1 with
 | [a0,a1,a2,a3],_ =>
 match hs,e2 with
 | [a4,a5,a6],_ =>
 match cs,e3,h3 with
 | [c],_,h3 =>
  have:c=HK:=IY (h3.2 0 c _ rfl rfl);subst this;simp
end
end Go.Hk
