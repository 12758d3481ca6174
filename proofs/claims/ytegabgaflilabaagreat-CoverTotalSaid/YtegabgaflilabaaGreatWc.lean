/- Contracts of term: what nodes have. (And what it stands on.) -/
import Derived.Test.YtegabgaflilabaaGreatWb
import Derived.Laws.StructEq
import Derived.MapKept
import Derived.Test.YtegabgaflilabaaGreatProg
import Derived.WalkKit
import Derived.RowKit3
import Derived.Laws.NewBlocks
import Derived.Defers
import Derived.Recover
set_option linter.unusedSimpArgs false
set_option linter.unusedVariables false

set_option maxRecDepth 100000
set_option maxHeartbeats 4000000
namespace Go.Hk
theorem OF {α:Type} {sz f:Nat} {ys:List α}:∀(es:List (List α)) (k:Nat) (c:List α),(∀e∈es,e.length=sz)->es[k]?=some c->f+ys.length<=sz ->
  (es.set k (c.take f++ys++c.drop (f+ys.length))).flatten=es.flatten.take (k*sz+f)++ys++es.flatten.drop (k*sz+f+ys.length)
 | [],_,_,_,h,_=>by simp at h
 | e::r,0,c,hs,h,hf=>by
  simp at h;subst h;have he:=hs e (by simp);simp only [List.set_cons_zero,List.flatten_cons,Nat.zero_mul,Nat.zero_add];rw [List.take_append_of_le_length (by omega),List.drop_append_of_le_length (by omega)];simp
 | e::r,k+1,c,hs,h,hf=>by
  have he:=hs e (by simp);have ih:=OF r k c (λe h=>hs e (by simp [h])) (by simpa using h) hf;simp only [List.set_cons_succ,List.flatten_cons,ih];have e1:(k+1)*sz+f=e.length+(k*sz+f):=by rw [he,Nat.succ_mul];omega
  rw [e1,Nat.add_assoc e.length,List.take_length_add_append,List.drop_length_add_append];simp
theorem RepVL.splice {I:Imm} {vs ns:List Value} {xs ys:List V} (h:RepVL I vs xs) (k:RepVL I ns ys) (off:Nat):RepVL I (vs.take off++ns++vs.drop (off+ns.length)) (xs.take off++ys++xs.drop (off+ys.length)):=by
 have app:∀{a b:List Value} {x y:List V},RepVL I a x->RepVL I b y->RepVL I (a++b) (x++y):=λ{a b x y} p q =>
  ⟨by simp [p.1,q.1],λi v z h1 h2=>by
   rw [List.getElem?_append] at h1 h2;by_cases hi:i<a.length
   ·rw [if_pos hi] at h1;rw [if_pos (by rw [<- p.1];exact hi)] at h2;exact p.2 i v z h1 h2
   ·rw [if_neg hi] at h1;rw [if_neg (by rw [<- p.1];exact hi),<- p.1] at h2;exact q.2 _ v z h1 h2⟩
 refine app (app ⟨by simp [h.1],λi v z h1 h2=>?_⟩ k) ⟨by simp [h.1,k.1],λi v z h1 h2=>?_⟩
 ·rw [List.getElem?_take] at h1 h2;by_cases hi:i<off
  ·rw [if_pos hi] at h1 h2;exact h.2 i v z h1 h2
  ·rw [if_neg hi] at h1;cases h1
 ·rw [List.getElem?_drop] at h1 h2;rw [k.1] at h1;exact h.2 _ v z h1 h2
structure POi where
 id:Nat
 es:List (List V)
 m:Int
 sz:Nat
 g:Option (Bool×Bool)
 ob:List Prop
 t:Nat
 todo:List DI
def pD (tt:TT) (n:Nat) (env:Env) (st:St) (todo:List DI):Option POi :=
 match Bk todo ([],[]) with
 | some (all,o,_)=>match o.op,Ct all env o with
  | .indexAddr t x i,some g=>match lk tt t,Lb (An g) env x,Lb (An g) env i with
   | some { sh:=.sl e,.. },some (.own id _,o1),some (.imm (.int _ m),o2)=>match lk tt e,lk st id,o.dst,BJ n o.dst,Bk todo ([id],[]) with
    | some ti,some (some (.row _ sz es)),some t',true,some (_,_,todo')=>match Nat.beq sz ti.size with
     | true=>some ⟨id,es,m,sz,g,Iv o1 o2,t',todo'⟩
     | false=>none
    | _,_,_,_,_=>none
   | _,_,_=>none
  | _,_=>none
 | none=>none
structure POl where
 id:Nat
 es:List (List V)
 k:Nat
 f:Nat
 sz:Nat
 i:TyI
 g:Option (Bool×Bool)
 ob:List Prop
 t:Nat
 todo:List DI
def iP (tt:TT) (n:Nat) (env:Env) (st:St) (todo:List DI):Option POl :=
 match Bk todo ([],[]) with
 | some (all,o,_)=>match o.op,Ct all env o with
  | .load t x,some g=>match lk tt t,Lb (An g) env x with
   | some i,some (.elp id k sz f,o1)=>match lk st id,o.dst,BJ n o.dst,Bk todo ([id],[]) with
    | some (some (.row _ sz' es)),some t',true,some (_,_,todo')=>match Nat.beq sz sz' with
     | true=>some ⟨id,es,k,f,sz,i,g,o1,t',todo'⟩
     | false=>none
    | _,_,_,_=>none
   | _,_=>none
  | _,_=>none
 | none=>none
structure POs where
 id:Nat
 e:TypeId
 es:List (List V)
 k:Nat
 f:Nat
 sz:Nat
 ys:List V
 n:Nat
 ob:List Prop
 todo:List DI
def ZD (tt:TT) (env:Env) (st:St) (todo:List DI):Option POs :=
 match Bk todo ([],[]) with
 | some (_,o,_)=>match o.guard,o.dst,o.op with
  | none,none,.store t p x=>match lk tt t,D2 env p,D2 env x with
   | some i,some (.elp id k sz f),some dx=>match lk st id,Bk todo ([id],[id]),elemOf i.size dx with
    | some (some (.row e sz' es)),some (_,_,todo'),some (ys,ob)=>match Nat.beq sz sz' with
     | true=>some ⟨id,e,es,k,f,sz,ys,i.size,ob,todo'⟩
     | false=>none
    | _,_,_=>none
   | _,_,_=>none
  | _,_,_=>none
 | none=>none
section
variable {P:Program} {n:Nat} {F:List Nat} {Q:DQ} {tt:TT} {env env':Env} {st st':St} {ids ids':List Nat} {k todo todo':List DI} {I:Imm} {μ:Mu} {w:World} {a:Act} {Pn:V->Prop} {d:D} {cx:Prop} {ob:List Prop}
theorem Jo {f f':List Nat×List Nat} {all all':List Oper} {o o':Oper} (h:Bk todo f=some (all,o,k)) (h':Bk todo f'=some (all',o',todo')):all'=all/\o'=o:=by
 rcases I6 h with ⟨r,q,rfl,_⟩ | ⟨r,fs,q,rfl,_⟩
 ·simp [Bk] at h';exact ⟨h'.1.symm,h'.2.1.symm⟩
 ·simp [Bk] at h';exact ⟨h'.1.symm,h'.2.1.symm⟩
theorem Yc {id:Nat} {e:TypeId} {sz:Nat} {es:List (List V)} (hst:StRep I μ st ids w) (hl:At st id (.row e sz es)) (hne:es≠[]) :
  ∃b cap cur,μ id=some (.slice (some ⟨b,0,none⟩) es.length cap)/\w.heap[b]?=some (.cells cur e (0,0))/\es.length<=cap/\cap<=maxLen/\cur.size=cap*sz /\
   RepVL I (cur.toList.take (es.length*sz)) es.flatten/\(∀c∈es,c.length=sz)/\(∀c∈es,∀x∈c,V.one x=true)/\0<sz:=by
 obtain ⟨g,hg,xs,⟨_,hown⟩,hrep,hsz,hone,hp⟩:=hst.blk id _ hl;rcases hown with ⟨_,h0⟩ | ⟨b,cap,cur,rfl,_,h2,h3,h4,h5,h6⟩
 ·exact absurd (List.eq_nil_of_length_eq_zero h0) hne
 ·rw [<- h6] at hrep;exact ⟨b,cap,cur,hg,h2,h3,h4,h5,hrep,hsz,hone,hp⟩
theorem Hx (htt:TTok P tt) {c:POi} (h:pD tt n env st todo=some c) (hc:An c.g->0<=c.m/\c.m<c.es.length) (hob:AA c.ob)
  (hk:G P n F Q c.todo ((c.t,gD c.g (.elp c.id c.m.toNat c.sz 0))::env) st ids):G P n F Q todo env st ids:=by
 unfold pD at h
 split at h
 ·rename_i all o todo0 h0
  split at h
  ·rename_i t x i g hop hg
   split at h
   ·rename_i e _ _ _ _ id ln o1 kk m o2 ht hx hi
    split at h
    ·rename_i ti e' sz es t' all' o' todo' hti hl hdst hd h1
     split at h
     ·rename_i hsz;cases h;obtain ⟨rfl,rfl⟩:=Jo h0 h1;have hk:G P n F Q todo' (BE o'.dst (gD g (.elp id m.toNat sz 0)) env) st ids:=by rw [hdst];exact hk
      refine BC (fr:=[]) (wr:=[]) (rd:=[id]) h1 (CT hg λI μ st1 ids1 a w hag hst hops hcx=>?_) (by rw [hdst] at hd ⊢;exact hd) (λc hc=>by rw [hop] at hc;cases hc) hk;rw [hop] at hops;obtain ⟨ho1,ho2⟩:=Bo hob;have rx:=CE hx ho1 hcx (hops x (by simp [Op.operands]));have ri:=(CE hi ho2 hcx (hops i (by simp [Op.operands]))).immInv.intInv;obtain ⟨c0,c1⟩:=hc hcx;simp only at c0 c1;have hl1:At st1 id (.row e' sz es):=by unfold At;rw [hag id (by simp)];exact hl
      obtain ⟨b,cap,cur,hmu,hheap,hcap,hcm,hcs,hrep,hlen,hone,hp⟩:=Yc hst hl1 (by rintro rfl;simp at c1;omega);have hs:=Nat.eq_of_beq_eq_true hsz;subst hs;have hu:P.underlying t=some (.slice e):=htt.sh ht;simp only [execOp,hop,ri];generalize hv:a.eval x=v at rx;cases rx with
      | own _ _ ad cp hm =>
       rw [hm] at hmu;cases hmu;have hr:=NY (w:=w) hu (htt e ti hti) (b:=b) (off:=0) (len:=es.length) (cap:=cap) (kk:=kk) c0 (by omega);have hrun:(do pure (.value (<- Instr.indexAt t (.slice (some ⟨b,0,none⟩) es.length cap) (.int kk m))):Sem Next).run P w = .ok (.value (.pointer (some ⟨b,0+m.toNat*ti.size,none⟩))) w:=A4 hr;rw [hrun,Nat.zero_add];exact ⟨I,μ,hst,.elp b id _ cap m.toNat ti.size 0 hm,Mu.le_refl μ,Ext.refl _ _ _ _⟩
     ·cases h
    ·cases h
   ·cases h
  ·cases h
 ·cases h
theorem PU (htt:TTok P tt) {c:POl} {e:List V} {d:D} (h:iP tt n env st todo=some c) (hc:An c.g->c.es[c.k]?=some e) (hd:MH c.i (Nat.beq c.sz c.i.size) e c.f=some d) (hob:AA c.ob)
  (hk:G P n F Q c.todo ((c.t,gD c.g d)::env) st ids):G P n F Q todo env st ids:=by
 unfold iP at h
 split at h
 ·rename_i all o todo0 h0
  split at h
  ·rename_i t x g hop hg
   split at h
   ·rename_i i id kk sz f o1 ht hx
    split at h
    ·rename_i e' sz' es t' all' o' todo' hl hdst hd' h1
     split at h
     ·rename_i hsz;cases h;obtain ⟨rfl,rfl⟩:=Jo h0 h1;have hk:G P n F Q todo' (BE o'.dst (gD g d) env) st ids:=by rw [hdst];exact hk
      refine BC (fr:=[]) (wr:=[]) (rd:=[id]) h1 (CT hg λI μ st1 ids1 a w hag hst hops hcx=>?_) (by rw [hdst] at hd' ⊢;exact hd') (λc hc=>by rw [hop] at hc;cases hc) hk;rw [hop] at hops;have rx:=CE hx hob hcx (hops x (by simp [Op.operands]));have c1:=hc hcx;simp only at c1;have hs:=Nat.eq_of_beq_eq_true hsz;subst hs;have hl1:At st1 id (.row e' sz es):=by unfold At;rw [hag id (by simp)];exact hl
      obtain ⟨b,cap,cur,hmu,hheap,hcap,hcm,hcs,hrep,hlen,hone,hp⟩:=Yc hst hl1 (by rintro rfl;simp at c1);have he:=hlen e (List.mem_of_getElem? c1);simp only [execOp,hop];generalize hv:a.eval x=v at rx;cases rx with
      | elp _ _ ln cp _ _ _ hm =>
       rw [hm] at hmu;cases hmu;have hcell:∀j y,e[j]?=some y->∃u,cur[kk*sz+j]?=some u/\RepV I u y/\u.oneCell'=true:=by
        intro j y hj;have h1:=C5 hlen kk e j y c1 hj;have hlt:kk*sz+j<(cur.toList.take (es.length*sz)).length:=by rw [hrep.1];exact (List.getElem?_eq_some_iff.1 h1).1
        have h2:=List.getElem?_eq_getElem hlt;have h3:=hrep.2 _ _ _ h2 h1;refine ⟨_,?_,h3,h3.one (hone e (List.mem_of_getElem? c1) y (List.mem_of_getElem? hj))⟩;rw [List.getElem?_take] at h2
        split at h2
        ·simp
        ·cases h2
       obtain ⟨u,q1,q2⟩:=ME (P:=P) (w:=w) (I:=I) (μ:=μ) (htt t i ht) (b:=b) (o:=kk*sz) (off:=f) (xs:=e) (vs:=λj=>(cur[kk*sz+j]?).getD undef) (same:=Nat.beq sz i.size)
        (λj y hj=>by
         obtain ⟨u,k1,k2,k3⟩:=hcell j y hj;refine ⟨?_,by simp [k1,k3]⟩;rw [DA hheap (kk*sz+j) u (by simpa using k1)];simp [k1])
        (λj y hj=>by
         obtain ⟨u,k1,k2,k3⟩:=hcell j y hj;simpa [k1] using k2)
        (λ_ hs _=>by rw [he];exact Nat.eq_of_beq_eq_true hs) hd
       have hrun:(do pure (.value (<- Instr.loadAt t (.pointer (some ⟨b,kk*sz+f,none⟩)))):Sem Next).run P w = .ok (.value u) w:=A4 q1;rw [hrun];exact ⟨I,μ,hst,q2,Mu.le_refl μ,Ext.refl _ _ _ _⟩
     ·cases h
    ·cases h
   ·cases h
  ·cases h
 ·cases h
theorem R2 (htt:TTok P tt) {c:POs} {e e':List V} (h:ZD tt env st todo=some c) (hc:c.es[c.k]?=some e) (hf:c.f+c.n<=c.sz) (he':e'=e.take c.f++c.ys++e.drop (c.f+c.n)) (hob:AA c.ob)
  (hk:G P n F Q c.todo env ((c.id,some (.row c.e c.sz (c.es.set c.k e')))::st) ids):G P n F Q todo env st ids:=by
 unfold ZD at h
 split at h
 ·rename_i all o todo0 h0
  split at h
  ·rename_i t p x hgd hdst hop
   split at h
   ·rename_i i id kk sz f dx ht hp hx
    split at h
    ·rename_i ty sz' es all' o' todo' ys ob hl h1 hel
     split at h
     ·rename_i hsz;cases h;obtain ⟨rfl,rfl⟩:=Jo h0 h1;have hs:=Nat.eq_of_beq_eq_true hsz;subst hs;simp only at hc hf he' hob hk;have hk:G P n F Q todo' (BE o'.dst .undef env) ([(id,some (.row ty sz (es.set kk e')))]++st) ids:=by rw [hdst];exact hk
      refine BC (fr:=[]) (wr:=[(id,some (.row ty sz (es.set kk e')))]) (rd:=[id]) h1 ?_ (by simp [BJ,hdst]) (λc hc=>by rw [hop] at hc;cases hc) hk;intro I μ st1 ids1 a w hag hst hon;refine ⟨λ_=>?_,λhw=>by rw [AF hgd] at hw;cases hw⟩;have hops:=Bh hon;rw [hop] at hops;have rp:=hops p (by simp [Op.operands]) _ hp;obtain ⟨r1,r2,r3,r4⟩:=RC hel (hops x (by simp [Op.operands]) _ hx) hob;have hl1:At st1 id (.row ty sz es):=by unfold At;rw [hag id (by simp)];exact hl
      obtain ⟨b,cap,cur,hmu,hheap,hcap,hcm,hcs,hrep,hlen,hone,hpos⟩:=Yc hst hl1 (by rintro rfl;simp at hc);have hkl:=(List.getElem?_eq_some_iff.1 hc).1;have hfit:kk*sz+f+i.size<=es.length*sz:=by
       have:(kk+1)*sz<=es.length*sz:=Nat.mul_le_mul_right _ hkl;rw [Nat.succ_mul] at this;omega
      have hcapz:es.length*sz<=cap*sz:=Nat.mul_le_mul_right _ hcap;generalize hv:a.eval p=v at rp;cases rp with
      | elp _ _ ln cp _ _ _ hm =>
       rw [hm] at hmu;cases hmu;have hvl:(a.eval x).cells.toList.length=i.size:=by simpa using r2
       have hrun:(execOp a.eval o').run P w = .ok .skip (w.setRow b (cur.toList.take (kk*sz+f)++(a.eval x).cells.toList++cur.toList.drop (kk*sz+f+(a.eval x).cells.toList.length)).toArray):=by
        simp only [execOp,hop,hv,Sem.run_bind,IX (htt t i ht) hheap r2 r4 (show kk*sz+f+(a.eval x).cells.toList.length<=cur.size by rw [hvl];omega),Result.andThen_ok,Sem.run_pure]
       rw [hrun];have hcl:cur.toList.length=cap*sz:=by simpa using hcs
       have hnew:BlkRep I μ (w.setRow b (cur.toList.take (kk*sz+f)++(a.eval x).cells.toList++cur.toList.drop (kk*sz+f+(a.eval x).cells.toList.length)).toArray) (.slice (some ⟨b,0,none⟩) es.length cap) (.row ty sz (es.set kk e')):=by
        subst he';have hys:ys.length=i.size:=r3;have e1:=OF (ys:=ys) es kk e hlen hc (by rw [hys];exact hf);rw [hys] at e1;have e2:(cur.toList.take (kk*sz+f)++(a.eval x).cells.toList++cur.toList.drop (kk*sz+f+(a.eval x).cells.toList.length)).take (es.length*sz) =
          (cur.toList.take (es.length*sz)).take (kk*sz+f)++(a.eval x).cells.toList++(cur.toList.take (es.length*sz)).drop (kk*sz+f+(a.eval x).cells.toList.length):=by
         rw [hvl,List.append_assoc,List.take_append,List.take_append,List.take_take,List.take_take,List.length_take,hvl,List.append_assoc];rw [Nat.min_eq_left (by omega:kk*sz+f<=cur.toList.length),Nat.min_eq_right (by omega:kk*sz+f<=es.length*sz),Nat.min_eq_left (by omega:kk*sz+f<=es.length*sz)];rw [List.take_of_length_le (l:=(a.eval x).cells.toList) (by omega),List.drop_take];congr 3;omega
        have hR:=RepVL.splice hrep r1 (kk*sz+f);rw [hvl,hys] at hR;rw [hvl] at e2;have hls:(es.set kk (e.take f++ys++e.drop (f+i.size))).length=es.length:=by simp
        refine ⟨_,⟨?_,.inr ⟨b,cap,_,by rw [hls],Nat.zero_le _,setRow_heap w b cur _ ty _ hheap,by rw [hls];exact hcap,hcm,?_,rfl⟩⟩,?_,?_,?_,hpos⟩
        ·simp;omega
        ·simp;omega
        ·rw [hls,hvl,List.toList_toArray,e2];exact e1 ▸ hR
        ·intro c hc';rcases List.mem_or_eq_of_mem_set hc' with h | h
         ·exact hlen c h
         ·rw [h];have:=hlen e (List.mem_of_getElem? hc);simp [hys];omega
        ·intro c hc' y hy;rcases List.mem_or_eq_of_mem_set hc' with h | h
         ·exact hone c h y hy
         ·rw [h] at hy;have h5:=hone e (List.mem_of_getElem? hc);rcases List.mem_append.1 hy with hy | hy
          ·rcases List.mem_append.1 hy with hy | hy
           ·exact h5 y (List.mem_of_mem_take hy)
           ·obtain ⟨j,hj⟩:=List.mem_iff_getElem?.1 hy;have hjl:j<(a.eval x).cells.toList.length:=by rw [r1.1];exact (List.getElem?_eq_some_iff.1 hj).1
            exact (r1.2 j _ y (List.getElem?_eq_getElem hjl) hj).oneV (r4 _ (List.getElem_mem _))
          ·exact h5 y (List.mem_of_mem_drop hy)
       obtain ⟨q1,q2⟩:=hst.update (id:=id) (blk:=.row ty sz es) (g:=.slice (some ⟨b,0,none⟩) es.length cap) (b:=b) hl1 hm rfl (w':=w.setRow b _) (setRow_size w b _) rfl rfl rfl (λk hk=>setRow_other w b k _ hk) hnew;exact ⟨I,μ,q1,.undef _,Mu.le_refl μ,q2⟩
     ·cases h
    ·cases h
   ·cases h
  ·cases h
 ·cases h
end
end Go.Hk
namespace Go.Hk
def noMu:Mu:=λ_=>none
theorem nE (μ:Mu):noMu.le μ:=λ_ _ h=>by cases h
def Dc (I:Imm) (w:World) (b off:Nat) (ds:List D):Prop :=
 ∃vs t k,w.heap[b]?=some (.cells vs t k)/\∀j d,ds[j]?=some d->∃c,vs[off+j]?=some c/\c.oneCell'=true/\RepD I noMu c d
structure PRi where
 a:Addr
 len:Nat
 m:Int
 sz:Nat
 g:Option (Bool×Bool)
 ob:List Prop
 t:Nat
 todo:List DI
def pA (tt:TT) (n:Nat) (env:Env) (todo:List DI):Option PRi :=
 match Bk todo ([],[]) with
 | some (all,o,todo')=>match o.op,Ct all env o with
  | .indexAddr t x i,some g=>match lk tt t,Lb (An g) env x,Lb (An g) env i with
   | some { sh:=.sl e,.. },some (.raw (.slice (some a) len _),o1),some (.imm (.int _ m),o2)=>match lk tt e,o.dst,BJ n o.dst with
    | some ti,some t',true=>some ⟨a,len,m,ti.size,g,Iv o1 o2,t',todo'⟩
    | _,_,_=>none
   | _,_,_=>none
  | _,_=>none
 | none=>none
structure PRl where
 b:Nat
 off:Nat
 i:TyI
 g:Option (Bool×Bool)
 ob:List Prop
 t:Nat
 todo:List DI
def iO (tt:TT) (n:Nat) (env:Env) (id:Nat) (todo:List DI):Option PRl :=
 match Bk todo ([id],[]) with
 | some (all,o,todo')=>match o.op,Ct all env o with
  | .load t x,some g=>match lk tt t,Lb (An g) env x with
   | some i,some (.raw (.pointer (some ⟨b,off,none⟩)),o1)=>match o.dst,BJ n o.dst with
    | some t',true=>some ⟨b,off,i,g,o1,t',todo'⟩
    | _,_=>none
   | _,_=>none
  | _,_=>none
 | none=>none
structure PRs where
 b:Nat
 off:Nat
 ds:List D
 todo:List DI
def ZB (tt:TT) (env:Env) (id:Nat) (todo:List DI):Option PRs :=
 match Bk todo ([id],[id]) with
 | some (_,o,todo')=>match o.guard,o.dst,o.op with
  | none,none,.store t p x=>match lk tt t,D2 env p,D2 env x with
   | some i,some (.raw (.pointer (some ⟨b,off,none⟩))),some dx=>match Ms dx with
    | some ds=>match Nat.beq ds.length i.size,Jn ds with
     | true,[]=>some ⟨b,off,ds,todo'⟩
     | _,_=>none
    | none=>none
   | _,_,_=>none
  | _,_,_=>none
 | none=>none
section
variable {P:Program} {n:Nat} {F:List Nat} {Q:DQ} {tt:TT} {env env':Env} {st st':St} {ids ids':List Nat} {k todo todo':List DI} {I:Imm} {μ:Mu} {w:World} {a:Act} {Pn:V->Prop} {d:D} {cx:Prop} {ob:List Prop}
theorem RepD.rawInv {v u:Value} (h:RepD I μ v (.raw u)):v=u:=by cases h;rfl
theorem MQ (htt:TTok P tt) {c:PRi} (h:pA tt n env todo=some c) (hs:c.a.spot=none) (hc:An c.g->0<=c.m/\c.m<c.len) (hob:AA c.ob)
  (hk:G P n F Q c.todo ((c.t,gD c.g (.raw (.pointer (some ⟨c.a.block,c.a.off+c.m.toNat*c.sz,none⟩))))::env) st ids):G P n F Q todo env st ids:=by
 unfold pA at h
 split at h
 ·rename_i all o todo' h1
  split at h
  ·rename_i t x i g hop hg
   split at h
   ·rename_i e _ _ _ _ ad len cap o1 kk m o2 ht hx hi
    split at h
    ·rename_i ti t' hti hdst hd;cases h;obtain ⟨b,off,spot⟩:=ad;simp only at hs;subst hs;have hk:G P n F Q todo' (BE o.dst (gD g (.raw (.pointer (some ⟨b,off+m.toNat*ti.size,none⟩)))) env) st ids:=by rw [hdst];exact hk
     refine BC (fr:=[]) (wr:=[]) (rd:=[]) h1 (CT hg λI μ st1 ids1 a w _ hst hops hcx=>?_) (by rw [hdst] at hd ⊢;exact hd) (λc hc=>by rw [hop] at hc;cases hc) hk;rw [hop] at hops;obtain ⟨ho1,ho2⟩:=Bo hob;have rx:=(CE hx ho1 hcx (hops x (by simp [Op.operands]))).rawInv;have ri:=(CE hi ho2 hcx (hops i (by simp [Op.operands]))).immInv.intInv;obtain ⟨c0,c1⟩:=hc hcx;have hu:P.underlying t=some (.slice e):=htt.sh ht;simp only [execOp,hop,ri,rx];have hr:=NY (w:=w) hu (htt e ti hti) (b:=b) (off:=off) (len:=len) (cap:=cap) (kk:=kk) c0 c1
     have hrun:(do pure (.value (<- Instr.indexAt t (.slice (some ⟨b,off,none⟩) len cap) (.int kk m))):Sem Next).run P w = .ok (.value (.pointer (some ⟨b,off+m.toNat*ti.size,none⟩))) w:=A4 hr;rw [hrun];exact ⟨I,μ,hst,.raw _ rfl,Mu.le_refl μ,Ext.refl _ _ _ _⟩
    ·cases h
   ·cases h
  ·cases h
 ·cases h
theorem ZW {t:TypeId} {i:TyI} (hi:TyOk P t i) {b off:Nat} {ds:List D} {d:D} (h:Dc I w b off ds) (hl:ds.length=i.size) (hd:GD i true ds 0=some d) (μ:Mu) :
  ∃v,(Instr.loadAt t (.pointer (some ⟨b,off,none⟩))).run P w = .ok v w/\RepD I μ v d:=by
 obtain ⟨vs,bt,kk,hheap,hcs⟩:=h;have hcell:∀(j:Nat),j<ds.length->∃c d,ds[j]?=some d/\vs[off+j]?=some c/\c.oneCell'=true/\RepD I μ c d:=λj hj=>by
  obtain ⟨c,h1,h2,h3⟩:=hcs j _ (List.getElem?_eq_getElem hj);exact ⟨c,_,List.getElem?_eq_getElem hj,h1,h2,h3.mono (Imm.le_refl I) (nE μ)⟩
 have hw:∀j,j<ds.length->w.cell? ⟨b,off+j,none⟩=some ((vs[off+j]?).getD undef):=λj hj=>by
  obtain ⟨c,d,_,h2,_⟩:=hcell j hj;rw [DA hheap (off+j) c (by simpa using h2)];simp [h2]
 cases ha:i.agg with
 | true =>
  simp only [GD,ha] at hd;cases hd;have hr:=KI hi b off (λj=>(vs[off+j]?).getD undef) (w:=w) (λj hj=>hw j (by omega)) (λhf=>by rw [ha] at hf;cases hf);rw [ha] at hr;simp only [if_true] at hr;refine ⟨_,hr,?_⟩;have:=I8 (I:=I) (μ:=μ) (vs:=(List.range i.size).map λj=>(vs[off+j]?).getD undef) (ds:=ds) ⟨by simp [hl],λj v d hv hd=>?_⟩ (λc hc=>?_)
  ·simpa using this
  ·rw [List.getElem?_map] at hv;obtain ⟨c,d',h1,h2,_,h4⟩:=hcell j (List.getElem?_eq_some_iff.1 hd).1;rw [h1] at hd;cases hd;cases hj:(List.range i.size)[j]? with
   | none=>rw [hj] at hv;cases hv
   | some q =>
    rw [hj] at hv;have:q=j:=by
     obtain ⟨h6,h7⟩:=List.getElem?_eq_some_iff.1 hj;simpa using h7.symm
    subst this;cases hv;simpa [h2] using h4
  ·obtain ⟨j,hj,rfl⟩:=List.mem_map.1 hc;obtain ⟨c,d',_,h2,h3,_⟩:=hcell j (by rw [hl];simpa using hj);simpa [h2] using h3
 | false =>
  simp only [GD,ha] at hd;have hlt:0<ds.length:=by
   cases ds with
   | nil=>simp [Mj] at hd
   | cons=>simp
  have hr:=KI hi b off (λj=>(vs[off+j]?).getD undef) (w:=w) (λj hj=>hw j (by omega)) (λ_=>hw 0 hlt);rw [ha] at hr;simp only [Bool.false_eq_true,if_false] at hr;obtain ⟨c,d',h1,h2,_,h4⟩:=hcell 0 hlt;rw [FL,h1] at hd;cases hd;rw [Nat.add_zero] at h2;exact ⟨_,hr,by simpa [h2] using h4⟩
theorem Bz (htt:TTok P tt) (id:Nat) {A:Asn} {c:PRl} (ds:List D) {d:D} (h:iO tt n env id todo=some c) (hl:lk st id=some (some (.hp A)))
  (hA:An c.g->∀vs I w bs,A.P vs I w bs->Dc I w c.b c.off ds) (hlen:ds.length=c.i.size) (hd:GD c.i true ds 0=some d) (hob:AA c.ob)
  (hk:G P n F Q c.todo ((c.t,gD c.g d)::env) st ids):G P n F Q todo env st ids:=by
 unfold iO at h
 split at h
 ·rename_i all o todo' h1
  split at h
  ·rename_i t x g hop hg
   split at h
   ·rename_i i b off o1 ht hx
    split at h
    ·rename_i t' hdst hd';cases h;have hk:G P n F Q todo' (BE o.dst (gD g d) env) st ids:=by rw [hdst];exact hk
     refine BC (fr:=[]) (wr:=[]) (rd:=[id]) h1 (CT hg λI μ st1 ids1 a w hag hst hops hcx=>?_) (by rw [hdst] at hd' ⊢;exact hd') (λc hc=>by rw [hop] at hc;cases hc) hk;rw [hop] at hops;have rx:=(CE hx hob hcx (hops x (by simp [Op.operands]))).rawInv;have hl1:At st1 id (.hp A):=by unfold At;rw [hag id (by simp)];exact hl
     obtain ⟨gg,hg',us,bs,e1,e2⟩:=hst.blk id _ hl1;obtain ⟨v,q1,q2⟩:=ZW (P:=P) (htt t i ht) (hA hcx us I w bs e2) hlen hd μ;simp only [execOp,hop,rx];have hrun:(do pure (.value (<- Instr.loadAt t (.pointer (some ⟨b,off,none⟩)))):Sem Next).run P w = .ok (.value v) w:=A4 q1;rw [hrun];exact ⟨I,μ,hst,q2,Mu.le_refl μ,Ext.refl _ _ _ _⟩
    ·cases h
   ·cases h
  ·cases h
 ·cases h
def Nu (A A':Asn) (b off:Nat) (ds:List D):Prop:=∀us I w bs,A.P us I w bs->b∈bs/\∃vs t,w.heap[b]?=some (.cells vs t (0,0))/\off+ds.length<=vs.size /\
 ∀cs,RepL I noMu cs ds->(∀c∈cs,c.oneCell'=true)->A'.P us I (w.setRow b (vs.toList.take off++cs++vs.toList.drop (off+ds.length)).toArray) bs
theorem R1 (htt:TTok P tt) (id:Nat) {A:Asn} (A':Asn) {c:PRs} (h:ZB tt env id todo=some c) (hl:lk st id=some (some (.hp A))) (hA:Nu A A' c.b c.off c.ds)
  (hk:G P n F Q c.todo env ((id,some (.hp A'))::st) ids):G P n F Q todo env st ids:=by
 unfold ZB at h
 split at h
 ·rename_i all o todo' h1
  split at h
  ·rename_i t p x hgd hdst hop
   split at h
   ·rename_i i b off dx ht hp hx
    split at h
    ·rename_i ds hds
     split at h
     ·rename_i hsz hnm;cases h;simp only at hA hk;have hk:G P n F Q todo' (BE o.dst .undef env) ([(id,some (.hp A'))]++st) ids:=by rw [hdst];exact hk
      refine BC (fr:=[]) (wr:=[(id,some (.hp A'))]) (rd:=[id]) h1 ?_ (by simp [BJ,hdst]) (λc hc=>by rw [hop] at hc;cases hc) hk;intro I μ st1 ids1 a w hag hst hon;refine ⟨λ_=>?_,λhw=>by rw [AF hgd] at hw;cases hw⟩;have hops:=Bh hon;rw [hop] at hops;have rp:=(hops p (by simp [Op.operands]) _ hp).rawInv;obtain ⟨r1,r2⟩:=JN hds (hops x (by simp [Op.operands]) _ hx);have hl1:At st1 id (.hp A):=by unfold At;rw [hag id (by simp)];exact hl
      obtain ⟨gg,hg',us,bs,e1,e2⟩:=hst.blk id _ hl1;obtain ⟨k1,vs,bt,k2,k3,k4⟩:=hA us I w bs e2;have hvl:(a.eval x).cells.toList.length=ds.length:=r1.1;have hs:=Nat.eq_of_beq_eq_true hsz;have hrun:(execOp a.eval o).run P w = .ok .skip (w.setRow b (vs.toList.take off++(a.eval x).cells.toList++vs.toList.drop (off+(a.eval x).cells.toList.length)).toArray):=by
       simp only [execOp,hop,rp,Sem.run_bind,IX (htt t i ht) k2 (by rw [<- hs,<- hvl];simp) r2 (show off+(a.eval x).cells.toList.length<=vs.size by rw [hvl];exact k3),Result.andThen_ok,Sem.run_pure]
      rw [hrun,hvl];have hR:RepL I noMu (a.eval x).cells.toList ds:=r1.sub λj hj=>by rw [hnm] at hj;cases hj
      have hnew:BlkRep I μ (w.setRow b (vs.toList.take off++(a.eval x).cells.toList++vs.toList.drop (off+ds.length)).toArray) gg (.hp A'):=⟨us,bs,e1,k4 _ hR r2⟩
      obtain ⟨q1,q2⟩:=hst.update (id:=id) (blk:=.hp A) (g:=gg) (b:=b) hl1 hg' (by rw [e1];exact AX.2 k1) (w':=w.setRow b _) (setRow_size w b _) rfl rfl rfl (λk hk=>setRow_other w b k _ hk) hnew;exact ⟨I,μ,q1,.undef _,Mu.le_refl μ,q2⟩
     ·cases h
    ·cases h
   ·cases h
  ·cases h
 ·cases h
end
end Go.Hk
namespace Go.Hk
def QZ:List (Nat×Value×Blk)->St
 | []=>[]
 | (i,_,b)::r=>(i,some b)::QZ r
def ON:List (Nat×Value×Blk)->List Nat
 | []=>[]
 | (i,_,_)::r=>i::ON r
def Fj (new:List (Nat×Value×Blk)) (μ:Mu):Mu:=λi=>match lk new i with
 | some p=>some p.1
 | none=>μ i
def ZJ (R:List Nat) (μ:Mu) (st:St) (b:Nat):Prop:=∃r blk g,r∈R/\At st r blk/\μ r=some g/\Dl g b
section
variable {P:Program} {n:Nat} {F:List Nat} {Q:DQ} {tt:TT} {env env':Env} {st st':St} {ids ids':List Nat} {todo:List DI} {I J:Imm} {μ:Mu} {w:World} {a:Act} {d:D}
theorem Yy {new:List (Nat×Value×Blk)} {i:Nat} {b:Blk} {st:St}:At (QZ new++st) i b->(∃g,(i,g,b)∈new/\lk new i=some (g,b))\/(lk new i=none/\At st i b):=by
 induction new with
 | nil=>intro h;exact .inr ⟨rfl,h⟩
 | cons p r ih =>
  obtain ⟨k,g,x⟩:=p;intro h;simp only [QZ,List.cons_append] at h;rcases A7.1 h with ⟨rfl,rfl⟩ | ⟨h1,h2⟩
  ·exact .inl ⟨g,by simp,Aw _ _ _⟩
  ·rw [A6 _ _ (λe=>h1 e.symm)];rcases ih h2 with ⟨g',q1,q2⟩ | h
   ·exact .inl ⟨g',by simp [q1],q2⟩
   ·exact .inr h
theorem Wt {new:List (Nat×Value×Blk)} {i:Nat}:lk new i=none↔i∉ON new:=by
 induction new with
 | nil=>simp [lk,ON]
 | cons p r ih =>
  obtain ⟨k,g,x⟩:=p;by_cases h:k=i
  ·subst h;rw [Aw];simp [ON]
  ·rw [A6 _ _ h,ih];simp [ON];exact λ_ e=>h e.symm
theorem StRep.relay {R:List Nat} {new:List (Nat×Value×Blk)} (hst:StRep I μ st (ON new++ids') w)
  (hown:∀p∈new,∀b,Dl p.2.1 b->ZJ R μ st b) (hdisj:∀p∈new,∀q∈new,∀b,Dl p.2.1 b->Dl q.2.1 b->p.1=q.1)
  (hI:I.le J) (hJ:J.ok w) (hold:∀b o,J b=some o->I b=some o\/(ZJ R μ st b/\∀p∈new,¬Dl p.2.1 b))
  (hrep:μ.le (Fj new μ)->∀p∈new,BlkRep J (Fj new μ) w p.2.1 p.2.2) :
  μ.le (Fj new μ)/\StRep J (Fj new μ) (QZ new++(Cy R++st)) ids' w/\Ext I μ st w J (Fj new μ) (QZ new++(Cy R++st)) w:=by
 have hnd:=List.nodup_append.1 hst.nodup;have hle:μ.le (Fj new μ):=λi v h=>by
  have:i∉ON new:=λhi=>by rw [hst.idsFree i (by simp [hi])] at h;cases h
  simp [Fj,Wt.2 this,h]
 have hcase:∀{i b},At (QZ new++(Cy R++st)) i b->(∃g,(i,g,b)∈new/\Fj new μ i=some g)\/(i∉R/\At st i b/\Fj new μ i=μ i):=by
  intro i b h;rcases Yy h with ⟨g,q1,q2⟩ | ⟨q1,q2⟩
  ·exact .inl ⟨g,q1,by simp [Fj,q2]⟩
  ·obtain ⟨h3,h4⟩:=LX q2;exact .inr ⟨h3,h4,by simp [Fj,q1]⟩
 have hold':∀{b},Bq μ st b->(∀r∈R,∀blk g,At st r blk->μ r=some g->¬Dl g b)->J b=none:=by
  intro b ⟨i,blk,g,q1,q2,q3⟩ hR;have hI0:=(hst.apart i blk g b q1 q2 q3).1;cases hJb:J b with
  | none=>rfl
  | some o =>
   rcases hold b o hJb with h | ⟨⟨r,blk',g',k1,k2,k3,k4⟩,_⟩
   ·rw [hI0] at h;cases h
   ·exact absurd k4 (hR r k1 blk' g' k2 k3)
 have hE:Ext I μ st w J (Fj new μ) (QZ new++(Cy R++st)) w :=
  {imm:=hI,os:=rfl,tape:=rfl,output:=rfl,size:=Nat.le_refl _,block:=λ_ _ _=>rfl
   fresh:=λb _ ⟨i,blk,g,q1,q2,q3⟩=>by
    rcases hcase q1 with ⟨g',k1,k2⟩ | ⟨_,k2,k3⟩
    ·rw [k2] at q2;cases q2;obtain ⟨r,blk',g',_,a2,a3,a4⟩:=hown _ k1 b q3;exact ⟨r,blk',g',a2,a3,a4⟩
    ·exact ⟨i,blk,g,k2,by rw [<- k3];exact q2,q3⟩
   old:=λb _ ho=>by
    cases hJb:J b with
    | none =>
     cases hIb:I b with
     | none=>rfl
     | some o=>rw [hI b o hIb] at hJb;cases hJb
    | some o =>
     rcases hold b o hJb with h | ⟨⟨r,blk,g,_,k2,k3,k4⟩,_⟩
     ·exact h.symm
     ·exact absurd ⟨r,blk,g,k2,k3,k4⟩ ho }
 refine ⟨hle,{ imm:=hJ,blk:=λi b hl=>?_,apart:=λi b g k hl hg hk=>?_,inj:=λi j bi bj gi gj k hi hj hgi hgj hki hkj=>?_,nodup:=hnd.2.1,idsFree:=λi hi=>?_ },hE⟩
 ·rcases hcase hl with ⟨g,k1,k2⟩ | ⟨_,k2,k3⟩
  ·exact ⟨g,k2,hrep hle _ k1⟩
  ·obtain ⟨g,q1,q2⟩:=hst.blk i b k2;exact ⟨g,by rw [k3];exact q1,q2.mono hI hle⟩
 ·rcases hcase hl with ⟨g',k1,k2⟩ | ⟨kR,k2,k3⟩
  ·rw [k2] at hg;cases hg;obtain ⟨r,blk',g',a1,a2,a3,a4⟩:=hown _ k1 k hk;obtain ⟨z1,z2⟩:=hst.apart r blk' g' k a2 a3 a4;refine ⟨?_,z2⟩;cases hJb:J k with
   | none=>rfl
   | some o =>
    rcases hold k o hJb with h | ⟨_,h⟩
    ·rw [z1] at h;cases h
    ·exact absurd hk (h _ k1)
  ·rw [k3] at hg;obtain ⟨z1,z2⟩:=hst.apart i b g k k2 hg hk;refine ⟨hold' ⟨i,b,g,k2,hg,hk⟩ λr hr blk' g' h1 h2 h3=>?_,z2⟩;exact kR (by rw [hst.inj i r b blk' g g' k k2 h1 hg h2 hk h3];exact hr)
 ·rcases hcase hi with ⟨g1,k1,k2⟩ | ⟨kR,k2,k3⟩
  ·rw [k2] at hgi;cases hgi;rcases hcase hj with ⟨g2,l1,l2⟩ | ⟨lR,l2,l3⟩
   ·rw [l2] at hgj;cases hgj;exact hdisj _ k1 _ l1 k hki hkj
   ·rw [l3] at hgj;obtain ⟨r,blk',g',a1,a2,a3,a4⟩:=hown _ k1 k hki;exact absurd (by rw [hst.inj j r bj blk' gj g' k l2 a2 hgj a3 hkj a4];exact a1) lR
  ·rw [k3] at hgi;rcases hcase hj with ⟨g2,l1,l2⟩ | ⟨lR,l2,l3⟩
   ·rw [l2] at hgj;cases hgj;obtain ⟨r,blk',g',a1,a2,a3,a4⟩:=hown _ l1 k hkj;exact absurd (by rw [hst.inj i r bi blk' gi g' k k2 a2 hgi a3 hki a4];exact a1) kR
   ·rw [l3] at hgj;exact hst.inj i j bi bj gi gj k k2 l2 hgi hgj hki hkj
 ·have:i∉ON new:=λh=>hnd.2.2 i h i hi rfl;simp only [Fj,Wt.2 this];exact hst.idsFree i (by simp [hi])
theorem DS (h:∀I μ a w,Conc n I μ env st ids a w->∃J ν env' st' ids',StRep J ν st' ids' w/\(∀t d,lk env' t=some d->RepD J ν (a.tmps.getD t undef) d)/\Ext I μ st w J ν st' w/\Pin F μ ν/\DGo P n F Q todo env' st' ids') :
  DGo P n F Q todo env st ids:=by
 intro b cs I μ a w items hd hc;obtain ⟨J,ν,env',st',ids',h1,h2,h3,h4,h5⟩:=h I μ a w hc;exact (h5 b cs J ν a w items hd { h1 with size:=hc.size,env:=h2,defers:=hc.defers.ext h3 }).mono λe a' w' hp=>hp.back h4 h3
theorem KT {α:Type} (id j:Nat) {A:Asn} (B:α->Asn) (hl:lk st id=some (some (.hp A))) (hA:∀vs I w bs,A.P vs I w bs->∃x bs',(∀b∈bs',b∈bs)/\(B x).P [] I w bs')
  (h:∀x,DGo P n F Q todo env ((j,some (.hp (B x)))::(id,none)::st) ids'):DGo P n F Q todo env st (j::ids'):=by
 refine DS λI μ a w hc=>?_;obtain ⟨g,hg,vs,bs,rfl,hP⟩:=hc.blk id _ hl;obtain ⟨x,bs',h1,h2⟩:=hA vs I w bs hP;obtain ⟨q1,q2,q3⟩:=StRep.relay (R:=[id]) (new:=[(j,Nw [] bs',.hp (B x))]) (ids':=ids') hc.toStRep
  (λp hp b hb=>by
   rw [List.mem_singleton.1 hp] at hb;exact ⟨id,_,_,by simp,hl,hg,AX.2 (h1 b (AX.1 hb))⟩)
  (λp hp q hq b _ _=>by rw [List.mem_singleton.1 hp,List.mem_singleton.1 hq]) (Imm.le_refl I) hc.imm (λb o h=>.inl h)
  (λ_ p hp=>by rw [List.mem_singleton.1 hp];exact ⟨[],bs',rfl,h2⟩)
 exact ⟨I,_,env,_,ids',q2,λt d hd=>(hc.env t d hd).mono (Imm.le_refl I) q1,q3,.of_le q1,h x⟩
theorem GQ {α:Type} (id i j:Nat) {A:Asn} (B C:α->Asn) (hl:lk st id=some (some (.hp A)))
  (hA:∀vs I w bs,A.P vs I w bs->∃x b1 b2,(∀b∈b1,b∈bs)/\(∀b∈b2,b∈bs)/\(∀b∈b1,b∉b2)/\(B x).P [] I w b1/\(C x).P [] I w b2)
  (h:∀x,DGo P n F Q todo env ((i,some (.hp (B x)))::(j,some (.hp (C x)))::(id,none)::st) ids'):DGo P n F Q todo env st (i::j::ids'):=by
 refine DS λI μ a w hc=>?_;obtain ⟨g,hg,vs,bs,rfl,hP⟩:=hc.blk id _ hl;obtain ⟨x,b1,b2,k1,k2,k3,k4,k5⟩:=hA vs I w bs hP;obtain ⟨q1,q2,q3⟩:=StRep.relay (R:=[id]) (new:=[(i,Nw [] b1,.hp (B x)),(j,Nw [] b2,.hp (C x))]) (ids':=ids') hc.toStRep
  (λp hp b hb=>by
   simp only [List.mem_cons,List.not_mem_nil,or_false] at hp;rcases hp with rfl | rfl
   ·exact ⟨id,_,_,by simp,hl,hg,AX.2 (k1 b (AX.1 hb))⟩
   ·exact ⟨id,_,_,by simp,hl,hg,AX.2 (k2 b (AX.1 hb))⟩)
  (λp hp q hq b e1 e2=>by
   simp only [List.mem_cons,List.not_mem_nil,or_false] at hp hq;rcases hp with rfl | rfl <;> rcases hq with rfl | rfl <;> first
    | rfl
    | exact absurd (AX.1 e2) (k3 b (AX.1 e1))
    | exact absurd (AX.1 e1) (k3 b (AX.1 e2))) (Imm.le_refl I) hc.imm (λb o h=>.inl h)
  (λ_ p hp=>by
   simp only [List.mem_cons,List.not_mem_nil,or_false] at hp;rcases hp with rfl | rfl
   ·exact ⟨[],b1,rfl,k4⟩
   ·exact ⟨[],b2,rfl,k5⟩)
 exact ⟨I,_,env,_,ids',q2,λt d hd=>(hc.env t d hd).mono (Imm.le_refl I) q1,q3,.of_le q1,h x⟩
theorem Fu {α:Type} (i j id:Nat) {A B:Asn} (C:α->Asn) (hi:lk st i=some (some (.hp A))) (hj:lk st j=some (some (.hp B))) (hne:i≠j)
  (hA:∀vs us I w b1 b2,A.P vs I w b1->B.P us I w b2->(∀b∈b1,b∉b2)->∃x bs,(∀b∈bs,b∈b1\/b∈b2)/\(C x).P [] I w bs)
  (h:∀x,DGo P n F Q todo env ((id,some (.hp (C x)))::(i,none)::(j,none)::st) ids'):DGo P n F Q todo env st (id::ids'):=by
 refine DS λI μ a w hc=>?_;obtain ⟨g1,hg1,vs,b1,rfl,hP1⟩:=hc.blk i _ hi;obtain ⟨g2,hg2,us,b2,rfl,hP2⟩:=hc.blk j _ hj;obtain ⟨x,bs,k1,k2⟩:=hA vs us I w b1 b2 hP1 hP2 λb h1 h2=>hne (hc.inj i j _ _ _ _ b hi hj hg1 hg2 (AX.2 h1) (AX.2 h2));obtain ⟨q1,q2,q3⟩:=StRep.relay (R:=[i,j]) (new:=[(id,Nw [] bs,.hp (C x))]) (ids':=ids') hc.toStRep
  (λp hp b hb=>by
   rw [List.mem_singleton.1 hp] at hb;rcases k1 b (AX.1 hb) with h | h
   ·exact ⟨i,_,_,by simp,hi,hg1,AX.2 h⟩
   ·exact ⟨j,_,_,by simp,hj,hg2,AX.2 h⟩)
  (λp hp q hq b _ _=>by rw [List.mem_singleton.1 hp,List.mem_singleton.1 hq]) (Imm.le_refl I) hc.imm (λb o h=>.inl h)
  (λ_ p hp=>by rw [List.mem_singleton.1 hp];exact ⟨[],bs,rfl,k2⟩)
 exact ⟨I,_,env,_,ids',q2,λt d hd=>(hc.env t d hd).mono (Imm.le_refl I) q1,q3,.of_le q1,h x⟩
mutual
def Yu (id:Nat) (vs:List Value):D->D
 | .hv i k=>match Nat.beq i id,Mj vs k with
  | true,some v=>.raw v
  | _,_=>.hv i k
 | .agg cs=>.agg (Yt id vs cs)
 | .tup cs=>.tup (Yt id vs cs)
 | d=>d
def Yt (id:Nat) (vs:List Value):List D->List D
 | []=>[]
 | d::r=>Yu id vs d::Yt id vs r
end
def cS (id:Nat) (vs:List Value):Env->Env
 | []=>[]
 | (t,d)::r=>(t,Yu id vs d)::cS id vs r
def rM (id:Nat) (vs:List Value):Blk->Blk
 | .cells t sz cs=>.cells t sz (Yt id vs cs)
 | b=>b
def Sw (id:Nat) (vs:List Value):St->St
 | []=>[]
 | (i,some b)::r=>(i,some (rM id vs b))::Sw id vs r
 | (i,none)::r=>(i,none)::Sw id vs r
theorem Je (id:Nat) (vs:List Value):∀l:List D,Yt id vs l=l.map (Yu id vs)
 | []=>rfl
 | d::r=>by simp [Yt,Je id vs r]
theorem RepD.opn {id:Nat} {vs:List Value} {bs:List Nat} (hm:μ id=some (Nw vs bs)) {v:Value} (h:RepD I μ v d):RepD I μ v (Yu id vs d):=by
 have at_:∀{l:List D} {i:Nat} {x:D},(Yt id vs l)[i]?=some x->∃y,l[i]?=some y/\x=Yu id vs y:=by
  intro l i x hx;rw [Je,List.getElem?_map] at hx;cases hl:l[i]? with
  | none=>rw [hl] at hx;cases hx
  | some y=>rw [hl] at hx;cases hx;exact ⟨y,rfl,rfl⟩
 induction h with
 | hv v i k us cs h hi h1 =>
  simp only [Yu]
  split
  ·rename_i u he hu;rw [Nat.eq_of_beq_eq_true he,hm] at h;have hvs:vs=us/\bs=cs:=by
    simp only [Nw,Option.some.injEq,Value.tuple.injEq,Array.mk.injEq,List.cons.injEq,Value.agg.injEq,and_true] at h;refine ⟨by simpa using h.1,?_⟩;have h2:=congrArg Array.toList h.2;simp only [UK] at h2;exact (List.map_inj_right (λx y e=>by simpa using e)).1 h2
   rw [FL,hvs.1,hi] at hu;cases hu;exact .raw _ h1
  ·exact .hv v i k us cs h hi h1
 | agg cs ds hl h1 _ ih =>
  refine .agg cs _ (by rw [Je,List.length_map,hl]) h1 λi c x hc hx=>?_;obtain ⟨y,hy,rfl⟩:=at_ hx;exact ih i c y hc hy
 | tup cs ds hl _ ih =>
  refine .tup cs _ (by rw [Je,List.length_map,hl]) λi c x hc hx=>?_;obtain ⟨y,hy,rfl⟩:=at_ hx;exact ih i c y hc hy
 | undef v=>exact .undef v
 | imm v x hx=>exact .imm v x hx
 | nils=>exact .nils
 | ref b id off hm=>exact .ref b id off hm
 | ip b o t cs off vs hcell hrep=>exact .ip b o t cs off vs hcell hrep
 | own i len a cap hm=>exact .own i len a cap hm
 | elp b i len cap k sz f hm=>exact .elp b i len cap k sz f hm
 | mapr i b hm=>exact .mapr i b hm
 | iter i b hm=>exact .iter i b hm
 | fn f first cap df dc hf hc h1 h2 _ _=>exact .fn f first cap df dc hf hc h1 h2
 | iface t v d h _=>exact .iface t v d h
 | guard c want v d h hu _=>exact .guard c want v d h hu
 | clip a len es hr=>exact .clip a len es hr
 | slc b i off len cap hm hl hx=>exact .slc b i off len cap hm hl hx
 | yld b i hm=>exact .yld b i hm
 | raw v h=>exact .raw v h
theorem ZL {id:Nat} {vs:List Value}:∀{env:Env} {t:Nat} {d:D},lk (cS id vs env) t=some d->∃d0,lk env t=some d0/\d=Yu id vs d0
 | [],t,d,h=>by simp [cS,lk] at h
 | (s,x)::r,t,d,h=>by
  simp only [cS] at h;by_cases hs:s=t
  ·subst hs;rw [Aw] at h ⊢;cases h;exact ⟨x,rfl,rfl⟩
  ·rw [A6 _ _ hs] at h ⊢;exact ZL h
theorem NL {id:Nat} {vs:List Value} {i:Nat} {b:Blk}:∀{st:St},At (Sw id vs st) i b->∃b0,At st i b0/\b=rM id vs b0
 | [],h=>by simp [Sw,At,lk] at h
 | (k,some x)::r,h=>by
  simp only [Sw] at h;rcases A7.1 h with ⟨h1,h2⟩ | ⟨h1,h2⟩
  ·exact ⟨x,by unfold At;rw [h1,Aw],h2⟩
  ·obtain ⟨b0,q1,q2⟩:=NL h2;exact ⟨b0,A7.2 (.inr ⟨h1,q1⟩),q2⟩
 | (k,none)::r,h=>by
  simp only [Sw] at h;obtain ⟨h1,h2⟩:=BB.1 h;obtain ⟨b0,q1,q2⟩:=NL h2;exact ⟨b0,BB.2 ⟨h1,q1⟩,q2⟩
theorem StRep.retell {st1:St} (hst:StRep I μ st ids w) (h:∀i b,At st1 i b->∃b0,At st i b0/\∀g,BlkRep I μ w g b0->BlkRep I μ w g b):StRep I μ st1 ids w/\Ext I μ st w I μ st1 w:=by
 refine ⟨{ imm:=hst.imm,blk:=λi b hl=>?_,apart:=λi b g k hl hg hk=>?_,inj:=λi j bi bj gi gj k hi hj=>?_,nodup:=hst.nodup,idsFree:=hst.idsFree },?_⟩
 ·obtain ⟨b0,h1,h2⟩:=h i b hl;obtain ⟨g,hg,hr⟩:=hst.blk i b0 h1;exact ⟨g,hg,h2 g hr⟩
 ·obtain ⟨b0,h1,_⟩:=h i b hl;exact hst.apart i b0 g k h1 hg hk
 ·obtain ⟨b0,h1,_⟩:=h i bi hi;obtain ⟨b1,h2,_⟩:=h j bj hj;exact hst.inj i j b0 b1 gi gj k h1 h2
 ·exact { imm:=Imm.le_refl I,os:=rfl,tape:=rfl,output:=rfl,size:=Nat.le_refl _,block:=λ_ _ _=>rfl,old:=λ_ _ _=>rfl
          fresh:=λb _ ⟨i,bi,g,h1,h2⟩=>let ⟨b0,q,_⟩:=h i bi h1;⟨i,b0,g,q,h2⟩ }
theorem E3 {α:Type} (id j:Nat) {A:Asn} (val:α->List Value) (B:α->Asn) (hl:lk st id=some (some (.hp A)))
  (hA:∀vs I w bs,A.P vs I w bs->∃x,vs=val x/\(B x).P [] I w bs)
  (h:∀x,DGo P n F Q todo (cS id (val x) env) ((j,some (.hp (B x)))::(id,none)::Sw id (val x) st) ids'):DGo P n F Q todo env st (j::ids'):=by
 refine DS λI μ a w hc=>?_;obtain ⟨g,hg,vs,bs,rfl,hP⟩:=hc.blk id _ hl;obtain ⟨x,rfl,h2⟩:=hA vs I w bs hP;obtain ⟨p1,p2⟩:=hc.toStRep.retell (st1:=Sw id (val x) st) (λi b hlb=>by
  obtain ⟨b0,q1,rfl⟩:=NL hlb;refine ⟨b0,q1,λgb hb=>?_⟩;cases b0 with
  | cells t sz cs =>
   obtain ⟨hs,b,us,e1,e2,e3,e4⟩:=hb;exact ⟨by rw [Je,List.length_map,hs],b,us,e1,e2,⟨by rw [Je,List.length_map,e3.1],λi v y hv hy=>by
    rw [Je,List.getElem?_map] at hy;cases hc':cs[i]? with
    | none=>rw [hc'] at hy;cases hy
    | some z=>rw [hc'] at hy;cases hy;exact (e3.2 i v z hv hc').opn hg⟩,e4⟩
  | _=>exact hb)
 have hl':At (Sw id (val x) st) id (.hp A):=by
  have:∀{st:St},At st id (.hp A)->At (Sw id (val x) st) id (.hp A):=by
   intro st
   induction st with
   | nil=>intro h;simp [At,lk] at h
   | cons p r ih =>
    obtain ⟨k,y⟩:=p;intro h;cases y with
    | none=>obtain ⟨h1,h2⟩:=BB.1 h;exact BB.2 ⟨h1,ih h2⟩
    | some y =>
     rcases A7.1 h with ⟨h1,h2⟩ | ⟨h1,h2⟩
     ·exact A7.2 (.inl ⟨h1,by rw [<- h2];rfl⟩)
     ·exact A7.2 (.inr ⟨h1,ih h2⟩)
  exact this hl
 obtain ⟨q1,q2,q3⟩:=StRep.relay (R:=[id]) (new:=[(j,Nw [] bs,.hp (B x))]) (ids':=ids') p1
  (λp hp b hb=>by
   rw [List.mem_singleton.1 hp] at hb;exact ⟨id,_,_,by simp,hl',hg,AX.2 (AX.1 hb)⟩)
  (λp hp q hq b _ _=>by rw [List.mem_singleton.1 hp,List.mem_singleton.1 hq]) (Imm.le_refl I) hc.imm (λb o h=>.inl h)
  (λ_ p hp=>by rw [List.mem_singleton.1 hp];exact ⟨[],bs,rfl,h2⟩)
 refine ⟨I,_,cS id (val x) env,_,ids',q2,λt d hd=>?_,p2.trans q3,.of_le q1,h x⟩;obtain ⟨d0,h0,rfl⟩:=ZL hd;exact ((hc.env t d0 h0).opn hg).mono (Imm.le_refl I) q1
def Imm.plus (I:Imm) (bs:List Nat) (w:World):Imm:=λb=>if Fo bs b=true then w.heap[b]? else I b
end
end Go.Hk
namespace Go.Hk
def Vp (e:TypeId) (sz:Nat) (es:List (List V)) (v:Value):Asn where
 P:=λ_ I w bs=>(v = .slice none 0 0/\es=[]/\bs=[])\/∃b cap cur,v = .slice (some ⟨b,0,none⟩) es.length cap/\bs=[b]/\w.heap[b]?=some (.cells cur e (0,0))/\es.length<=cap/\cap<=maxLen /\
  cur.size=cap*sz/\RepVL I (cur.toList.take (es.length*sz)) es.flatten/\(∀c∈es,c.length=sz)/\(∀c∈es,∀x∈c,V.one x=true)/\0<sz
 mono:=λh hp=>by
  rcases hp with hp | ⟨b,cap,cur,h1,h2,h3,h4,h5,h6,h7,h8⟩
  ·exact .inl hp
  ·exact .inr ⟨b,cap,cur,h1,h2,h3,h4,h5,h6,h7.mono h,h8⟩
 loc:=λh hp=>by
  rcases hp with hp | ⟨b,cap,cur,h1,h2,h3,h4⟩
  ·exact .inl hp
  ·exact .inr ⟨b,cap,cur,h1,h2,(h b (by simp [h2])).trans h3,h4⟩
mutual
def Ys (id:Nat) (v:Value):D->D
 | .own i n=>bif Nat.beq i id then .raw v else .own i n
 | .agg cs=>.agg (Yr id v cs)
 | .tup cs=>.tup (Yr id v cs)
 | d=>d
def Yr (id:Nat) (v:Value):List D->List D
 | []=>[]
 | d::r=>Ys id v d::Yr id v r
end
def cQ (id:Nat) (v:Value):Env->Env
 | []=>[]
 | (t,d)::r=>(t,Ys id v d)::cQ id v r
def iY (id:Nat) (v:Value):Blk->Blk
 | .cells t sz cs=>.cells t sz (Yr id v cs)
 | b=>b
def QL (id:Nat) (v:Value):St->St
 | []=>[]
 | (i,some b)::r=>(i,some (iY id v b))::QL id v r
 | (i,none)::r=>(i,none)::QL id v r
theorem Jd (id:Nat) (v:Value):∀l:List D,Yr id v l=l.map (Ys id v)
 | []=>rfl
 | d::r=>by simp [Yr,Jd id v r]
section
variable {P:Program} {n:Nat} {F:List Nat} {Q:DQ} {tt:TT} {env env':Env} {st st':St} {ids ids':List Nat} {todo:List DI} {I J:Imm} {μ:Mu} {w:World} {a:Act} {d:D}
theorem RepD.owd {id:Nat} {u:Value} (hm:μ id=some u) (hu:u.oneCell'=true) {v:Value} (h:RepD I μ v d):RepD I μ v (Ys id u d):=by
 have at_:∀{l:List D} {i:Nat} {x:D},(Yr id u l)[i]?=some x->∃y,l[i]?=some y/\x=Ys id u y:=by
  intro l i x hx;rw [Jd,List.getElem?_map] at hx;cases hl:l[i]? with
  | none=>rw [hl] at hx;cases hx
  | some y=>rw [hl] at hx;cases hx;exact ⟨y,rfl,rfl⟩
 induction h with
 | own i len a cap h =>
  simp only [Ys];cases hb:Nat.beq i id with
  | false=>exact .own i len a cap h
  | true =>
   rw [Nat.eq_of_beq_eq_true hb,hm] at h;cases h;exact .raw _ hu
 | agg cs ds hl h1 _ ih =>
  refine .agg cs _ (by rw [Jd,List.length_map,hl]) h1 λi c x hc hx=>?_;obtain ⟨y,hy,rfl⟩:=at_ hx;exact ih i c y hc hy
 | tup cs ds hl _ ih =>
  refine .tup cs _ (by rw [Jd,List.length_map,hl]) λi c x hc hx=>?_;obtain ⟨y,hy,rfl⟩:=at_ hx;exact ih i c y hc hy
 | undef v=>exact .undef v
 | imm v x hx=>exact .imm v x hx
 | nils=>exact .nils
 | ref b id off hm=>exact .ref b id off hm
 | ip b o t cs off vs hcell hrep=>exact .ip b o t cs off vs hcell hrep
 | elp b i len cap k sz f hm=>exact .elp b i len cap k sz f hm
 | mapr i b hm=>exact .mapr i b hm
 | iter i b hm=>exact .iter i b hm
 | fn f first cap df dc hf hc h1 h2 _ _=>exact .fn f first cap df dc hf hc h1 h2
 | iface t v d h _=>exact .iface t v d h
 | guard c want v d h hu _=>exact .guard c want v d h hu
 | clip a len es hr=>exact .clip a len es hr
 | slc b i off len cap hm hl hx=>exact .slc b i off len cap hm hl hx
 | yld b i hm=>exact .yld b i hm
 | raw v h=>exact .raw v h
 | hv v i k us cs h hi h1=>exact .hv v i k us cs h hi h1
theorem ZK {id:Nat} {v:Value}:∀{env:Env} {t:Nat} {d:D},lk (cQ id v env) t=some d->∃d0,lk env t=some d0/\d=Ys id v d0
 | [],t,d,h=>by simp [cQ,lk] at h
 | (s,x)::r,t,d,h=>by
  simp only [cQ] at h;by_cases hs:s=t
  ·subst hs;rw [Aw] at h ⊢;cases h;exact ⟨x,rfl,rfl⟩
  ·rw [A6 _ _ hs] at h ⊢;exact ZK h
theorem NK {id:Nat} {v:Value} {i:Nat} {b:Blk}:∀{st:St},At (QL id v st) i b->∃b0,At st i b0/\b=iY id v b0
 | [],h=>by simp [QL,At,lk] at h
 | (k,some x)::r,h=>by
  simp only [QL] at h;rcases A7.1 h with ⟨h1,h2⟩ | ⟨h1,h2⟩
  ·exact ⟨x,by unfold At;rw [h1,Aw],h2⟩
  ·obtain ⟨b0,q1,q2⟩:=NK h2;exact ⟨b0,A7.2 (.inr ⟨h1,q1⟩),q2⟩
 | (k,none)::r,h=>by
  simp only [QL] at h;obtain ⟨h1,h2⟩:=BB.1 h;obtain ⟨b0,q1,q2⟩:=NK h2;exact ⟨b0,BB.2 ⟨h1,q1⟩,q2⟩
theorem NV {id i:Nat} {v:Value} {b:Blk}:∀{st:St},At st i b->At (QL id v st) i (iY id v b)
 | [],h=>by simp [At,lk] at h
 | (k,some x)::r,h=>by
  simp only [QL];rcases A7.1 h with ⟨h1,h2⟩ | ⟨h1,h2⟩
  ·exact A7.2 (.inl ⟨h1,by rw [h2]⟩)
  ·exact A7.2 (.inr ⟨h1,NV h2⟩)
 | (k,none)::r,h=>by
  simp only [QL];obtain ⟨h1,h2⟩:=BB.1 h;exact BB.2 ⟨h1,NV h2⟩
theorem LU (id j:Nat) {e:TypeId} {sz:Nat} {es:List (List V)} (hl:lk st id=some (some (.row e sz es)))
  (h:∀v,DGo P n F Q todo (cQ id v env) ((j,some (.hp (Vp e sz es v)))::(id,none)::QL id v st) ids'):DGo P n F Q todo env st (j::ids'):=by
 refine DS λI μ a w hc=>?_;obtain ⟨g,hg,xs,⟨_,hown⟩,hrep,hsz,hone,hp⟩:=hc.blk id _ hl;have hg1:g.oneCell'=true:=by
  rcases hown with ⟨rfl,_⟩ | ⟨b,cap,cur,rfl,_⟩ <;> rfl
 obtain ⟨bs,hP,hbs⟩:∃bs,(Vp e sz es g).P [] I w bs/\∀b∈bs,Dl g b:=by
  rcases hown with ⟨rfl,h0⟩ | ⟨b,cap,cur,rfl,_,h2,h3,h4,h5,h6⟩
  ·exact ⟨[],.inl ⟨rfl,List.eq_nil_of_length_eq_zero h0,rfl⟩,λb hb=>by cases hb⟩
  ·rw [<- h6] at hrep;exact ⟨[b],.inr ⟨b,cap,cur,rfl,rfl,h2,h3,h4,h5,hrep,hsz,hone,hp⟩,λb hb=>by rw [List.mem_singleton.1 hb];rfl⟩
 obtain ⟨p1,p2⟩:=hc.toStRep.retell (st1:=QL id g st) (λi b hlb=>by
  obtain ⟨b0,q1,rfl⟩:=NK hlb;refine ⟨b0,q1,λgb hb=>?_⟩;cases b0 with
  | cells t sz cs =>
   obtain ⟨hs,b,us,e1,e2,e3,e4⟩:=hb;exact ⟨by rw [Jd,List.length_map,hs],b,us,e1,e2,⟨by rw [Jd,List.length_map,e3.1],λi v y hv hy=>by
    rw [Jd,List.getElem?_map] at hy;cases hc':cs[i]? with
    | none=>rw [hc'] at hy;cases hy
    | some z=>rw [hc'] at hy;cases hy;exact (e3.2 i v z hv hc').owd hg hg1⟩,e4⟩
  | _=>exact hb)
 obtain ⟨q1,q2,q3⟩:=StRep.relay (R:=[id]) (new:=[(j,Nw [] bs,.hp (Vp e sz es g))]) (ids':=ids') p1
  (λp hp b hb=>by
   rw [List.mem_singleton.1 hp] at hb;exact ⟨id,_,_,by simp,NV hl,hg,hbs b (AX.1 hb)⟩)
  (λp hp q hq b _ _=>by rw [List.mem_singleton.1 hp,List.mem_singleton.1 hq]) (Imm.le_refl I) hc.imm (λb o h=>.inl h)
  (λ_ p hp=>by rw [List.mem_singleton.1 hp];exact ⟨[],bs,rfl,hP⟩)
 refine ⟨I,_,cQ id g env,_,ids',q2,λt d hd=>?_,p2.trans q3,.of_le q1,h g⟩;obtain ⟨d0,h0,rfl⟩:=ZK hd;exact ((hc.env t d0 h0).owd hg hg1).mono (Imm.le_refl I) q1
end
end Go.Hk
namespace Go.Hk
structure PA0 where
 dx:D
 dst:Option Nat
 todo:List DI
def pL (tt:TT) (n:Nat) (env:Env) (todo:List DI):Option PA0 :=
 match Bk todo ([],[]) with
 | some (_,o,todo')=>match o.guard,o.op with
  | none,.call { callee:=.builtin .append,args:=⟨[x,y]⟩,argTypes:=⟨[t,t']⟩ }=>match Nat.beq t t',lk tt t,D2 env x,D2 env y with
   | true,some { sh:=.sl e,.. },some (.clip es),some (.imm (.sl []))=>match lk tt e,BJ n o.dst with
    | some _,true=>some ⟨.clip es,o.dst,todo'⟩
    | _,_=>none
   | true,some { sh:=.sl e,.. },some (.imm (.sl es)),some (.imm (.sl []))=>match lk tt e,BJ n o.dst with
    | some _,true=>some ⟨.imm (.sl es),o.dst,todo'⟩
    | _,_=>none
   | _,_,_,_=>none
  | _,_=>none
 | none=>none
structure PEn where
 es:List (List V)
 eq:Bool
 dst:Option Nat
 todo:List DI
def rK (tt:TT) (n:Nat) (env:Env) (todo:List DI):Option PEn :=
 match Bk todo ([],[]) with
 | some (_,o,todo')=>match o.guard,o.op with
  | none,.binOp .eql t x y _=>match lk tt t,D2 env x,D2 env y,BJ n o.dst with
   | some { sh:=.sl _,.. },some (.imm (.sl es)),some .nils,true=>some ⟨es,true,o.dst,todo'⟩
   | _,_,_,_=>none
  | none,.binOp .neq t x y _=>match lk tt t,D2 env x,D2 env y,BJ n o.dst with
   | some { sh:=.sl _,.. },some (.imm (.sl es)),some .nils,true=>some ⟨es,false,o.dst,todo'⟩
   | _,_,_,_=>none
  | _,_=>none
 | none=>none
section
variable {P:Program} {n:Nat} {F:List Nat} {Q:DQ} {tt:TT} {env env':Env} {st st':St} {ids ids':List Nat} {k todo todo':List DI} {I J:Imm} {μ:Mu} {w:World} {a:Act} {d:D}
theorem VK {v:Value} {es:List (List V)} (h:RepV I v (.sl es)):∃ad len cap,v = .slice ad len cap/\len<=cap/\len=es.length:=by
 cases h with
 | slnil=>exact ⟨_,_,_,rfl,Nat.le_refl _,rfl⟩
 | sl0 ad=>exact ⟨_,_,_,rfl,Nat.le_refl _,rfl⟩
 | sl b o len cap sz _ vs hl hc=>exact ⟨_,_,_,rfl,hc,hl⟩
theorem eB (htt:TTok P tt) {c:PA0} (h:pL tt n env todo=some c) (hk:G P n F Q c.todo (BE c.dst c.dx env) st ids):G P n F Q todo env st ids:=by
 have key:∀{todo':List DI} {o:Oper} {all:List Oper} {x y:Operand} {t e:TypeId} {dx:D} {es:List (List V)} {ti:TyI},Bk todo ([],[])=some (all,o,todo')->o.guard=none->o.op = .call { callee:=.builtin .append,args:=⟨[x,y]⟩,argTypes:=⟨[t,t]⟩ } ->
   P.underlying t=some (.slice e)->lk tt e=some ti->D2 env x=some dx->D2 env y=some (.imm (.sl []))->(∀I μ v,RepD I μ v dx->RepV I v (.sl es))->BJ n o.dst=true->G P n F Q todo' (BE o.dst dx env) st ids->G P n F Q todo env st ids:=by
  intro todo' o all x y t e dx es ti h1 hg hop hu hi hx hy hd hdst hk;refine BC (fr:=[]) (wr:=[]) (rd:=[]) h1 ?_ hdst (λc hc=>by rw [hop] at hc;cases hc) hk;intro I μ st1 ids1 a w hag hst hon;refine ⟨λ_=>?_,λhw=>by rw [AF hg] at hw;cases hw⟩;have hops:=Bh hon;rw [hop] at hops;have rx:=hops x (by simp [Op.operands,Call.operands]) _ hx;have ry:=(hops y (by simp [Op.operands,Call.operands]) _ hy).immInv;obtain ⟨ad,len,cap,e1,e2,_⟩:=VK (hd _ _ _ rx);obtain ⟨ady,ly,capy,e3,e4,e5⟩:=VK ry;obtain ⟨inf,z,z1,z2,z3,z4,z5,z6⟩:=(htt e ti hi).info;simp only [List.length_nil] at e5;subst e5;have hr:(Builtin.append_ #[t,t] o.type #[a.eval x,a.eval y]).run P w = .ok (a.eval x) w:=by
   rw [e1,e3];cases ad <;> cases ady <;> simp [Builtin.append_,run_underlying hu,sizeOf,typeInfo,z1,Builtin.lenOf,e2,Builtin.firstCells,loadCells,loadCellsFrom,storeCells]
  have hrun:(execOp a.eval o).run P w = .ok (.value (a.eval x)) w:=by
   simp only [execOp,hop,resolve,invoke,builtin,Sem.run_bind,Sem.run_pure,Result.andThen_ok,List.map_toArray,List.map_cons,List.map_nil,hr]
  rw [hrun];exact ⟨I,μ,hst,rx,Mu.le_refl μ,Ext.refl _ _ _ _⟩
 unfold pL at h
 split at h
 ·rename_i all o todo' h1
  split at h
  ·rename_i x y t t' hg hop
   split at h
   ·rename_i e _ _ _ _ es htt' ht hx hy;have:=Nat.eq_of_beq_eq_true htt';subst this
    split at h
    ·rename_i ti hi hd;cases h;exact key h1 hg hop (htt.sh ht) hi hx hy (λI μ v h=>by cases h;assumption) hd hk
    ·cases h
   ·rename_i e _ _ _ _ es htt' ht hx hy;have:=Nat.eq_of_beq_eq_true htt';subst this
    split at h
    ·rename_i ti hi hd;cases h;exact key h1 hg hop (htt.sh ht) hi hx hy (λI μ v h=>h.immInv) hd hk
    ·cases h
   ·cases h
  ·cases h
 ·cases h
theorem kV {α:Type} {all rest:List Oper} {o:Oper} (f:α->D) (good:α->Prop) (hnd:∀c,o.op ≠ .defer c) (hg:o.guard=none) (hn:∀t,o.dst=some t->t<n)
  (hy:∀I μ a w,StRep I μ st ids w->D5 I μ env a o.op->∃x v,good x/\(execOp a.eval o).run P w = .ok (.value v) w/\RepD I μ v (f x))
  (h:∀x,good x->DGo P n F Q (.ops all rest::k) (BE o.dst (f x) env) st ids):DGo P n F Q (.ops all (o::rest)::k) env st ids:=by
 intro b cs I μ a w items hd hc;obtain ⟨j,is,rfl,hr,hk⟩:=JA hd;obtain ⟨hj,hr'⟩:=Ed hr;have hon:K7 (o.looksAt all.toArray) I μ env a:=λt _ d hl=>hc.env t d hl;obtain ⟨x,v,hx,hrun,hv⟩:=hy I μ a w hc.toStRep (Bh hon);obtain ⟨p1,p2,p3⟩:=HJ (n:=n) (w:=w) (dst:=o.dst) (λt d hl=>hc.env t d hl) hc.size hn hv;have:=h x hx b cs I μ (a.put o.dst v) w (.inRegion all.toArray (List.range' (j+1) rest.length)::is) ⟨⟨rfl,j+1,hr',rfl⟩,hk⟩
  {hc.toStRep with size:=p2,env:=by cases hdst:o.dst <;> simpa [BE,hdst] using p1,defers:=by rw [p3];exact hc.defers }
 rw [p3] at this;have hlen:(o::rest).length=rest.length+1:=rfl;rw [hlen,List.range'_succ];refine Gn hj (AF hg) hnd ?_;unfold O4;rw [hrun];exact this
theorem S8 (m:Nat) {t e:TypeId} (hs:P.underlying t=some (.slice e)) (ad:Option Addr) (len cap:Nat):(Op.equalIn (m+1) t (.slice ad len cap) (.slice none 0 0)).run P w = .ok ad.isNone w:=by
 cases ad <;> simp [Op.equalIn,run_underlying hs]
theorem Pi {t e:TypeId} (hs:P.underlying t=some (.slice e)) (ad:Option Addr) (len cap:Nat):(Op.equal t (.slice ad len cap) (.slice none 0 0)).run P w = .ok ad.isNone w:=S8 9999 hs ad len cap
theorem Gi {t e:TypeId} (hs:P.underlying t=some (.slice e)) (x y:Operand) (ad:Option Addr) (len cap:Nat) :
  (do eqGuard .eql t x y (.slice ad len cap) (.slice none 0 0);binOp .eql t (.slice ad len cap) (.slice none 0 0):Sem Value).run P w = .ok (.bool ad.isNone) w /\
  (do eqGuard .neq t x y (.slice ad len cap) (.slice none 0 0);binOp .neq t (.slice ad len cap) (.slice none 0 0):Sem Value).run P w = .ok (.bool (!ad.isNone)) w:=by
 constructor
 ·simp only [Sem.run_bind,Dk .eql t x y (.slice ad len cap) (.slice none 0 0) (by simp) (by simp),Result.andThen_ok,binOp,Pi hs,Sem.run_pure]
 ·simp only [Sem.run_bind,Dk .neq t x y (.slice ad len cap) (.slice none 0 0) (by simp) (by simp),Result.andThen_ok,binOp,Pi hs,Sem.run_pure]
theorem Ul (htt:TTok P tt) {all rest:List Oper} {o:Oper} {c:PEn} (h:rK tt n env (.ops all (o::rest)::k)=some c) (hk:∀b:Bool,(c.es≠[]->b = !c.eq)->DGo P n F Q c.todo (BE c.dst (.imm (.bool b)) env) st ids) :
  DGo P n F Q (.ops all (o::rest)::k) env st ids:=by
 unfold rK at h;simp only [Bk] at h;have hnone:∀{I:Imm} {v:Value} {es:List (List V)},RepV I v (.sl es)->∃ad len cap,v = .slice ad len cap/\(es≠[]->ad.isNone=false):=by
  intro I v es h;cases h with
  | slnil=>exact ⟨_,_,_,rfl,λh=>absurd rfl h⟩
  | sl0 ad=>exact ⟨_,_,_,rfl,λ_=>rfl⟩
  | sl b o len cap sz _ vs hl hc=>exact ⟨_,_,_,rfl,λ_=>rfl⟩
 split at h
 ·rename_i t x y t' hg hop
  split at h
  ·rename_i e _ _ _ _ es ht hx hy hd;cases h;have hn:∀t,o.dst=some t->t<n:=λt ht=>by
    unfold BJ at hd;rw [ht] at hd;simpa [Nat.blt_eq] using hd
   refine kV (λb=>.imm (.bool b)) (λb=>es≠[]->b=false) (λc hc=>by rw [hop] at hc;cases hc) hg hn (λI μ a w hst hops=>?_) λb hb=>hk b hb;rw [hop] at hops;obtain ⟨ad,len,cap,e1,e2⟩:=hnone (hops x (by simp [Op.operands]) _ hx).immInv;have e3:a.eval y = .slice none 0 0:=by
    have:=hops y (by simp [Op.operands]) _ hy;generalize a.eval y=v at this;cases this;rfl
   refine ⟨ad.isNone,.bool ad.isNone,e2,?_,.imm _ _ (.bool _)⟩;simp only [execOp,hop,e1,e3];exact A4 (Gi (htt.sh ht) x y ad len cap).1
  ·cases h
 ·rename_i t x y t' hg hop
  split at h
  ·rename_i e _ _ _ _ es ht hx hy hd;cases h;have hn:∀t,o.dst=some t->t<n:=λt ht=>by
    unfold BJ at hd;rw [ht] at hd;simpa [Nat.blt_eq] using hd
   refine kV (λb=>.imm (.bool b)) (λb=>es≠[]->b=true) (λc hc=>by rw [hop] at hc;cases hc) hg hn (λI μ a w hst hops=>?_) λb hb=>hk b hb;rw [hop] at hops;obtain ⟨ad,len,cap,e1,e2⟩:=hnone (hops x (by simp [Op.operands]) _ hx).immInv;have e3:a.eval y = .slice none 0 0:=by
    have:=hops y (by simp [Op.operands]) _ hy;generalize a.eval y=v at this;cases this;rfl
   refine ⟨!ad.isNone,.bool (!ad.isNone),λh=>by rw [e2 h];rfl,?_,.imm _ _ (.bool _)⟩;simp only [execOp,hop,e1,e3];exact A4 (Gi (htt.sh ht) x y ad len cap).2
  ·cases h
 ·cases h
end
end Go.Hk
namespace Go.Hk
section
variable {P:Program} {n:Nat} {F:List Nat} {Q:DQ} {tt:TT} {env env':Env} {st st':St} {ids ids':List Nat} {k todo todo':List DI} {I J:Imm} {μ:Mu} {w:World} {a:Act} {d:D}
theorem Ca {α:Type} (id:Nat) {A:Asn} (B:α->Asn) (hl:lk st id=some (some (.hp A))) (hA:∀vs I w bs,A.P vs I w bs->∃x,(B x).P vs I w bs)
  (h:∀x,DGo P n F Q todo env ((id,some (.hp (B x)))::st) ids):DGo P n F Q todo env st ids:=by
 refine DS λI μ a w hc=>?_;obtain ⟨g,hg,vs,bs,rfl,hP⟩:=hc.blk id _ hl;obtain ⟨x,hx⟩:=hA vs I w bs hP;have hlive:∀i b,At ((id,some (.hp (B x)))::st) i b->(i=id/\b = .hp (B x))\/(i≠id/\At st i b):=λi b hl=>by
  rcases A7.1 hl with ⟨rfl,rfl⟩ | h
  ·exact .inl ⟨rfl,rfl⟩
  ·exact .inr h
 have hold:∀i b,At ((id,some (.hp (B x)))::st) i b->∃b0,At st i b0:=λi b hl=>by
  rcases hlive i b hl with ⟨rfl,_⟩ | ⟨_,h⟩
  ·exact ⟨_,‹lk st i=_›⟩
  ·exact ⟨_,h⟩
 refine ⟨I,μ,env,_,ids,{ imm:=hc.imm,blk:=λi b hlb=>?_,apart:=λi b g k hlb hg' hk=>?_,inj:=λi j bi bj gi gj k hi hj=>?_,nodup:=hc.nodup,idsFree:=hc.idsFree },λt d hd=>hc.env t d hd,?_,Pin.refl _ _,h x⟩
 ·rcases hlive i b hlb with ⟨rfl,rfl⟩ | ⟨_,h⟩
  ·exact ⟨_,hg,vs,bs,rfl,hx⟩
  ·exact hc.blk i b h
 ·obtain ⟨b0,h0⟩:=hold i b hlb;exact hc.apart i b0 g k h0 hg' hk
 ·obtain ⟨b0,h0⟩:=hold i bi hi;obtain ⟨b1,h1⟩:=hold j bj hj;exact hc.inj i j b0 b1 gi gj k h0 h1
 ·exact { imm:=Imm.le_refl I,os:=rfl,tape:=rfl,output:=rfl,size:=Nat.le_refl _,block:=λ_ _ _=>rfl,old:=λ_ _ _=>rfl
          fresh:=λb _ ⟨i,bi,g,h1,h2⟩=>let ⟨b0,q⟩:=hold i bi h1;⟨i,b0,g,q,h2⟩ }
end
end Go.Hk
namespace Go.Hk
section
variable {P:Program} {n:Nat} {F:List Nat} {Q:DQ} {tt:TT} {env env':Env} {st st':St} {ids ids':List Nat} {k todo todo':List DI} {I J:Imm} {μ:Mu} {w:World} {a:Act} {d:D}
end
end Go.Hk
namespace Go.Hk
def Sn (b:Nat) (t:TypeId) (ds:List D):Asn where
 P:=λ_ I w bs=>bs=[b]/\∃vs,w.heap[b]?=some (.cells vs t (0,0))/\RepL I noMu vs.toList ds/\∀v∈vs.toList,v.oneCell'=true
 mono:=λh ⟨h1,vs,h2,h3,h4⟩=>⟨h1,vs,h2,h3.mono h (Mu.le_refl _),h4⟩
 loc:=λh ⟨h1,vs,h2,h3⟩=>⟨h1,vs,(h b (by simp [h1])).trans h2,h3⟩
mutual
def Yj (id b:Nat):D->D
 | .ref i off=>bif Nat.beq i id then .raw (.pointer (some ⟨b,off,none⟩)) else .ref i off
 | .agg cs=>.agg (Yi id b cs)
 | .tup cs=>.tup (Yi id b cs)
 | d=>d
def Yi (id b:Nat):List D->List D
 | []=>[]
 | d::r=>Yj id b d::Yi id b r
end
def cM (id b:Nat):Env->Env
 | []=>[]
 | (t,d)::r=>(t,Yj id b d)::cM id b r
def qD (id b:Nat):Blk->Blk
 | .cells t sz cs=>.cells t sz (Yi id b cs)
 | x=>x
def QB (id b:Nat):St->St
 | []=>[]
 | (i,some x)::r=>(i,some (qD id b x))::QB id b r
 | (i,none)::r=>(i,none)::QB id b r
theorem Ja (id b:Nat):∀l:List D,Yi id b l=l.map (Yj id b)
 | []=>rfl
 | d::r=>by simp [Yi,Ja id b r]
section
variable {P:Program} {n:Nat} {F:List Nat} {Q:DQ} {tt:TT} {env env':Env} {st st':St} {ids ids':List Nat} {todo:List DI} {I J:Imm} {μ:Mu} {w:World} {a:Act} {d:D}
theorem RepD.refd {id b:Nat} (hm:μ id=some (.pointer (some ⟨b,0,none⟩))) {v:Value} (h:RepD I μ v d):RepD I μ v (Yj id b d):=by
 have at_:∀{l:List D} {i:Nat} {x:D},(Yi id b l)[i]?=some x->∃y,l[i]?=some y/\x=Yj id b y:=by
  intro l i x hx;rw [Ja,List.getElem?_map] at hx;cases hl:l[i]? with
  | none=>rw [hl] at hx;cases hx
  | some y=>rw [hl] at hx;cases hx;exact ⟨y,rfl,rfl⟩
 induction h with
 | ref b' i off h =>
  simp only [Yj];cases hb:Nat.beq i id with
  | false=>exact .ref b' i off h
  | true =>
   rw [Nat.eq_of_beq_eq_true hb,hm] at h;cases h;exact .raw _ rfl
 | agg cs ds hl h1 _ ih =>
  refine .agg cs _ (by rw [Ja,List.length_map,hl]) h1 λi c x hc hx=>?_;obtain ⟨y,hy,rfl⟩:=at_ hx;exact ih i c y hc hy
 | tup cs ds hl _ ih =>
  refine .tup cs _ (by rw [Ja,List.length_map,hl]) λi c x hc hx=>?_;obtain ⟨y,hy,rfl⟩:=at_ hx;exact ih i c y hc hy
 | undef v=>exact .undef v
 | imm v x hx=>exact .imm v x hx
 | nils=>exact .nils
 | own i len a cap hm=>exact .own i len a cap hm
 | ip b o t cs off vs hcell hrep=>exact .ip b o t cs off vs hcell hrep
 | elp b i len cap k sz f hm=>exact .elp b i len cap k sz f hm
 | mapr i b hm=>exact .mapr i b hm
 | iter i b hm=>exact .iter i b hm
 | fn f first cap df dc hf hc h1 h2 _ _=>exact .fn f first cap df dc hf hc h1 h2
 | iface t v d h _=>exact .iface t v d h
 | guard c want v d h hu _=>exact .guard c want v d h hu
 | clip a len es hr=>exact .clip a len es hr
 | slc b i off len cap hm hl hx=>exact .slc b i off len cap hm hl hx
 | yld b i hm=>exact .yld b i hm
 | raw v h=>exact .raw v h
 | hv v i k us cs h hi h1=>exact .hv v i k us cs h hi h1
theorem Z9 {id b:Nat}:∀{env:Env} {t:Nat} {d:D},lk (cM id b env) t=some d->∃d0,lk env t=some d0/\d=Yj id b d0
 | [],t,d,h=>by simp [cM,lk] at h
 | (s,x)::r,t,d,h=>by
  simp only [cM] at h;by_cases hs:s=t
  ·subst hs;rw [Aw] at h ⊢;cases h;exact ⟨x,rfl,rfl⟩
  ·rw [A6 _ _ hs] at h ⊢;exact Z9 h
theorem NG {id b i:Nat} {x:Blk}:∀{st:St},At (QB id b st) i x->∃b0,At st i b0/\x=qD id b b0
 | [],h=>by simp [QB,At,lk] at h
 | (k,some y)::r,h=>by
  simp only [QB] at h;rcases A7.1 h with ⟨h1,h2⟩ | ⟨h1,h2⟩
  ·exact ⟨y,by unfold At;rw [h1,Aw],h2⟩
  ·obtain ⟨b0,q1,q2⟩:=NG h2;exact ⟨b0,A7.2 (.inr ⟨h1,q1⟩),q2⟩
 | (k,none)::r,h=>by
  simp only [QB] at h;obtain ⟨h1,h2⟩:=BB.1 h;obtain ⟨b0,q1,q2⟩:=NG h2;exact ⟨b0,BB.2 ⟨h1,q1⟩,q2⟩
theorem NU {id b i:Nat} {x:Blk}:∀{st:St},At st i x->At (QB id b st) i (qD id b x)
 | [],h=>by simp [At,lk] at h
 | (k,some y)::r,h=>by
  simp only [QB];rcases A7.1 h with ⟨h1,h2⟩ | ⟨h1,h2⟩
  ·exact A7.2 (.inl ⟨h1,by rw [h2]⟩)
  ·exact A7.2 (.inr ⟨h1,NU h2⟩)
 | (k,none)::r,h=>by
  simp only [QB];obtain ⟨h1,h2⟩:=BB.1 h;exact BB.2 ⟨h1,NU h2⟩
theorem GR (id j:Nat) {t:TypeId} {sz:Nat} {ds:List D} (hl:lk st id=some (some (.cells t sz ds))) (hnm:Jn ds=[])
  (h:∀b,DGo P n F Q todo (cM id b env) ((j,some (.hp (Sn b t ds)))::(id,none)::QB id b st) ids'):DGo P n F Q todo env st (j::ids'):=by
 refine DS λI μ a w hc=>?_;obtain ⟨g,hg,hs,b,us,rfl,hheap,hrep,hone⟩:=hc.blk id _ hl;obtain ⟨p1,p2⟩:=hc.toStRep.retell (st1:=QB id b st) (λi x hlb=>by
  obtain ⟨b0,q1,rfl⟩:=NG hlb;refine ⟨b0,q1,λgb hb=>?_⟩;cases b0 with
  | cells t sz cs =>
   obtain ⟨hs,b',us,e1,e2,e3,e4⟩:=hb;exact ⟨by rw [Ja,List.length_map,hs],b',us,e1,e2,⟨by rw [Ja,List.length_map,e3.1],λi v y hv hy=>by
    rw [Ja,List.getElem?_map] at hy;cases hc':cs[i]? with
    | none=>rw [hc'] at hy;cases hy
    | some z=>rw [hc'] at hy;cases hy;exact (e3.2 i v z hv hc').refd hg⟩,e4⟩
  | _=>exact hb)
 obtain ⟨q1,q2,q3⟩:=StRep.relay (R:=[id]) (new:=[(j,Nw [] [b],.hp (Sn b t ds))]) (ids':=ids') p1
  (λp hp b' hb=>by
   rw [List.mem_singleton.1 hp] at hb;have:=AX.1 hb;rw [List.mem_singleton.1 this];exact ⟨id,_,_,by simp,NU hl,hg,rfl⟩)
  (λp hp q hq b _ _=>by rw [List.mem_singleton.1 hp,List.mem_singleton.1 hq]) (Imm.le_refl I) hc.imm (λb o h=>.inl h)
  (λ_ p hp=>by rw [List.mem_singleton.1 hp];exact ⟨[],[b],rfl,rfl,us,hheap,hrep.sub (λj hj=>by rw [hnm] at hj;cases hj),hone⟩)
 refine ⟨I,_,cM id b env,_,ids',q2,λt d hd=>?_,p2.trans q3,.of_le q1,h b⟩;obtain ⟨d0,h0,rfl⟩:=Z9 hd;exact ((hc.env t d0 h0).refd hg).mono (Imm.le_refl I) q1
end
end Go.Hk
namespace Go.Hk
def F6:V->Bool
 | .bool _ | .int .. | .str _=>true
 | _=>false
def D7:List V->Bool
 | []=>true
 | x::r=>F6 x&&D7 r
def NE:List (List V)->Bool
 | []=>true
 | e::r=>D7 e&&NE r
def UC:List (V×V)->Bool
 | []=>true
 | (a,b)::r=>F6 a&&F6 b&&UC r
def Z2:D->Bool
 | .imm x=>F6 x
 | .tup []=>true
 | .own _ _=>true
 | .tup [.imm a,.imm b]=>F6 a&&F6 b
 | _=>false
def gV:Blk->Prop
 | .map kv=>UC kv=true
 | .row _ _ es=>NE es=true
 | .immb _ _ xs=>D7 xs=true
 | _=>False
def VP:St->Prop
 | []=>True
 | (_,some b)::r=>gV b/\VP r
 | (_,none)::r=>VP r
section
variable {P:Program} {I J:Imm} {μ ν:Mu} {st:St} {w:World}
theorem Eg {v:Value} {x:V} (h:F6 x=true) (hr:RepV J v x):RepV I v x:=by
 cases hr <;> first | (simp [F6] at h;done) | constructor <;> assumption
theorem Q3:∀{xs:List V} {vs:List Value},D7 xs=true->RepVL J vs xs->RepVL I vs xs:=by
 intro xs vs h hr;refine ⟨hr.1,λi v x h1 h2=>?_⟩;have:∀{xs:List V} {i:Nat} {x:V},D7 xs=true->xs[i]?=some x->F6 x=true:=by
  intro xs
  induction xs with
  | nil=>intro i x _ h;simp at h
  | cons y r ih =>
   intro i x hs h;simp only [D7,Bool.and_eq_true] at hs;cases i with
   | zero=>simp at h;subst h;exact hs.1
   | succ i=>exact ih hs.2 (by simpa using h)
 exact Eg (this h h2) (hr.2 i v x h1 h2)
theorem OG:∀{es:List (List V)},NE es=true->D7 es.flatten=true
 | [],_=>rfl
 | e::r,h=>by
  simp only [NE,Bool.and_eq_true] at h;have:∀{a b:List V},D7 a=true->D7 b=true->D7 (a++b)=true:=by
   intro a
   induction a with
   | nil=>intro b _ h;exact h
   | cons x r ih =>
    intro b h1 h2;simp only [D7,Bool.and_eq_true,List.cons_append] at h1 ⊢;exact ⟨h1.1,ih h1.2 h2⟩
  exact this h.1 (OG h.2)
theorem LE:∀{kv:List (V×V)} {i:Nat} {p:V×V},UC kv=true->kv[i]?=some p->F6 p.1=true/\F6 p.2=true
 | [],i,p,_,h=>by simp at h
 | (a,b)::r,i,p,hs,h=>by
  simp only [UC,Bool.and_eq_true] at hs;cases i with
  | zero=>simp at h;subst h;exact hs.1
  | succ i=>exact LE hs.2 (by simpa using h)
theorem Tj {g:Value} {b:Blk} (h:gV b) (hr:BlkRep J μ w g b):BlkRep I ν w g b:=by
 cases b with
 | map kv =>
  obtain ⟨b,es,clock,h1,h2,h3,h4,h5⟩:=hr;exact ⟨b,es,clock,h1,h2,h3,h4,λi e p a b=>⟨Eg (LE h b).1 (h5 i e p a b).1,Eg (LE h b).2 (h5 i e p a b).2⟩⟩
 | row t sz es =>
  obtain ⟨xs,h1,h2,h3⟩:=hr;exact ⟨xs,h1,Q3 (OG h) h2,h3⟩
 | immb t sz xs =>
  obtain ⟨hs,b,vs,h1,h2,h3,h4⟩:=hr;exact ⟨hs,b,vs,h1,h2,Q3 h h3,h4⟩
 | _=>exact h.elim
theorem IZ:∀{st:St} {i:Nat} {b:Blk},VP st->At st i b->gV b
 | [],i,b,_,h=>by simp [At,lk] at h
 | (k,some y)::r,i,b,hs,h=>by
  rcases A7.1 h with ⟨_,rfl⟩ | ⟨_,h⟩
  ·exact hs.1
  ·exact IZ hs.2 h
 | (k,none)::r,i,b,hs,h=>IZ (st:=r) hs (BB.1 h).2
theorem Ti {v:Value} {d:D} (h:Z2 d=true) (hr:RepD J μ v d) (hn:∀i∈I5 d,∀g,μ i=some g->ν i=some g):RepD I ν v d:=by
 unfold Z2 at h
 split at h
 ·exact .imm _ _ (Eg h hr.immInv)
 ·cases hr with
  | tup cs _ hl _=>exact .tup cs [] hl λi c x _ hx=>by simp at hx
 ·cases hr with
  | own _ _ a cap hm=>exact .own _ _ a cap (hn _ (by simp [I5]) _ hm)
 ·rename_i a b;rw [Bool.and_eq_true] at h;cases hr with
  | tup cs _ hl hh =>
   refine .tup cs _ hl λi c x hc hx=>?_
   match i with
   | 0=>simp at hx;subst hx;exact .imm _ _ (Eg h.1 (hh 0 c _ hc rfl).immInv)
   | 1=>simp at hx;subst hx;exact .imm _ _ (Eg h.2 (hh 1 c _ hc rfl).immInv)
   | i+2=>simp at hx
 ·cases h
theorem Pj {f:FuncId} {das das':List D} {st0 st1:St} {d:D} (k:Nat) (A:Asn) (hE:Bg P f das st0 (.ret d st1)) (hd:Z2 d=true) (hs:VP st1) (hk0:k∉D8 st0) (hk1:k∉D8 st1) (hkd:k∉I5 d)
  (hview:∀vs I J μ w bs,A.P vs I w bs->I.le J->(∀b∈bs,J b=w.heap[b]?)->∀xs:List Value,RepL J μ xs das'->RepL J μ xs das):Bg P f das' ((k,some (.hp A))::st0) (.ret d ((k,some (.hp A))::st1)):=by
 intro I μ w xs hst hx;obtain ⟨g,hg,vs,bs,rfl,hP⟩:=hst.blk k _ (A7.2 (.inl ⟨rfl,rfl⟩));have hkl:At ((k,some (.hp A))::st0) k (.hp A):=A7.2 (.inl ⟨rfl,rfl⟩);have hbs:∀b∈bs,I b=none/\b<w.heap.size:=λb hb=>hst.apart k _ _ b hkl hg (AX.2 hb);have hle:I.le (I.plus bs w):=λb o h=>by
  have:Fo bs b=false:=by
   cases hm:Fo bs b with
   | false=>rfl
   | true=>rw [(hbs b (BT.1 hm)).1] at h;cases h
  simp [Imm.plus,this,h]
 have hJb:∀b∈bs,I.plus bs w b=w.heap[b]?:=λb hb=>by simp [Imm.plus,BT.2 hb]
 have up:∀{i b},At st0 i b->At ((k,some (.hp A))::st0) i b:=λ{i b} hl=>A7.2 (.inr ⟨λe=>hk0 (e ▸ BR hl),hl⟩);have hno:∀b∈bs,¬Bq μ st0 b:=λb hb ⟨i,blk,g,h1,h2,h3⟩=>hk0 (by
  have:=hst.inj k i _ _ _ _ b hkl (up h1) hg h2 (AX.2 hb) h3;rw [this];exact BR h1)
 have hst0:StRep (I.plus bs w) μ st0 [] w :=
  {imm:=λb o h=>by
    unfold Imm.plus at h
    split at h
    ·exact h
    ·exact hst.imm b o h
   blk:=λi b hl=>by
    obtain ⟨g,h1,h2⟩:=hst.blk i b (up hl);exact ⟨g,h1,h2.mono hle (Mu.le_refl μ)⟩
   apart:=λi b g bb hl hg' hb=>by
    obtain ⟨h1,h2⟩:=hst.apart i b g bb (up hl) hg' hb;refine ⟨?_,h2⟩;unfold Imm.plus
    split
    ·rename_i hm;exact absurd ⟨i,b,g,hl,hg',hb⟩ (hno bb (BT.1 hm))
    ·exact h1
   inj:=λi j bi bj gi gj b hi hj=>hst.inj i j bi bj gi gj b (up hi) (up hj)
   nodup:=.nil
   idsFree:=λi hi=>by cases hi }
 refine (hE (I.plus bs w) μ w xs hst0 (hview vs I _ μ w bs hP hle hJb _ (hx.mono hle (Mu.le_refl μ)))).mono (λu w' hu=>?_) (λ_ _ h=>h);obtain ⟨I',μ',r1,r2,r3,r4⟩:=hu;obtain ⟨ν,hν⟩:∃ν:Mu,ν=λi=>if i=k then some (Nw vs bs) else μ' i:=⟨_,rfl⟩
 have hνk:ν k=some (Nw vs bs):=by rw [hν];simp
 have hνo:∀i,i≠k->ν i=μ' i:=λi hi=>by rw [hν];simp [hi]
 have hlive:∀{i b},At ((k,some (.hp A))::st1) i b->(i=k/\b = .hp A)\/(i≠k/\At st1 i b):=λ{i b} hl=>by
  rcases A7.1 hl with ⟨rfl,rfl⟩ | h
  ·exact .inl ⟨rfl,rfl⟩
  ·exact .inr h
 have hheap:∀b∈bs,w'.heap[b]?=w.heap[b]?:=λb hb=>r4.block b (hbs b hb).2 (hno b hb);have hno1:∀b∈bs,∀i blk g,At st1 i blk->μ' i=some g->¬Dl g b:=λb hb i blk g h1 h2 h3=>hno b hb (r4.fresh b (hbs b hb).2 ⟨i,blk,g,h1,h2,h3⟩);refine ⟨I,ν,Ti hd r1 (λi hi g hg'=>by rw [hνo i (λe=>hkd (e ▸ hi))];exact hg'),?_,?_,?_⟩
 ·refine { imm:=λb o h=>r2.imm b o (r4.imm b o (hle b o h)),blk:=λi b hl=>?_,apart:=λi b g bb hl hg' hb=>?_,inj:=λi j bi bj gi gj b hi hj hgi hgj hbi hbj=>?_,nodup:=.nil,idsFree:=λi hi=>by cases hi }
  ·rcases hlive hl with ⟨rfl,rfl⟩ | ⟨hne,h⟩
   ·exact ⟨_,hνk,vs,bs,rfl,A.loc hheap hP⟩
   ·obtain ⟨g,q1,q2⟩:=r2.blk i b h;exact ⟨g,by rw [hνo i hne];exact q1,Tj (IZ hs h) q2⟩
  ·rcases hlive hl with ⟨rfl,rfl⟩ | ⟨hne,h⟩
   ·rw [hνk] at hg';cases hg';have:=hbs bb (AX.1 hb);exact ⟨this.1,Nat.lt_of_lt_of_le this.2 r4.size⟩
   ·rw [hνo i hne] at hg';obtain ⟨q1,q2⟩:=r2.apart i b g bb h hg' hb;refine ⟨?_,q2⟩;cases hI:I bb with
    | none=>rfl
    | some o=>rw [r4.imm bb o (hle bb o hI)] at q1;cases q1
  ·rcases hlive hi with ⟨rfl,rfl⟩ | ⟨hni,h1⟩
   ·rw [hνk] at hgi;cases hgi;rcases hlive hj with ⟨rfl,rfl⟩ | ⟨hnj,h2⟩
    ·rfl
    ·rw [hνo j hnj] at hgj;exact absurd hbj (hno1 b (AX.1 hbi) j bj gj h2 hgj)
   ·rw [hνo i hni] at hgi;rcases hlive hj with ⟨rfl,rfl⟩ | ⟨hnj,h2⟩
    ·rw [hνk] at hgj;cases hgj;exact absurd hbi (hno1 b (AX.1 hbj) i bi gi h1 hgi)
    ·rw [hνo j hnj] at hgj;exact r2.inj i j bi bj gi gj b h1 h2 hgi hgj hbi hbj
 ·intro i hi v hv;by_cases e:i=k
  ·subst e;rw [hg] at hv;cases hv;exact hνk
  ·rw [hνo i e];refine r3 i ?_ v hv;simp only [D8,List.map_cons,List.mem_cons] at hi;exact hi.resolve_left e
 ·refine { imm:=Imm.le_refl I,os:=r4.os,tape:=r4.tape,output:=r4.output,size:=r4.size,block:=λb hb ho=>r4.block b hb λh=>ho ?_,fresh:=λb hb ⟨i,blk,g,h1,h2,h3⟩=>?_,old:=λ_ _ _=>rfl }
  ·obtain ⟨i,blk,g,h1,h2,h3⟩:=h;exact ⟨i,blk,g,up h1,h2,h3⟩
  ·rcases hlive h1 with ⟨rfl,rfl⟩ | ⟨hne,h⟩
   ·rw [hνk] at h2;cases h2;exact ⟨_,_,_,hkl,hg,h3⟩
   ·rw [hνo i hne] at h2;obtain ⟨j,bj,gj,q1,q2,q3⟩:=r4.fresh b hb ⟨i,blk,g,h,h2,h3⟩;exact ⟨j,bj,gj,up q1,q2,q3⟩
end
end Go.Hk
namespace Go.Hk
section
variable {P:Program} {n:Nat} {F:List Nat} {Q:DQ} {todo:List DI} {env:Env} {st:St} {ids':List Nat}
theorem D4 (t j:Nat) {e:TypeId} {sz:Nat} (hsz:0<sz) (ht:lk env t=some .nils) (h:DGo P n F Q todo ((t,.own j 0)::env) ((j,some (.row e sz []))::st) ids'):DGo P n F Q todo env st (j::ids'):=by
 refine DS λI μ a w hc=>?_;have hv:a.tmps.getD t undef = .slice none 0 0:=by
  have:=hc.env t _ ht;generalize a.tmps.getD t undef=v at this;cases this with
  | nils=>rfl
 obtain ⟨q1,q2,q3⟩:=StRep.relay (R:=[]) (new:=[(j,.slice none 0 0,.row e sz [])]) (ids':=ids') hc.toStRep
  (λp hp b hb=>by rw [List.mem_singleton.1 hp] at hb;exact hb.elim)
  (λp hp q hq b _ _=>by rw [List.mem_singleton.1 hp,List.mem_singleton.1 hq]) (Imm.le_refl I) hc.imm (λb o h=>.inl h)
  (λ_ p hp=>by
   rw [List.mem_singleton.1 hp];exact ⟨[],World.ownsRow_nil w _ e sz,⟨rfl,λi v x h _=>by simp at h⟩,λ_ h=>by simp at h,λ_ h=>by simp at h,hsz⟩)
 refine ⟨I,_,_,_,ids',q2,λt' d hd=>?_,q3,.of_le q1,h⟩;by_cases e:t=t'
 ·subst e;rw [Aw] at hd;cases hd;rw [hv];exact .own j 0 none 0 (by simp [Fj,lk])
 ·rw [A6 _ _ e] at hd;exact (hc.env t' d hd).mono (Imm.le_refl I) q1
end
end Go.Hk
namespace Go.Hk
open Go.Proofs
def fT:Ty:=.mk 3 0 [] []
def HT:Fd:=⟨[102],[120],fT,fT,.mk 3 0 [] [] []⟩
def Cp (ds:List Dt):List Str:=ds.flatMap λd=>d.cons.map Cd.name
def CJ (ds:List Dt):List Str:=ds.map Dt.name
def Cw (ds l:List Dt):Bool:=l.all λd=>d.cons.all λc=>Bw ds c.args
def H0 (ds:List Dt):Bool:=E7 ⟨[109],ds,[HT]⟩&&(Cw ds ds&&(B1 (CJ ds)&&B1 (Cp ds)))
theorem CM (ds:List Dt):∀l:List Ty,Bw ds l=l.all (AK ds)
 | []=>rfl
 | t::r=>by simp [Bw,CM ds r]
theorem E2 {α:Type} {l:List α} {q:α->Bool} {i:Nat} {t:α} (h:l[i]?=some t):(l.drop i).all q=(q t&&(l.drop (i+1)).all q):=by rw [Av h];rfl
theorem Kg {ds:List Dt} (h:E7 ⟨[109],ds,[HT]⟩=true):ds.length<=4/\∀d∈ds,d.cons.length<=5/\∀c∈d.cons,c.args.length<=3:=by
 simp only [E7,Bool.and_eq_true,List.all_eq_true,decide_eq_true_eq] at h;refine ⟨by omega,λd hd=>?_⟩;have hd:=h.1.2 d hd;simp only [IO,Bool.and_eq_true,List.all_eq_true,F4,decide_eq_true_eq] at hd;refine ⟨by omega,λc hc=>?_⟩;have hc:=hd.2 c hc;simp only [Oj,Bool.and_eq_true,decide_eq_true_eq] at hc;omega
theorem RL {ds:List Dt} {i:Nat} {d:Dt} (h:ds[i]?=some d):Cp (ds.take (i+1))=Cp (ds.take i)++d.cons.map Cd.name:=by
 rw [Bn h];simp [Cp]
theorem Uq {ds:List Dt} (h:∀d∈ds,d.cons.length<=5):(Cp ds).length<=5*ds.length:=by
 induction ds with
 | nil=>simp [Cp]
 | cons d r ih =>
  have h1:=h d (by simp);have h2:=ih λx hx=>h x (by simp [hx]);simp only [Cp,List.flatMap_cons,List.length_append,List.length_map,List.length_cons] at h2 ⊢;omega
theorem mA (ds:List Dt):Ak Tryz.prog 43 [.sl (ds.map CU)] (.bool (H0 ds)):=by
 refine Af DM Tryz.func43 (by decide +kernel) rfl [1,2,3,4,5,6,7,8] rfl rfl ?_;refine Em rfl ?_;refine Ad rfl (λ_=>eY ⟨[109],ds,[HT]⟩) (by simp) ?_;refine Em rfl ?_;refine Ab rfl (λh=>?_) (λh=>?_)
 ·refine C0 rfl ?_;refine Aa rfl rfl (congrArg _ ?_);simp at h;simp [H0,h]
 have hm:E7 ⟨[109],ds,[HT]⟩=true:=by simpa using h
 clear h;obtain ⟨hl1,hl2⟩:=Kg hm;refine C0 rfl ?_;refine D4 (e:=9) (sz:=1) 5 3 (by decide) rfl ?_;refine D4 (e:=9) (sz:=1) 6 4 (by decide) rfl ?_;rw [show H0 ds=(Cw ds ds&&(B1 (CJ ds)&&B1 (Cp ds))) by simp [H0,hm]];refine Am (λi:Nat=>[(7,.imm (.int .i64 i)),(0,.imm (.sl (ds.map CU))),(5,.own 3 (DV (CJ (ds.take i))).length),(6,.own 4 (DV (Cp (ds.take i))).length)])
  (λi=>[(3,some (.row 9 1 (DV (CJ (ds.take i))))),(4,some (.row 9 1 (DV (Cp (ds.take i)))))]) [5,6,7] (λi=>ds.length-i)
  (λi=>i<=ds.length/\Cw ds ds=Cw ds (ds.drop i)) 0 ⟨Nat.zero_le _,rfl⟩ ⟨rfl,rfl,rfl,rfl,trivial⟩ ⟨rfl,rfl,trivial⟩ rfl λi hi ih=>?_
 obtain ⟨hi1,hi2⟩:=hi;refine C0 rfl ?_;refine Ab rfl (λh=>?_) (λh=>?_)
 ·simp at h;obtain ⟨d,hd⟩:=Ap h;have hdm:=hl2 d (List.mem_of_getElem? hd);have hcl:=Uq (ds:=ds.take i) λx hx=>(hl2 x (List.mem_of_mem_take hx)).1;rw [List.length_take] at hcl;have et:CJ (ds.take (i+1))=CJ (ds.take i)++[d.name]:=by rw [Bn hd];simp [CJ]
  have ec:=RL hd;rw [show Cw ds (ds.drop i)=(d.cons.all (λc=>Bw ds c.args)&&Cw ds (ds.drop (i+1))) from E2 hd] at hi2;refine C0 rfl ?_;refine ci rfl (c:=CU d) (λ_=>⟨by simp,by simpa using B2 hd,by simp⟩) (by simp) ?_;obtain ⟨dn,dc⟩:=d;refine Em rfl ?_;refine Cm DM rfl ⟨by simp,by simp [maxLen,CJ];omega,by simp [CJ];omega,trivial⟩ ?_;refine Em rfl ?_;refine AG 3 5 rfl ?_;simp only at hdm ec et hi2 ⊢;refine Am (λk:Nat=>[(8,.imm (.int .i64 k)),(7,.imm (.int .i64 i)),(0,.imm (.sl (ds.map CU))),(5,.own 3 (DV (CJ (ds.take (i+1)))).length),(6,.own 4 (DV (Cp (ds.take i)++(dc.take k).map Cd.name)).length)])
   (λk=>[(3,some (.row 9 1 (DV (CJ (ds.take (i+1)))))),(4,some (.row 9 1 (DV (Cp (ds.take i)++(dc.take k).map Cd.name))))]) [5,6,7] (λk=>dc.length-k)
   (λk=>k<=dc.length/\dc.all (λc=>Bw ds c.args)=(dc.drop k).all (λc=>Bw ds c.args)) 0 ⟨Nat.zero_le _,rfl⟩ ⟨rfl,rfl,rfl,by rw [et,EX];rfl,by rw [List.take_zero,List.map_nil,List.append_nil];rfl,trivial⟩ ⟨by rw [et,EX];rfl,by rw [List.take_zero,List.map_nil,List.append_nil];rfl,trivial⟩ rfl λk hk jh=>?_
  obtain ⟨hk1,hk2⟩:=hk;refine C0 rfl ?_;refine ci rfl (c:=CU ⟨dn,dc⟩) (λ_=>⟨by simp,by simpa using B2 hd,by simp⟩) (by simp) ?_;refine Em rfl ?_;refine Ab rfl (λh=>?_) (λh=>?_)
  ·simp at h;obtain ⟨c,hc⟩:=Ap h;have hcm:=hdm.2 c (List.mem_of_getElem? hc);have ek:(dc.take (k+1)).map Cd.name=(dc.take k).map Cd.name++[c.name]:=by rw [Bn hc];simp
   rw [E2 hc] at hk2;refine C0 rfl ?_;refine ci rfl (c:=CU ⟨dn,dc⟩) (λ_=>⟨by simp,by simpa using B2 hd,by simp⟩) (by simp) ?_;refine Em rfl ?_;refine ci rfl (c:=DN c) (λ_=>⟨by simp,by simpa using B2 hc,by simp⟩) (by simp) ?_;obtain ⟨cn,ca⟩:=c;refine Em rfl ?_;refine Cm DM rfl ⟨by simp,by simp [maxLen];omega,by simp;omega,trivial⟩ ?_;refine Em rfl ?_;refine AG 4 5 rfl ?_;simp only at hcm ek hk2 ⊢;refine Am (λn:Nat=>[(9,.imm (.int .i64 n)),(8,.imm (.int .i64 k)),(7,.imm (.int .i64 i)),(0,.imm (.sl (ds.map CU))),(5,.own 3 (DV (CJ (ds.take (i+1)))).length),(6,.own 4 (DV (Cp (ds.take i)++(dc.take (k+1)).map Cd.name)).length)])
    (λn=>[(3,some (.row 9 1 (DV (CJ (ds.take (i+1)))))),(4,some (.row 9 1 (DV (Cp (ds.take i)++(dc.take (k+1)).map Cd.name))))]) [5,6,7] (λn=>ca.length-n)
    (λn=>n<=ca.length/\Bw ds ca=Bw ds (ca.drop n)) 0 ⟨Nat.zero_le _,rfl⟩ ⟨rfl,rfl,rfl,rfl,rfl,by rw [ek,<- List.append_assoc,EX _ [cn]];rfl,trivial⟩ ⟨rfl,by rw [ek,<- List.append_assoc,EX _ [cn]];rfl,trivial⟩ rfl λn hn kh=>?_
   obtain ⟨hn1,hn2⟩:=hn;refine C0 rfl ?_;refine ci rfl (c:=CU ⟨dn,dc⟩) (λ_=>⟨by simp,by simpa using B2 hd,by simp⟩) (by simp) ?_;refine Em rfl ?_;refine ci rfl (c:=DN ⟨cn,ca⟩) (λ_=>⟨by simp,by simpa using B2 hc,by simp⟩) (by simp) ?_;refine Em rfl ?_;refine Ab rfl (λh=>?_) (λh=>?_)
   ·simp at h;obtain ⟨t,ht⟩:=Ap h;rw [Av ht] at hn2;refine C0 rfl ?_;refine ci rfl (c:=CU ⟨dn,dc⟩) (λ_=>⟨by simp,by simpa using B2 hd,by simp⟩) (by simp) ?_;refine Em rfl ?_;refine ci rfl (c:=DN ⟨cn,ca⟩) (λ_=>⟨by simp,by simpa using B2 hc,by simp⟩) (by simp) ?_;refine Em rfl ?_;refine ci rfl (c:=dTyc t) (λ_=>⟨by simp,by simpa using A5 ht,by simp⟩) (by simp) ?_;refine Em rfl ?_;refine Ad rfl (λ_=>NP ds t) (by simp) ?_;refine Em rfl ?_;refine Ab rfl (λh=>?_) (λh=>?_)
    ·refine C0 rfl ?_;refine Aa rfl rfl (congrArg _ ?_);simp at h;simp only [Bw,h,Bool.false_and] at hn2;simp only [hn2,Bool.false_and] at hk2;rw [hi2,hk2];simp
    ·refine C0 rfl ?_;simp at h;exact Ae (kh (n+1) (by omega) ⟨by omega,by rw [hn2];simp [Bw,h]⟩) ⟨A3 (BI (by omega) (by omega)),rfl,rfl,rfl,rfl,rfl,trivial⟩ ⟨rfl,rfl,trivial⟩ rfl
   ·simp at h;refine Ay rfl ?_;refine C0 rfl ?_;rw [List.drop_eq_nil_of_le (by omega)] at hn2;exact Ae (jh (k+1) (by omega) ⟨by omega,by rw [hk2];simp [hn2,Bw]⟩) ⟨A3 (BI (by omega) (by omega)),rfl,rfl,rfl,rfl,trivial⟩ ⟨rfl,rfl,trivial⟩ rfl
  ·simp at h;refine Ay rfl ?_;refine C0 rfl ?_;rw [List.drop_eq_nil_of_le (by omega)] at hk2;have hk3:dc.take k=dc:=List.take_of_length_le h;refine Ae (ih (i+1) (by omega) ⟨by omega,by rw [hi2,hk2];simp⟩) ⟨A3 (BI (by omega) (by omega)),rfl,rfl,by rw [ec,hk3];rfl,trivial⟩ ⟨rfl,by rw [ec,hk3];rfl,trivial⟩ rfl
 ·simp at h;have hle:ds.length<=i:=by omega
  refine Ay rfl ?_;rw [List.take_of_length_le hle,List.drop_eq_nil_of_le hle] at *;rw [hi2,show Cw ds []=true from rfl,Bool.true_and];refine Cu 3 rfl ?_;refine Cu 4 rfl ?_;refine C0 rfl ?_;refine Ad rfl (λ_=>Ow (CJ ds)) (by simp) ?_;refine Em rfl ?_;refine Ad rfl (λ_=>Ow (Cp ds)) (by simp [An]) ?_;refine Em rfl ?_;refine Aa rfl rfl (congrArg _ ?_);simp
structure OkD (ds:List Dt):Prop where
 named:Cw ds ds=true
 len:∀d∈ds,d.cons.length<=1000000
theorem OkD.of {ds:List Dt} (h:H0 ds=true):OkD ds:=by
 simp only [H0,Bool.and_eq_true] at h;exact ⟨h.2.1,λd hd=>by have:=((Kg h.1).2 d hd).1;omega⟩
theorem Jc (s:Str):∀(l:List Dt) (i:Nat),0<=Bf s i l->∃k d,Bf s i l=((i+k:Nat):Int)/\l[k]?=some d/\d.name=s
 | [],i,h=>by simp [Bf] at h
 | d::r,i,h=>by
  simp only [Bf] at h ⊢;by_cases e:d.name=s
  ·rw [if_pos e];exact ⟨0,d,by simp,by simp,e⟩
  ·rw [if_neg e] at h ⊢;obtain ⟨k,d',h1,h2,h3⟩:=Jc s r (i+1) h;exact ⟨k+1,d',by rw [h1];omega,by simpa using h2,h3⟩
theorem CN {ds:List Dt} {t:Ty} (h:AK ds t=true):∀so n x ps,t = .mk so n x ps->so=8->0<=Bf x 0 ds/\∃d,ds[(Bf x 0 ds).toNat]?=some d:=by
 rintro so n x ps rfl rfl;simp [AK] at h;obtain ⟨k,d,h1,h2,_⟩:=Jc x ds 0 h.1;exact ⟨h.1,d,by rw [h1];simpa using h2⟩
theorem IQ {s:Str}:∀{l:List Cd} {i:Nat},0<=(Dn s i l).2->(Dn s i l).1∈l/\(Dn s i l).1.name=s
 | [],i,h=>by simp [Dn] at h
 | c::r,i,h=>by
  simp only [Dn] at h ⊢;by_cases e:c.name=s
  ·rw [if_pos e];exact ⟨by simp,e⟩
  ·rw [if_neg e] at h ⊢;have:=IQ (l:=r) h;exact ⟨List.mem_cons_of_mem _ this.1,this.2⟩
theorem RP {ds:List Dt} {t:Ty} {s:Str} (h:0<=(BO ds t s).2):∃d∈ds,(BO ds t s).1∈d.cons:=by
 obtain ⟨so,n,x,ps⟩:=t;simp only [BO] at h ⊢;by_cases e:so=8
 ·rw [if_pos e] at h ⊢;cases hd:ds[(Bf x 0 ds).toNat]? with
  | none=>simp [hd] at h
  | some d =>
   simp only [hd] at h ⊢;exact ⟨d,List.mem_of_getElem? hd,(IQ h).1⟩
 ·rw [if_neg e] at h;simp at h
theorem H4 {ds:List Dt} (ho:OkD ds) {t:Ty} {s:Str} (h:0<=(BO ds t s).2):Bw ds (BO ds t s).1.args=true:=by
 obtain ⟨d,h1,h2⟩:=RP h;have:=ho.named;simp only [Cw,List.all_eq_true] at this;exact this d h1 _ h2
theorem D3 {ds:List Dt} {l:List Ty} (h:Bw ds l=true) {i:Nat} {t:Ty} (ht:l[i]?=some t):AK ds t=true:=by
 rw [CM,List.all_eq_true] at h;exact h t (List.mem_of_getElem? ht)
mutual
def Cs (ds:List Dt):Ty->Ty->Bool
 | .mk so _ x0 _,.mk f _ x ps=>if f=3 then so == 1 else if f=4 then so == 2 else if f=5 then so == 3 else if f=6 then decide (0<=(BO ds (.mk so 0 x0 []) x).2)&&(decide ((BO ds (.mk so 0 x0 []) x).1.args.length=ps.length)&&Cr ds (BO ds (.mk so 0 x0 []) x).1.args ps) else true
def Cr (ds:List Dt):List Ty->List Ty->Bool
 | _,[]=>true
 | [],_::_=>true
 | a::r,p::q=>Cs ds a p&&Cr ds r q
end
theorem Id (ds:List Dt) (so n m:Int) (x s:Str) (ps qs:List Ty):BO ds (.mk so n x ps) s=BO ds (.mk so m x qs) s:=rfl
theorem Wi (ct:Ty) (rows:List Ty) (ds:List Dt) (ho:OkD ds):∀(p t:Ty),AK ds t=true->Ak Tryz.prog 47 [.agg (dCse ⟨ds,ct,rows⟩),.agg (dTyc t),.agg (dTyc p)] (.bool (Cs ds t p))
 | .mk f n x ps,t,hn=>by
  have hcon:=Zk ⟨ds,ct,rows⟩ t x (CN hn) ho.len;have hnm:=λh=>H4 ho (t:=t) (s:=x) h;obtain ⟨so,n0,x0,ps0⟩:=t;obtain ⟨c1,c2,c3,c4⟩:=ct;simp only [Cs];rw [Id ds so 0 n0 x0 x [] ps0];simp only at hcon;generalize BO ds (.mk so n0 x0 ps0) x=r at *;obtain ⟨⟨kn,ka⟩,kp⟩:=r;refine AS λhv=>?_;simp [Cx,EM,dTyc,dCse,maxLen] at hv;refine Af DM Tryz.func47 (by decide +kernel) rfl [1,2,3,4,5,6] rfl rfl ?_;refine Em rfl ?_;by_cases h3:f=3
  ·subst h3;refine Ai rfl λh=>?_;refine C0 rfl ?_;refine Aa rfl rfl (congrArg _ ?_);simp
  rw [if_neg h3];refine Ab rfl (λh=>absurd (by simpa using h) h3) (λh=>?_);clear h;refine C0 rfl ?_;by_cases h4:f=4
  ·subst h4;refine Ai rfl λh=>?_;refine C0 rfl ?_;refine Aa rfl rfl (congrArg _ ?_);simp
  rw [if_neg h4];refine Ab rfl (λh=>absurd (by simpa using h) h4) (λh=>?_);clear h;refine C0 rfl ?_;by_cases h5:f=5
  ·subst h5;refine Ai rfl λh=>?_;refine C0 rfl ?_;refine Aa rfl rfl (congrArg _ ?_);simp
  rw [if_neg h5];refine Ab rfl (λh=>absurd (by simpa using h) h5) (λh=>?_);clear h;refine C0 rfl ?_;by_cases h6:f=6
  case neg =>
   rw [if_neg h6];refine Ab rfl (λh=>absurd (by simpa using h) h6) (λh=>?_);refine C0 rfl ?_;exact Aa rfl rfl rfl
  rw [if_pos h6];refine Ab rfl (λh=>?_) (λh=>by simp [h6] at h);clear h;refine C0 rfl ?_;refine Ah rfl hcon ?_;refine Em rfl ?_;by_cases hg:0<=kp/\ka.length=ps.length
  case neg =>
   refine Ab rfl (λh=>?_) (λh=>?_)
   ·refine C0 rfl ?_;refine Aa rfl rfl (congrArg _ ?_);simp;grind
   ·exfalso;simp at h;apply hg;omega
  obtain ⟨hkp,hlen⟩:=hg;have hnm:=hnm hkp;refine Ab rfl (λh=>by exfalso;simp [hlen] at h;omega) (λh=>?_);clear h;refine C0 rfl ?_;simp only [hkp,hlen,decide_true,Bool.true_and];refine Am (λi:Nat=>[(9,.imm (.int .i64 i)),(3,.ref 1 0),(5,.ref 3 0),(7,.ref 4 0)]) (λ_=>[(1,some (.immb 29 6 (dCse ⟨ds,.mk c1 c2 c3 c4,rows⟩))),(3,some (.immb 69 4 (dTyc (.mk f n x ps)))),(4,some (.immb 75 2 (DN ⟨kn,ka⟩)))]) [5,6] (λi=>ps.length-i)
   (λi=>i<=ps.length/\Cr ds ka ps=Cr ds (ka.drop i) (ps.drop i)) 0 ⟨Nat.zero_le _,rfl⟩ ⟨rfl,rfl,rfl,rfl,trivial⟩ ⟨rfl,rfl,rfl,trivial⟩ rfl λi hi ih=>?_
  obtain ⟨hi1,hi2⟩:=hi;refine C0 rfl ?_;refine Ab rfl (λh=>?_) (λh=>?_)
  ·simp at h;obtain ⟨p,hp⟩:=Ap h;obtain ⟨a,ha⟩:=Ap (l:=ka) (i:=i) (by omega);rw [Av hp,Av ha] at hi2;simp only [Cr] at hi2;refine C0 rfl ?_;refine ci rfl (c:=dTyc a) (λ_=>⟨by simp,by simpa using A5 ha,by simp⟩) (by simp) ?_;refine Em rfl ?_;refine ci rfl (c:=dTyc p) (λ_=>⟨by simp,by simpa using A5 hp,by simp⟩) (by simp) ?_;refine Em rfl ?_;refine Ad rfl (λ_=>Wi (.mk c1 c2 c3 c4) rows ds ho p a (D3 hnm ha)) (by simp) ?_;refine cg [] rfl (by simp;rfl) ?_;refine Ab rfl (λh=>?_) (λh=>?_)
   ·refine C0 rfl ?_;refine Aa rfl rfl (congrArg _ ?_);simp at h;simp [hi2,h]
   ·refine C0 rfl ?_;simp at h;exact Ae (ih (i+1) (by omega) ⟨by omega,by rw [hi2];simp [h]⟩) ⟨A3 (BI (by omega) (by omega)),rfl,rfl,rfl,trivial⟩ ⟨rfl,rfl,rfl,trivial⟩ rfl
  ·simp at h;refine Ay rfl ?_;refine C0 rfl ?_;rw [hi2,List.drop_eq_nil_of_le (by omega),List.drop_eq_nil_of_le (by omega)];exact Aa rfl rfl rfl
termination_by p=>SizeOf.sizeOf p
decreasing_by
 have:=List.sizeOf_lt_of_mem (List.mem_of_getElem? hp);simp_wf;omega
mutual
def IT (ds:List Dt):Ty->Ty->Bool
 | .mk so _ x0 _,.mk f _ x ps=>if so=1 then f == 1 else if so=2 then f == 2 else if so=3 then f == 3 else if so=8 then decide (f=4)&&(decide (0<=(BO ds (.mk so 0 x0 []) x).2)&&(decide ((BO ds (.mk so 0 x0 []) x).1.args.length=ps.length)&&HA ds (BO ds (.mk so 0 x0 []) x).1.args ps)) else f == 5
def HA (ds:List Dt):List Ty->List Ty->Bool
 | _,[]=>true
 | [],_::_=>true
 | a::r,p::q=>IT ds a p&&HA ds r q
end
theorem pU (ct:Ty) (rows:List Ty) (ds:List Dt) (ho:OkD ds):∀(p t:Ty),AK ds t=true->Ak Tryz.prog 109 [.agg (dCse ⟨ds,ct,rows⟩),.agg (dTyc t),.agg (dTyc p)] (.bool (IT ds t p))
 | .mk f n x ps,t,hn=>by
  have hcon:=Zk ⟨ds,ct,rows⟩ t x (CN hn) ho.len;have hnm:=λh=>H4 ho (t:=t) (s:=x) h;obtain ⟨so,n0,x0,ps0⟩:=t;obtain ⟨c1,c2,c3,c4⟩:=ct;simp only [IT];rw [Id ds so 0 n0 x0 x [] ps0];simp only at hcon;generalize BO ds (.mk so n0 x0 ps0) x=r at *;obtain ⟨⟨kn,ka⟩,kp⟩:=r;refine AS λhv=>?_;simp [Cx,EM,dTyc,dCse,maxLen] at hv;refine Af DM Tryz.func109 (by decide +kernel) rfl [1,2,3,4,5,6] rfl rfl ?_;refine Em rfl ?_;by_cases h1:so=1
  ·subst h1;refine Ai rfl λh=>?_;refine C0 rfl ?_;refine Aa rfl rfl (congrArg _ ?_);simp
  rw [if_neg h1];refine Ab rfl (λh=>absurd (by simpa using h) h1) (λh=>?_);clear h;refine C0 rfl ?_;by_cases h2:so=2
  ·subst h2;refine Ai rfl λh=>?_;refine C0 rfl ?_;refine Aa rfl rfl (congrArg _ ?_);simp
  rw [if_neg h2];refine Ab rfl (λh=>absurd (by simpa using h) h2) (λh=>?_);clear h;refine C0 rfl ?_;by_cases h3:so=3
  ·subst h3;refine Ai rfl λh=>?_;refine C0 rfl ?_;refine Aa rfl rfl (congrArg _ ?_);simp
  rw [if_neg h3];refine Ab rfl (λh=>absurd (by simpa using h) h3) (λh=>?_);clear h;refine C0 rfl ?_;by_cases h8:so=8
  case neg =>
   rw [if_neg h8];refine Ab rfl (λh=>absurd (by simpa using h) h8) (λh=>?_);refine C0 rfl ?_;refine Aa rfl rfl (congrArg _ ?_);simp
  rw [if_pos h8];refine Ab rfl (λh=>?_) (λh=>by simp [h8] at h);clear h;refine C0 rfl ?_;refine Ah rfl hcon ?_;refine Em rfl ?_;by_cases hg:f=4/\0<=kp/\ka.length=ps.length
  case neg =>
   refine Ab rfl (λh=>?_) (λh=>?_)
   ·refine C0 rfl ?_;refine Aa rfl rfl (congrArg _ ?_);simp;grind
   ·exfalso;simp at h;apply hg;omega
  obtain ⟨rfl,hkp,hlen⟩:=hg;have hnm:=hnm hkp;refine Ab rfl (λh=>by exfalso;simp [hlen] at h;omega) (λh=>?_);clear h;refine C0 rfl ?_;simp only [hkp,hlen,decide_true,Bool.true_and];refine Am (λi:Nat=>[(9,.imm (.int .i64 i)),(3,.ref 1 0),(5,.ref 3 0),(7,.ref 4 0)]) (λ_=>[(1,some (.immb 29 6 (dCse ⟨ds,.mk c1 c2 c3 c4,rows⟩))),(3,some (.immb 46 4 (dTyc (.mk 4 n x ps)))),(4,some (.immb 75 2 (DN ⟨kn,ka⟩)))]) [5,6] (λi=>ps.length-i)
   (λi=>i<=ps.length/\HA ds ka ps=HA ds (ka.drop i) (ps.drop i)) 0 ⟨Nat.zero_le _,rfl⟩ ⟨rfl,rfl,rfl,rfl,trivial⟩ ⟨rfl,rfl,rfl,trivial⟩ rfl λi hi ih=>?_
  obtain ⟨hi1,hi2⟩:=hi;refine C0 rfl ?_;refine Ab rfl (λh=>?_) (λh=>?_)
  ·simp at h;obtain ⟨p,hp⟩:=Ap h;obtain ⟨a,ha⟩:=Ap (l:=ka) (i:=i) (by omega);rw [Av hp,Av ha] at hi2;simp only [HA] at hi2;refine C0 rfl ?_;refine ci rfl (c:=dTyc a) (λ_=>⟨by simp,by simpa using A5 ha,by simp⟩) (by simp) ?_;refine Em rfl ?_;refine ci rfl (c:=dTyc p) (λ_=>⟨by simp,by simpa using A5 hp,by simp⟩) (by simp) ?_;refine Em rfl ?_;refine Ad rfl (λ_=>pU (.mk c1 c2 c3 c4) rows ds ho p a (D3 hnm ha)) (by simp) ?_;refine cg [] rfl (by simp;rfl) ?_;refine Ab rfl (λh=>?_) (λh=>?_)
   ·refine C0 rfl ?_;refine Aa rfl rfl (congrArg _ ?_);simp at h;simp [hi2,h]
   ·refine C0 rfl ?_;simp at h;exact Ae (ih (i+1) (by omega) ⟨by omega,by rw [hi2];simp [h]⟩) ⟨A3 (BI (by omega) (by omega)),rfl,rfl,rfl,trivial⟩ ⟨rfl,rfl,rfl,trivial⟩ rfl
  ·simp at h;refine Ay rfl ?_;refine C0 rfl ?_;rw [hi2,List.drop_eq_nil_of_le (by omega),List.drop_eq_nil_of_le (by omega)];exact Aa rfl rfl rfl
termination_by p=>SizeOf.sizeOf p
decreasing_by
 have:=List.sizeOf_lt_of_mem (List.mem_of_getElem? hp);simp_wf;omega
def gY (c:Cse) (p:Ty):Bool:=Fg p&&Cs c.datas c.type p
def Lx (c:Cse):Bool:=(H0 c.datas&&FD c.type&&AK c.datas c.type&&decide (c.rows.length<=5))&&(c.rows.all (gY c)&&decide (Ag c.rows<=30))
theorem Wh {p:Ty} (h:Fg p=true):Aj p<=12:=by
 simp only [Fg,Bool.and_eq_true,decide_eq_true_eq] at h;have h1:=Ez p 12 h.1.1;have h2:=h.1.1;omega
theorem oP (c:Cse):Ak Tryz.prog 8 [.agg (dCse c)] (.bool (Lx c)):=by
 obtain ⟨ds,t,rows⟩:=c;obtain ⟨so,n0,x0,ps0⟩:=t;refine Af DM Tryz.func8 (by decide +kernel) rfl [1,2,3,4,5,6] rfl rfl ?_;refine Em rfl ?_;refine Ad rfl (λ_=>mA ds) (by simp) ?_;refine Em rfl ?_;refine Ad rfl (λ_=>Nt (.mk so n0 x0 ps0)) (by simp [An]) ?_;refine qY rfl ?_;refine Ad rfl (λ_=>NP ds (.mk so n0 x0 ps0)) (by simp [An]) ?_;refine qY rfl ?_;refine Ab rfl (λh=>?_) (λh=>?_)
 ·refine C0 rfl ?_;refine Aa rfl rfl (congrArg _ ?_);simp at h;simp [Lx];grind
 have hg:(H0 ds&&FD (.mk so n0 x0 ps0)&&AK ds (.mk so n0 x0 ps0)&&decide (rows.length<=5))=true:=by simp at h ⊢;grind
 rw [show Lx ⟨ds,.mk so n0 x0 ps0,rows⟩=(rows.all (gY ⟨ds,.mk so n0 x0 ps0,rows⟩)&&decide (Ag rows<=30)) by simp only [Lx,hg,Bool.true_and]];clear h;simp only [Bool.and_eq_true,decide_eq_true_eq] at hg;obtain ⟨⟨⟨hd,hw⟩,hn⟩,hl⟩:=hg;have ho:=OkD.of hd;have hP:=λp=>Wi (.mk so n0 x0 ps0) rows ds ho p (.mk so n0 x0 ps0) hn;generalize hR:gY ⟨ds,.mk so n0 x0 ps0,rows⟩=R;have hR:∀p,R p=(Fg p&&Cs ds (.mk so n0 x0 ps0) p):=λp=>by rw [<- hR];rfl
 refine C0 rfl ?_;refine Am (λi:Nat=>[(4,.imm (.int .i64 i)),(3,.imm (.int .i64 ((Ag (rows.take i):Nat):Int))),(1,.ref 1 0)]) (λ_=>[(1,some (.immb 29 6 (dCse ⟨ds,.mk so n0 x0 ps0,rows⟩)))]) [2,3,4,5,6] (λi=>rows.length-i)
  (λi=>i<=rows.length/\rows.all R=(rows.drop i).all R/\Ag (rows.take i)<=12*i) 0 ⟨Nat.zero_le _,rfl,by simp [Ag]⟩ ⟨rfl,rfl,rfl,trivial⟩ ⟨rfl,trivial⟩ rfl λi hi ih=>?_
 obtain ⟨hi1,hi2,hi3⟩:=hi;refine C0 rfl ?_;refine Ab rfl (λh=>?_) (λh=>?_)
 ·simp at h;obtain ⟨p,hp⟩:=Ap h;rw [E2 hp,hR] at hi2;have en:Ag (rows.take (i+1))=Ag (rows.take i)+Aj p:=by rw [Bn hp,BA];simp [Ag]
  refine C0 rfl ?_;refine ci rfl (c:=dTyc p) (λ_=>⟨by simp,by simpa using A5 hp,by simp⟩) (by simp) ?_;refine Em rfl ?_;refine Ad rfl (λ_=>lW p) (by simp) ?_;refine Em rfl ?_;refine ci rfl (c:=dTyc p) (λ_=>⟨by simp,by simpa using A5 hp,by simp⟩) (by simp [An]) ?_;refine qY rfl ?_;refine Ad rfl (λ_=>hP p) (by simp [An]) ?_;refine cg [] rfl (by simp [An];rfl) ?_;refine Ab rfl (λh=>?_) (λh=>?_)
  ·refine C0 rfl ?_;refine Aa rfl rfl (congrArg _ ?_);simp at h;rw [hi2];grind
  ·have hr:(Fg p&&Cs ds (.mk so n0 x0 ps0) p)=true:=by simp at h ⊢;grind
   rw [hr,Bool.true_and] at hi2;have hp12:=Wh (Bool.and_eq_true _ _ ▸ hr).1;refine C0 rfl ?_;refine ci rfl (c:=dTyc p) (λ_=>⟨by simp,by simpa using A5 hp,by simp⟩) (by simp) ?_;refine Em rfl ?_;refine Ad rfl (λ_=>Xu p (by omega)) (by simp) ?_;refine Em rfl ?_;exact Ae (ih (i+1) (by omega) ⟨by omega,hi2,by omega⟩) ⟨A3 (BI (by omega) (by omega)),A3 (by rw [en,BI (by omega) (by omega)];omega),rfl,trivial⟩ ⟨rfl,trivial⟩ rfl
 ·simp at h;refine Ay rfl ?_;refine C0 rfl ?_;rw [List.take_of_length_le (by omega),hi2,List.drop_eq_nil_of_le (by omega)];refine Aa rfl rfl (congrArg _ ?_);simp;omega
end Go.Hk
namespace Go.Hk
def Z0 (P:Program) (t:TypeId):Bool:=(match P.underlying t with
 | some (.struct fs) => fs.toList.all fun f => f.name != "_"
 | _=>false) && !P.stoodInHeld t && !P.eqGuardType P.depth t
def oA:V->V->Option Bool
 | .bool a,.bool b=>some (a == b)
 | .int k a,.int k' b=>match decide (k=k') with
  | true=>some (a == b)
  | false=>none
 | .str a,.str b=>some (a == b)
 | _,_=>none
def Kk:V->Sh->Bool
 | .bool _,.bool=>true
 | .int _ _,.int _=>true
 | .str _,.str=>true
 | _,_=>false
def U5 (tt:TT):Nat->List (Nat×TypeId)->List V->List V->Option Bool
 | _,[],[],[]=>some true
 | i,(off,ft)::fs,x::xs,y::ys=>match Nat.beq off i,lk tt ft with
  | true,some ti=>match Kk x ti.sh,oA x y with
   | true,some b=>match U5 tt (i+1) fs xs ys with
    | some b'=>some (b&&b')
    | none=>none
   | _,_=>none
  | _,_=>none
 | _,_,_,_=>none
structure PSeq where
 t:TypeId
 b:Bool
 g:Option (Bool×Bool)
 ob:List Prop
 dst:Option Nat
 todo:List DI
def oK:D->Option (List V)
 | .imm (.agg xs)=>some xs
 | _=>none
def rH (tt:TT) (n:Nat) (env:Env) (todo:List DI):Option PSeq :=
 match Bk todo ([],[]) with
 | some (all,o,todo')=>match o.op,Ct all env o with
  | .binOp op t x y _,some g=>match lk tt t,Lb (An g) env x,Lb (An g) env y with
   | some { sh:=.struct fs,.. },some (dx,o1),some (dy,o2)=>match oK dx,oK dy,BJ n o.dst with
    | some xs,some ys,true=>match U5 tt 0 fs xs ys,op with
     | some b,.eql=>some ⟨t,b,g,Iv o1 o2,o.dst,todo'⟩
     | some b,.neq=>some ⟨t,!b,g,Iv o1 o2,o.dst,todo'⟩
     | _,_=>none
    | _,_,_=>none
   | _,_,_=>none
  | _,_=>none
 | none=>none
section
variable {P:Program} {n:Nat} {F:List Nat} {Q:DQ} {tt:TT} {env:Env} {st:St} {ids:List Nat} {todo:List DI} {I:Imm} {w:World}
theorem QX {t:TypeId} {ti:TyI} (hty:TyOk P t ti) {x:V} (hs:Kk x ti.sh=true):(Go.isAgg t).run P w = .ok false w:=by
 have:=hty.sh;cases hsh:ti.sh <;> rw [hsh] at hs this <;> cases x <;> simp only [Kk,reduceCtorEq] at hs
 all_goals
  have hu:P.underlying t=some _:=this;simp [Go.isAgg,run_underlying hu]
theorem kS {x y:V} {vx vy:Value} {b:Bool} {t:TypeId} {ti:TyI} (hty:TyOk P t ti) (n:Nat) (hx:RepV I vx x) (hy:RepV I vy y) (h:oA x y=some b) (hs:Kk x ti.sh=true) :
  (Op.equalIn (n+1) t vx vy).run P w = .ok b w:=by
 have:=hty.sh;cases x <;> simp only [oA,reduceCtorEq] at h <;> cases y <;> simp only [Option.some.injEq,reduceCtorEq] at h
 ·cases hx;cases hy;cases hsh:ti.sh <;> rw [hsh] at hs this <;> simp only [Kk,reduceCtorEq] at hs;rw [run_equalIn_bool' w n t _ _ this,h]
 ·rename_i k a k' b';cases hk:decide (k=k') with
  | false=>rw [hk] at h;cases h
  | true =>
   rw [hk] at h;have hkk:k=k':=of_decide_eq_true hk;subst hkk;cases hx;cases hy;cases hsh:ti.sh <;> rw [hsh] at hs this <;> simp only [Kk,reduceCtorEq] at hs;simp only [Option.some.injEq] at h;rw [run_equalIn_int w n t _ _ _ _ this,h]
 ·cases hx with
  | str s l e1 =>
  cases hy with
  | str s' l' e2 =>
  cases hsh:ti.sh <;> rw [hsh] at hs this <;> simp only [Kk,reduceCtorEq] at hs;rw [run_equalIn_string w n t _ _ this,ByteArray.toList_eq,ByteArray.toList_eq,e1,e2,h]
theorem MY (htt : TTok P tt) {xs ys : Array Value} (n : Nat) : ∀ (fs : List Field) (i : Nat) (gx gy : List V) (b : Bool), (∀ f ∈ fs, f.name ≠ "_") →
  RepVL I (xs.toList.drop i) gx->RepVL I (ys.toList.drop i) gy->U5 tt i (fs.map λf=>(f.offset,f.type)) gx gy=some b->(Op.eqFields (n+1) xs ys fs).run P w = .ok b w
 | [],i,gx,gy,b,_,_,_,h=>by
  cases gx <;> cases gy <;> simp only [List.map_nil,U5,Option.some.injEq,reduceCtorEq] at h;simp [Op.eqFields,<- h]
 | f::fs,i,gx,gy,b,hn,hx,hy,h=>by
  cases gx with
  | nil=>simp [U5] at h
  | cons x gx =>
   cases gy with
   | nil=>simp [U5] at h
   | cons y gy =>
    simp only [List.map_cons,U5] at h;cases ho:Nat.beq f.offset i with
    | false=>rw [ho] at h;cases h
    | true =>
    cases hl:lk tt f.type with
    | none=>rw [ho,hl] at h;cases h
    | some ti =>
    rw [ho,hl] at h;simp only at h;cases hs:Kk x ti.sh with
    | false=>rw [hs] at h;cases h
    | true =>
    cases hk:oA x y with
    | none=>rw [hs,hk] at h;cases h
    | some b1 =>
    rw [hs,hk] at h;simp only at h;cases hr:U5 tt (i+1) (fs.map λf=>(f.offset,f.type)) gx gy with
    | none=>rw [hr] at h;cases h
    | some b2 =>
    rw [hr] at h;cases h;have ho:=Nat.eq_of_beq_eq_true ho;have get:∀{vs:Array Value} {g:V} {gs:List V},RepVL I (vs.toList.drop i) (g::gs)->∃v,vs[i]?=some v/\RepV I v g/\RepVL I (vs.toList.drop (i+1)) gs:=by
     intro vs g gs hr;cases hd:vs.toList.drop i with
     | nil=>rw [hd] at hr;exact absurd hr.1 (by simp)
     | cons v vs' =>
      rw [hd] at hr;have h0:vs.toList[i]?=some v:=by
       have:(vs.toList.drop i)[0]?=some v:=by rw [hd];rfl
       rw [List.getElem?_drop] at this;simpa using this
      refine ⟨v,by rw [<- Array.getElem?_toList];exact h0,hr.2 0 v g rfl rfl,?_⟩;have:vs.toList.drop (i+1)=vs':=by
       have:=congrArg List.tail hd;simpa [List.tail_drop] using this
      rw [this];exact ⟨by have:=hr.1;simpa using this,λj v x h1 h2=>hr.2 (j+1) v x (by simpa using h1) (by simpa using h2)⟩
    obtain ⟨vx,x1,x2,x3⟩:=get hx;obtain ⟨vy,y1,y2,y3⟩:=get hy;have ih:=MY htt n fs (i+1) gx gy b2 (λf hf=>hn f (by simp [hf])) x3 y3 hr;have hagg:=QX (w:=w) (htt _ _ hl) hs;have hpart:∀(vs:Array Value) (v:Value),vs[i]?=some v->(part f.type vs f.offset).run P w = .ok v w:=λvs v hv=>by
     simp [part,hagg,ho,hv]
    have he:=kS (w:=w) (htt _ _ hl) n x2 y2 hk hs;simp only [Op.eqFields,hn f (by simp),ne_eq,not_false_eq_true,if_true,Sem.run_bind,hpart _ _ x1,hpart _ _ y1,Result.andThen_ok,he];cases b1 with
    | true=>simpa using ih
    | false=>simp
theorem V6 (htt:TTok P tt) {t:TypeId} (hs:Z0 P t=true) {fs:List (Nat×TypeId)} (hsh:PF P t (.struct fs)) {xo yo:Operand} {xs ys:List V} {b:Bool} {vx vy:Value} (hx:RepV I vx (.agg xs)) (hy:RepV I vy (.agg ys))
  (h:U5 tt 0 fs xs ys=some b):(do eqGuard .eql t xo yo vx vy;binOp .eql t vx vy:Sem Value).run P w = .ok (.bool b) w/\(do eqGuard .neq t xo yo vx vy;binOp .neq t vx vy:Sem Value).run P w = .ok (.bool (!b)) w:=by
 simp only [Z0,Bool.and_eq_true,Bool.not_eq_true'] at hs;obtain ⟨⟨h1,h2⟩,h3⟩:=hs;obtain ⟨fields,hu,hmap,_⟩:∃fields,P.underlying t=some (.struct fields)/\fields.toList.map (λf=>(f.offset,f.type))=fs/\∀f∈fields.toList,0<P.cellsOf f.type:=hsh;rw [hu] at h1;simp only [List.all_eq_true,bne_iff_ne] at h1;cases hx with
 | agg cx _ lx _ rx =>
 cases hy with
 | agg cy _ ly _ ry =>
 have hf:=MY (w:=w) (xs:=cx) (ys:=cy) (I:=I) htt 9998 fields.toList 0 xs ys b h1 ⟨by simpa using lx,λi v d h1 h2=>rx i v d (by simpa using h1) h2⟩ ⟨by simpa using ly,λi v d h1 h2=>ry i v d (by simpa using h1) h2⟩ (by rw [hmap];exact h);have hfo:P.fieldsOf t=fields:=by simp [Program.fieldsOf,hu]
 have he:(Op.equalIn 10000 t (.agg cx) (.agg cy)).run P w = .ok b w:=by
  have:=run_equalIn_struct (P:=P) w 9999 t cx cy (by rw [hfo];exact hu) h2;rw [this,hfo];exact hf
 exact ⟨by simp only [Sem.run_bind,run_eqGuard_agg w _ _ _ _ _ _ h3,Result.andThen_ok,run_eql_struct w,he],by simp only [Sem.run_bind,run_eqGuard_agg w _ _ _ _ _ _ h3,Result.andThen_ok,run_neq_struct w,he]⟩
theorem XH {d:D} {xs:List V} (h:oK d=some xs):d = .imm (.agg xs):=by
 unfold oK at h
 split at h
 ·cases h;rfl
 ·cases h
theorem TX (htt:TTok P tt) {t:TypeId} {b:Bool} {g:Option (Bool×Bool)} {ob:List Prop} {dst:Option Nat} {todo0:List DI} (h:rH tt n env todo=some ⟨t,b,g,ob,dst,todo0⟩) (hs:Z0 P t=true) (hob:AA ob)
  (hg:G P n F Q todo0 (BE dst (gD g (.imm (.bool b))) env) st ids):G P n F Q todo env st ids:=by
 unfold rH at h
 split at h
 ·rename_i all o todo' h1
  split at h
  ·rename_i op t' x y t2 g' hop hgd
   split at h
   ·rename_i fs _ _ _ _ dx o1 dy o2 ht hx hy
    split at h
    ·rename_i xs ys ex ey hdo;have ex:=XH ex;have ey:=XH ey;subst ex;subst ey
     split at h
     ·rename_i b' hv;cases h;refine BC (fr:=[]) (wr:=[]) (rd:=[]) h1 (CT hgd λI μ st1 ids1 a w hag hst hops hcx=>?_) hdo (λc hc=>by rw [hop] at hc;cases hc) hg;rw [hop] at hops;obtain ⟨ho1,ho2⟩:=Bo hob;have rx:=(CE hx ho1 hcx (hops x (by simp [Op.operands]))).immInv;have ry:=(CE hy ho2 hcx (hops y (by simp [Op.operands]))).immInv;have hrun:(execOp a.eval o).run P w = .ok (.value (.bool b)) w:=by
       simp only [execOp,hop];exact A4 (V6 htt hs (htt.sh ht) rx ry hv).1
      rw [hrun];exact ⟨I,μ,hst,.imm _ _ (.bool _),Mu.le_refl μ,Ext.refl _ _ _ _⟩
     ·rename_i b' hv;cases h;refine BC (fr:=[]) (wr:=[]) (rd:=[]) h1 (CT hgd λI μ st1 ids1 a w hag hst hops hcx=>?_) hdo (λc hc=>by rw [hop] at hc;cases hc) hg;rw [hop] at hops;obtain ⟨ho1,ho2⟩:=Bo hob;have rx:=(CE hx ho1 hcx (hops x (by simp [Op.operands]))).immInv;have ry:=(CE hy ho2 hcx (hops y (by simp [Op.operands]))).immInv;have hrun:(execOp a.eval o).run P w = .ok (.value (.bool (!b'))) w:=by
       simp only [execOp,hop];exact A4 (V6 htt hs (htt.sh ht) rx ry hv).2
      rw [hrun];exact ⟨I,μ,hst,.imm _ _ (.bool _),Mu.le_refl μ,Ext.refl _ _ _ _⟩
     ·cases h
    ·cases h
   ·cases h
  ·cases h
 ·cases h
end
end Go.Hk
namespace Go.Hk
section
variable {P:Program} {I J:Imm} {μ ν:Mu} {w:World}
noncomputable def OV (I:Imm) (μ:Mu) (st:St) (w:World):Imm:=λb=>open Classical in if Bq μ st b then w.heap[b]? else I b
theorem eE {f:FuncId} {das das':List D} {stL st0 st1:St} {d:D} (hE:Bg P f das st0 (.ret d st1)) (hd:Z2 d=true) (hs:VP st1)
  (h0:∀i∈D8 stL,i∉D8 st0/\i∉D8 st1/\i∉I5 d) (hcl:∀i b,At stL i b->∀j∈Sx b,j∈D8 stL)
  (hview:∀I J μ w,StRep I μ stL [] w->I.le J->(∀i blk g b,At stL i blk->μ i=some g->Dl g b->J b=w.heap[b]?)->∀xs:List Value,RepL J μ xs das'->RepL J μ xs das) :
  Bg P f das' (stL++st0) (.ret d (stL++st1)):=by
 intro I μ w xs hst hx;have upL:∀{i b},At stL i b->At (stL++st0) i b:=λh=>TK h;have up:∀{i b},At st0 i b->At (stL++st0) i b:=λ{i b} h=>TJ (λhm=>(h0 i hm).1 (BR h)) h;have hown:∀b,Bq μ stL b->I b=none/\b<w.heap.size:=λb ⟨i,blk,g,h1,h2,h3⟩=>hst.apart i blk g b (upL h1) h2 h3;have hle:I.le (OV I μ stL w):=λb o h=>by
  unfold OV;by_cases ho:Bq μ stL b
  ·rw [(hown b ho).1] at h;cases h
  ·simp [ho,h]
 have hJb:∀b,Bq μ stL b->OV I μ stL w b=w.heap[b]?:=λb ho=>by simp [OV,ho]
 have hno:∀b,Bq μ stL b->¬Bq μ st0 b:=λb ⟨i,bi,gi,q1,q2,q3⟩ ⟨j,bj,gj,h1,h2,h3⟩=>by
  have:=hst.inj i j bi bj gi gj b (upL q1) (up h1) q2 h2 q3 h3;subst this;exact (h0 i (BR q1)).1 (BR h1)
 have hstL:StRep I μ stL [] w :=
  {imm:=hst.imm,blk:=λi b h=>hst.blk i b (upL h),apart:=λi b g k h=>hst.apart i b g k (upL h),inj:=λi j bi bj gi gj b hi hj=>hst.inj i j bi bj gi gj b (upL hi) (upL hj),nodup:=.nil,idsFree:=λi hi=>by cases hi }
 have hst0:StRep (OV I μ stL w) μ st0 [] w :=
  {imm:=λb o h=>by
    by_cases ho:Bq μ stL b
    ·rw [hJb b ho] at h;exact h
    ·simp [OV,ho] at h;exact hst.imm b o h
   blk:=λi b hl=>by
    obtain ⟨g,h1,h2⟩:=hst.blk i b (up hl);exact ⟨g,h1,h2.mono hle (Mu.le_refl μ)⟩
   apart:=λi b g bb hl hg' hb=>by
    obtain ⟨h1,h2⟩:=hst.apart i b g bb (up hl) hg' hb;refine ⟨?_,h2⟩;have:¬Bq μ stL bb:=λho=>hno bb ho ⟨i,b,g,hl,hg',hb⟩;simp [OV,this,h1]
   inj:=λi j bi bj gi gj b hi hj=>hst.inj i j bi bj gi gj b (up hi) (up hj)
   nodup:=.nil
   idsFree:=λi hi=>by cases hi }
 refine (hE (OV I μ stL w) μ w xs hst0 (hview I _ μ w hstL hle (λi blk g b h1 h2 h3=>hJb b ⟨i,blk,g,h1,h2,h3⟩) _ (hx.mono hle (Mu.le_refl μ)))).mono (λu w' hu=>?_) (λ_ _ h=>h);obtain ⟨I',μ',r1,r2,r3,r4⟩:=hu;obtain ⟨ν,hν⟩:∃ν:Mu,ν=λi=>if i∈D8 stL then μ i else μ' i:=⟨_,rfl⟩
 have hνk:∀i,i∈D8 stL->ν i=μ i:=λi hi=>by rw [hν];simp [hi]
 have hνo:∀i,i∉D8 stL->ν i=μ' i:=λi hi=>by rw [hν];simp [hi]
 have hlive:∀{i b},At (stL++st1) i b->At stL i b\/(i∉D8 stL/\At st1 i b):=λh=>jK h;have hheap:∀b,Bq μ stL b->w'.heap[b]?=w.heap[b]?:=λb hb=>r4.block b (hown b hb).2 (hno b hb);have hno1:∀b,Bq μ stL b->∀i blk g,At st1 i blk->μ' i=some g->¬Dl g b:=λb hb i blk g h1 h2 h3=>hno b hb (r4.fresh b (hown b hb).2 ⟨i,blk,g,h1,h2,h3⟩);refine ⟨I,ν,Ti hd r1 (λi hi g hg'=>by rw [hνo i (λe=>(h0 i e).2.2 hi)];exact hg'),?_,?_,?_⟩
 ·refine { imm:=λb o h=>r2.imm b o (r4.imm b o (hle b o h)),blk:=λi b hl=>?_,apart:=λi b g bb hl hg' hb=>?_,inj:=λi j bi bj gi gj b hi hj hgi hgj hbi hbj=>?_,nodup:=.nil,idsFree:=λi hi=>by cases hi }
  ·rcases hlive hl with h | ⟨hne,h⟩
   ·obtain ⟨g,q1,q2⟩:=hstL.blk i b h;refine ⟨g,by rw [hνk i (BR h)];exact q1,?_⟩;exact (q2.world λk hk=>hheap k ⟨i,b,g,h,q1,hk⟩).sub λj hj g' hg'=>by rw [hνk j (hcl i b h j hj)];exact hg'
   ·obtain ⟨g,q1,q2⟩:=r2.blk i b h;exact ⟨g,by rw [hνo i hne];exact q1,Tj (IZ hs h) q2⟩
  ·rcases hlive hl with h | ⟨hne,h⟩
   ·rw [hνk i (BR h)] at hg';have:=hown bb ⟨i,b,g,h,hg',hb⟩;exact ⟨this.1,Nat.lt_of_lt_of_le this.2 r4.size⟩
   ·rw [hνo i hne] at hg';obtain ⟨q1,q2⟩:=r2.apart i b g bb h hg' hb;refine ⟨?_,q2⟩;cases hI:I bb with
    | none=>rfl
    | some o=>rw [r4.imm bb o (hle bb o hI)] at q1;cases q1
  ·rcases hlive hi with h1 | ⟨hni,h1⟩
   ·rw [hνk i (BR h1)] at hgi;rcases hlive hj with h2 | ⟨hnj,h2⟩
    ·rw [hνk j (BR h2)] at hgj;exact hstL.inj i j bi bj gi gj b h1 h2 hgi hgj hbi hbj
    ·rw [hνo j hnj] at hgj;exact absurd hbj (hno1 b ⟨i,bi,gi,h1,hgi,hbi⟩ j bj gj h2 hgj)
   ·rw [hνo i hni] at hgi;rcases hlive hj with h2 | ⟨hnj,h2⟩
    ·rw [hνk j (BR h2)] at hgj;exact absurd hbi (hno1 b ⟨j,bj,gj,h2,hgj,hbj⟩ i bi gi h1 hgi)
    ·rw [hνo j hnj] at hgj;exact r2.inj i j bi bj gi gj b h1 h2 hgi hgj hbi hbj
 ·intro i hi v hv;by_cases e:i∈D8 stL
  ·rw [hνk i e];exact hv
  ·rw [hνo i e];refine r3 i ?_ v hv;simp only [D8,List.map_append,List.mem_append] at hi e ⊢;exact hi.resolve_left e
 ·refine { imm:=Imm.le_refl I,os:=r4.os,tape:=r4.tape,output:=r4.output,size:=r4.size,block:=λb hb ho=>r4.block b hb λh=>ho ?_,fresh:=λb hb ⟨i,blk,g,h1,h2,h3⟩=>?_,old:=λ_ _ _=>rfl }
  ·obtain ⟨i,blk,g,h1,h2,h3⟩:=h;exact ⟨i,blk,g,up h1,h2,h3⟩
  ·rcases hlive h1 with h | ⟨hne,h⟩
   ·rw [hνk i (BR h)] at h2;exact ⟨_,_,_,upL h,h2,h3⟩
   ·rw [hνo i hne] at h2;obtain ⟨j,bj,gj,q1,q2,q3⟩:=r4.fresh b hb ⟨i,blk,g,h,h2,h3⟩;exact ⟨j,bj,gj,up q1,q2,q3⟩
theorem W4 {g:Value} {e:TypeId} {sz:Nat} {es:List (List V)} (h:BlkRep I μ w g (.row e sz es)) (hle:I.le J) (hb:∀b,Dl g b->J b=w.heap[b]?):RepV J g (.sl es):=by
 obtain ⟨xs,hown,hrep,hsz,hone,hp⟩:=h;rcases hown.2 with ⟨rfl,h0⟩ | ⟨gb,cap,cur,rfl,_,hheap,hle2,hcm,hcs,htake⟩
 ·have:es=[]:=List.eq_nil_of_length_eq_zero h0;subst this;exact .slnil
 ·have hJg:J gb=some (.cells cur e (0,0)):=(hb gb rfl).trans hheap;have hcell:∀(i:Nat) (c:List V) (j:Nat) (x:V),es[i]?=some c->c[j]?=some x->∃v,xs[i*sz+j]?=some v/\cur[i*sz+j]?=some v/\RepV I v x/\v.oneCell'=true:=by
   intro i c j x hi hj;have h1:=C5 hsz i c j x hi hj;have hlt:i*sz+j<xs.length:=by rw [hrep.1];exact (List.getElem?_eq_some_iff.1 h1).1
   obtain ⟨v,hv⟩:∃v,xs[i*sz+j]?=some v:=⟨_,List.getElem?_eq_getElem hlt⟩
   have hr:=hrep.2 _ _ _ hv h1;refine ⟨v,hv,?_,hr,?_⟩
   ·rw [<- htake,List.getElem?_take] at hv
    split at hv
    ·simpa using hv
    ·cases hv
   ·have:=hone c (List.mem_of_getElem? hi) x (List.mem_of_getElem? hj);exact hr.one this
  refine .sl gb 0 _ cap sz es (λi j=>(cur[i*sz+j]?).getD undef) rfl hle2 hcm hsz (λi c j x hi hj=>?_) (λi c j x hi hj=>?_)
  ·obtain ⟨v,_,h2,_,h4⟩:=hcell i c j x hi hj;simp [Imm.cell,hJg,h2,h4]
  ·obtain ⟨v,_,h2,h3,_⟩:=hcell i c j x hi hj;simp only [h2,Option.getD_some];exact h3.mono hle
end
end Go.Hk
namespace Go.Hk
def Sd (w:World):Imm:=λb=>w.heap[b]?
def MD (k:D->Option V):List D->Option (List V)
 | []=>some []
 | d::r=>match k d,MD k r with
  | some x,some xs=>some (x::xs)
  | _,_=>none
def Nr (k:D->List Nat):List D->List Nat
 | []=>[]
 | d::r=>k d++Nr k r
def F5 (st:St):Nat->D->Option V
 | 0,_=>none
 | f+1,d=>match d with
  | .imm x=>some x
  | .nils=>some (.sl [])
  | .ip t cs off=>some (.ip t cs off)
  | .clip es=>some (.sl es)
  | .own id _=>match lk st id with
   | some (some (.row _ _ es))=>some (.sl es)
   | _=>none
  | .mapr id=>match lk st id with
   | some (some (.map kv))=>some (.mapv kv)
   | _=>none
  | .ref id off=>match lk st id with
   | some (some (.immb t _ xs))=>some (.ip t xs off)
   | some (some (.cells t _ ds))=>match MD (F5 st f) ds with
    | some xs=>some (.ip t xs off)
    | none=>none
   | _=>none
  | .agg ds=>match MD (F5 st f) ds with
   | some xs=>some (.agg xs)
   | none=>none
  | .fn g a b=>match MD (F5 st f) a,MD (F5 st f) b with
   | some xs,some ys=>some (.clo g xs ys)
   | _,_=>none
  | _=>none
def F7 (st:St):Nat->D->List Nat
 | 0,_=>[]
 | f+1,d=>match d with
  | .own id _=>[id]
  | .mapr id=>[id]
  | .ref id _=>match lk st id with
   | some (some (.cells _ _ ds))=>id::Nr (F7 st f) ds
   | _=>[id]
  | .agg ds=>Nr (F7 st f) ds
  | .fn _ a b=>Nr (F7 st f) a++Nr (F7 st f) b
  | _=>[]
structure lY where
 f:FuncId
 vs:List V
 rd:List Nat
 g:Option (Bool×Bool)
 ob:List Prop
 dst:Option Nat
 todo:List DI
def Yp (n:Nat) (st:St) (all:List Oper) (o:Oper) (env:Env) (todo:List DI) (f:FuncId) (a b:List D) (args:List Operand):Option lY :=
 match Ct all env o with
 | some g=>match Ir (An g) env args with
  | some (ds,ob)=>match MD (F5 st 6) (a++ds++b),BJ n o.dst with
   | some vs,true=>match Bk todo (Nr (F7 st 6) (a++ds++b),[]) with
    | some (_,_,todo')=>match o.dst with
     | some t=>some ⟨f,vs,Nr (F7 st 6) (a++ds++b),g,ob,some t,todo'⟩
     | none=>some ⟨f,vs,Nr (F7 st 6) (a++ds++b),g,ob,none,todo'⟩
    | none=>none
   | _,_=>none
  | none=>none
 | none=>none
def iR (n:Nat) (env:Env) (st:St) (todo:List DI):Option lY :=
 match Bk todo ([],[]) with
 | some (all,o,_)=>match o.op with
  | .call { callee:=.value (.func f),args:=⟨args⟩,.. }=>Yp n st all o env todo f [] [] args
  | .call { callee:=.value (.tmp t),args:=⟨args⟩,.. }=>match lk env t with
   | some (.imm (.fn (.func f)))=>Yp n st all o env todo f [] [] args
   | some (.imm (.clo (.func f) a b))=>Yp n st all o env todo f (a.map .imm) (b.map .imm) args
   | some (.fn (.func f) a b)=>Yp n st all o env todo f a b args
   | _=>none
  | _=>none
 | none=>none
def Z1:V->Bool
 | .tup xs=>D7 xs
 | x=>F6 x
section
variable {P:Program} {n:Nat} {F:List Nat} {Q:DQ} {tt:TT} {env env':Env} {st st':St} {ids ids':List Nat} {k todo todo':List DI} {I J:Imm} {μ:Mu} {w:World} {a:Act} {Pn:V->Prop} {d:D} {cx:Prop} {ob:List Prop}
theorem bZ {v:Value} {x:V} (h:Z1 x=true) (hr:RepV J v x):RepV I v x:=by
 cases hr with
 | tup cs xs hl hh =>
  refine .tup cs xs hl λi c x hc hx=>?_;have hm:∀{xs:List V} {i:Nat} {x:V},D7 xs=true->xs[i]?=some x->F6 x=true:=by
   intro xs
   induction xs with
   | nil=>intro i x _ h;simp at h
   | cons y r ih =>
    intro i x hs h;simp only [D7,Bool.and_eq_true] at hs;cases i with
    | zero=>simp at h;subst h;exact hs.1
    | succ i=>exact ih hs.2 (by simpa using h)
  exact Eg (hm h hx) (hh i c x hc hx)
 | bool b=>exact .bool b
 | int k n=>exact .int k n
 | str s l hs=>exact .str s l hs
 | _=>simp [Z1,F6] at h
theorem IB {q:D->Option V} {μ:Mu} (hq:∀d x v,q d=some x->RepD I μ v d->RepV J v x):∀{vs:List Value} {ds:List D} {xs:List V},MD q ds=some xs->RepL I μ vs ds->RepVL J vs xs
 | [],ds,xs,h,hr=>by
  cases ds with
  | nil=>cases h;exact .nil
  | cons d ds=>simp [RepL] at hr
 | v::vs,ds,xs,h,hr=>by
  cases ds with
  | nil=>simp [RepL] at hr
  | cons d ds =>
   obtain ⟨h1,h2⟩:=hr.cons;simp only [MD] at h
   split at h
   ·cases h;exact .mk (hq _ _ _ (by assumption) h1) (IB hq (by assumption) h2)
   ·cases h
theorem SP (hst:StRep I μ st ids w):∀(f:Nat) (d:D) (x:V) (v:Value),F5 st f d=some x->RepD I μ v d->RepV (Sd w) v x
 | 0,_,_,_,h,_=>by simp [F5] at h
 | f+1,d,x,v,h,hr=>by
  have hle:I.le (Sd w):=λb o h=>hst.imm b o h;have ih:=SP hst f;simp only [F5] at h
  split at h
  ·cases h;exact hr.immInv.mono hle
  ·cases h;cases hr;exact .slnil
  ·cases h;exact hr.ipV.mono hle
  ·cases h;cases hr with
   | clip a len es h=>exact h.mono hle
  ·split at h
   ·rename_i hl;cases h;cases hr with
    | own id len a cap hm =>
     obtain ⟨g,hg,hb⟩:=hst.blk _ _ hl;rw [hm] at hg;cases hg;exact W4 hb hle λb _=>rfl
   ·cases h
  ·split at h
   ·rename_i hl;cases h;cases hr with
    | mapr id b hm =>
     obtain ⟨g,hg,b',es,clock,rfl,h1,h2,h3,h4⟩:=hst.blk _ _ hl;rw [hm] at hg;cases hg;exact .mapv b es clock _ h1 h2 h3 (λi e p q1 q2=>(h4 i e p q1 q2).1.mono hle) (λi e p q1 q2=>(h4 i e p q1 q2).2.mono hle)
   ·cases h
  ·have fin:∀{t:TypeId} {off:Nat} {vs:Array Value} {xs:List V} {gb:Nat},v = .pointer (some ⟨gb,off,none⟩)->w.heap[gb]?=some (.cells vs t (0,0))->RepVL (Sd w) vs.toList xs->(∀v∈vs.toList,v.oneCell'=true)->RepV (Sd w) v (.ip t xs off):=by
    intro t off vs xs gb hv hheap hrep hone;subst hv;have:=RepV.ip (I:=Sd w) gb 0 t xs off (λj=>(vs[j]?).getD undef) (λj x hx=>?_) (λj x hx=>?_)
    ·simpa using this
    ·have hj:j<vs.size:=by have:=hrep.1;have:=(List.getElem?_eq_some_iff.1 hx).1;simp at *;omega
     have:Sd w gb=some (.cells vs t (0,0)):=hheap;simp only [Imm.cell,this,Nat.zero_add,Array.getElem?_eq_getElem hj,Option.getD_some,true_and];exact hone _ (by simp)
    ·have hj:j<vs.size:=by have:=hrep.1;have:=(List.getElem?_eq_some_iff.1 hx).1;simp at *;omega
     simp only [Array.getElem?_eq_getElem hj,Option.getD_some];exact hrep.2 j _ x (by simp [hj]) hx
   split at h
   ·rename_i hl;cases h;cases hr with
    | ref b id off hm =>
     obtain ⟨g,hg,hs,gb,vs,rfl,hheap,hrep,hone⟩:=hst.blk _ _ hl;rw [hm] at hg;cases hg;exact fin rfl hheap (hrep.mono hle) hone
   ·rename_i hl
    split at h
    ·rename_i xs hx;cases h;cases hr with
     | ref b id off hm =>
      obtain ⟨g,hg,hs,gb,vs,rfl,hheap,hrep,hone⟩:=hst.blk _ _ hl;rw [hm] at hg;cases hg;exact fin rfl hheap (IB ih hx hrep) hone
    ·cases h
   ·cases h
  ·split at h
   ·rename_i xs hx;cases h;cases hr with
    | agg cs ds hl h1 hh =>
     have:=IB (vs:=cs.toList) ih hx ⟨by simpa using hl,λi v d h1 h2=>hh i v d (by simpa using h1) h2⟩;exact .agg cs xs (by simpa using this.1) h1 λi c x h1 h2=>this.2 i c x (by simpa using h1) h2
   ·cases h
  ·split at h
   ·rename_i xs ys hx hy;cases h;cases hr with
    | fn _ first cap df dc hf hc h1 h2 =>
     have q1:=IB (vs:=first.toList) ih hx ⟨by simpa using hf,λi v d e1 e2=>h1 i v d (by simpa using e1) e2⟩;have q2:=IB (vs:=cap.toList) ih hy ⟨by simpa using hc,λi v d e1 e2=>h2 i v d (by simpa using e1) e2⟩;exact .clo _ first cap xs ys (by simpa using q1.1) (by simpa using q2.1) (λi c x h1 h2=>q1.2 i c x (by simpa using h1) h2) (λi c x h1 h2=>q2.2 i c x (by simpa using h1) h2)
   ·cases h
  ·cases h
theorem Agree.sub {r s:List Nat} (h:Agree r st st') (hs:∀i∈s,i∈r):Agree s st st':=λi hi=>h i (hs i hi)
theorem FN {q q':D->Option V} {r:D->List Nat} (h:∀d,Agree (r d) st st'->q' d=q d):∀{ds:List D},Agree (Nr r ds) st st'->MD q' ds=MD q ds
 | [],_=>rfl
 | d::l,ha=>by
  simp only [MD];rw [h d (ha.sub λi hi=>by simp [Nr,hi]),FN h (ha.sub λi hi=>by simp [Nr,hi])]
theorem O1 {st st':St}:∀(f:Nat) (d:D),Agree (F7 st f d) st st'->F5 st' f d=F5 st f d
 | 0,_,_=>rfl
 | f+1,d,h=>by
  have ih:=O1 (st:=st) (st':=st') f;cases d with
  | own id n =>
   simp only [F5];rw [h id (by simp [F7])]
  | mapr id =>
   simp only [F5];rw [h id (by simp [F7])]
  | ref id off =>
   have hid:lk st' id=lk st id:=h id (by simp only [F7];split <;> simp);simp only [F5];rw [hid]
   split
   ·rfl
   ·rename_i ds hl;rw [FN ih (h.sub λi hi=>by simp only [F7,hl];simp [hi])]
   ·rfl
  | agg ds =>
   simp only [F5];rw [FN ih (h.sub λi hi=>by simp only [F7];exact hi)]
  | fn g a b =>
   simp only [F5];rw [FN ih (h.sub λi hi=>by simp only [F7];simp [hi]),FN ih (h.sub λi hi=>by simp only [F7];simp [hi])]
  | _=>rfl
theorem nJ {all:List Oper} {o:Oper} {f:FuncId} {das:List D} {vs:List V} {v:V} {m:Nat} {g:Option (Bool×Bool)} (hg:Ct all env o=some g) (hc:EA P o env f das (An g)) (hv:MD (F5 st m) das=some vs) (hs:Z1 v=true)
  (hE:An g->Ak P f vs v):LD P Pn all o env st (Nr (F7 st m) das) [] [] (gD g (.imm v)):=by
 refine CT hg λI μ st1 ids1 a w hag hst hops hcx=>?_;obtain ⟨xs,h1,h2⟩:=hc I μ a w hops hcx;rw [h2];have hv1:MD (F5 st1 m) das=some vs:=by rw [FN (O1 m) hag,hv]
 have hx:=IB (SP hst m) hv1 h1;have hst0:StRep (Sd w) μ [] [] w:={ imm:=λb o h=>h,blk:=λi b h=>by simp [At,lk] at h,apart:=λi b g k h=>by simp [At,lk] at h,inj:=λi j bi bj gi gj k h=>by simp [At,lk] at h,nodup:=.nil,idsFree:=λi h=>by cases h }
 have hno:∀b,¬Bq μ [] b:=λb ⟨i,bi,g,h,_⟩=>by simp [At,lk] at h
 refine (hE hcx (Sd w) μ w xs hst0 hx.imm).mono (λu w' hu=>?_) (λ_ _ h=>h.elim);obtain ⟨I',μ',r1,r2,r3,r4⟩:=hu;have hlt:∀b o,I b=some o->b<w.heap.size:=λb o h=>by
  have:=hst.imm b o h;exact (Array.getElem?_eq_some_iff.1 this).1
 refine ⟨I,μ,hst.other r4.size (λb o h=>r4.block b (hlt b o h) (hno b)) (λb ho=>r4.block b (Eb hst ho) (hno b)),?_,Mu.le_refl μ,{ imm:=Imm.le_refl I,os:=r4.os,tape:=r4.tape,output:=r4.output,size:=r4.size,block:=λb hb _=>r4.block b hb (hno b),fresh:=λ_ _ h=>h,old:=λ_ _ _=>rfl }⟩;exact .imm _ _ (bZ hs r1.immInv)
theorem Pu {o:Oper} {t:Nat} {f:FuncId} {args:List Operand} {ts:Array TypeId} {ds:List D} {df dc:List V} (ho:o.op = .call { callee:=.value (.tmp t),args:=⟨args⟩,argTypes:=ts }) (ht:lk env t=some (.imm (.clo (.func f) df dc)))
  (ha:Ir cx env args=some (ds,ob)) (hob:AA ob):EA P o env f (df.map .imm++ds++dc.map .imm) cx:=by
 intro I μ a w hop hc;rw [ho] at hop;have hd:=Gv (I:=I) (μ:=μ) (a:=a) hc ha hob λx hx=>hop x (by simp [Op.operands,Call.operands,hx]);have hf:=(hop (.tmp t) (by simp [Op.operands,Call.operands]) _ ht).immInv;generalize hv:a.eval (.tmp t)=v at hf;cases hf with
 | clo _ first cap _ _ h1 h2 h3 h4 =>
  refine ⟨first++(args.map a.eval).toArray++cap,?_,?_⟩
  ·simp only [Array.toList_append];have q1:RepVL I first.toList df:=⟨by simpa using h1,λi v d hv hd=>h3 i v d (by simpa using hv) hd⟩
   have q2:RepVL I cap.toList dc:=⟨by simpa using h2,λi v d hv hd=>h4 i v d (by simpa using hv) hd⟩
   exact RepL.append (RepL.append q1.imm hd) q2.imm
  ·simp only [execOp,ho,resolve,hv,Deferred.ofValue,Sem.run_bind,Sem.run_pure,Result.andThen_ok,invoke];congr 3;simp
theorem iS {all:List Oper} {o:Oper} {f:FuncId} {a b:List D} {args:List Operand} {c:lY} (h:Yp n st all o env todo f a b args=some c) :
  ∃g ds ob vs todo',Ct all env o=some g/\Ir (An g) env args=some (ds,ob)/\MD (F5 st 6) (a++ds++b)=some vs/\BJ n o.dst=true/\(∃p q,Bk todo (Nr (F7 st 6) (a++ds++b),[])=some (p,q,todo'))/\c=⟨f,vs,Nr (F7 st 6) (a++ds++b),g,ob,o.dst,todo'⟩:=by
 unfold Yp at h
 split at h
 ·rename_i g hg
  split at h
  ·rename_i ds ob ha
   split at h
   ·rename_i vs hv hd
    split at h
    ·rename_i p q todo' hn
     split at h
     ·rename_i t hdst;cases h;exact ⟨g,ds,ob,vs,todo',hg,ha,hv,hd,⟨p,q,hn⟩,by rw [hdst]⟩
     ·rename_i hdst;cases h;exact ⟨g,ds,ob,vs,todo',hg,ha,hv,hd,⟨p,q,hn⟩,by rw [hdst]⟩
    ·cases h
   ·cases h
  ·cases h
 ·cases h
theorem J7 {f:FuncId} {vs:List V} {rd:List Nat} {g:Option (Bool×Bool)} {dst:Option Nat} {todo':List DI} {v:V} (h:iR n env st todo=some ⟨f,vs,rd,g,ob,dst,todo'⟩) (hE:An g->Ak P f vs v) (hs:Z1 v=true) (hob:AA ob)
  (hk:G P n F Q todo' (BE dst (gD g (.imm v)) env) st ids):G P n F Q todo env st ids:=by
 have fin:∀{all:List Oper} {o:Oper} {f':FuncId} {a b:List D} {args:List Operand} {t:List DI},Bk todo ([],[])=some (all,o,t)->Yp n st all o env todo f' a b args=some ⟨f,vs,rd,g,ob,dst,todo'⟩->(∀c,o.op ≠ .defer c) ->
   (∀{ds:List D} {cx:Prop} {ob:List Prop},Ir cx env args=some (ds,ob)->AA ob->EA P o env f' (a++ds++b) cx)->G P n F Q todo env st ids:=by
  intro all o f' a b args t hn1 hp hnd hcalls;obtain ⟨g',ds,ob',vs',todo2,q1,q2,q3,q4,⟨p,q,q5⟩,q6⟩:=iS hp;obtain ⟨e1,e2⟩:=Jo hn1 q5;subst e1;subst e2;cases q6;exact BC (fr:=[]) (wr:=[]) q5 (nJ q1 (hcalls q2 hob) q3 hs hE) q4 hnd hk
 unfold iR at h
 split at h
 ·rename_i all o t hn1;have hnd:∀cc,o.op = .call cc->∀c,o.op ≠ .defer c:=λcc h c h'=>by rw [h] at h';cases h'
  split at h
  ·rename_i f' args ts ho;exact fin hn1 h (hnd _ ho) λha hob=>by simpa using Fx ho ha hob
  ·rename_i t' args ts ho
   split at h
   ·rename_i f' ht;exact fin hn1 h (hnd _ ho) λha hob=>by simpa using E9 ho ht ha hob
   ·rename_i f' a b ht;exact fin hn1 h (hnd _ ho) λha hob=>Pu ho ht ha hob
   ·rename_i f' a b ht;exact fin hn1 h (hnd _ ho) λha hob=>Is ho ht ha hob
   ·cases h
  ·cases h
 ·cases h
end
end Go.Hk
namespace Go.Hk
section
variable {P:Program} {n:Nat} {F:List Nat} {Q:DQ} {env:Env} {st:St} {ids:List Nat} {k:List DI}
theorem eH {all rest:List Oper} {o:Oper} {x:Operand} {t:TypeId} {v:V} (hg:o.guard=none) (ho:o.op = .panic x) (hx:D2 env x=some (.imm (.iface t v))) (hq:M5 Q (.iface t v)):DGo P n F Q (.ops all (o::rest)::k) env st ids:=by
 intro b cs I μ a w items hd hc;obtain ⟨j,is,rfl,hr,hk⟩:=JA hd;obtain ⟨hj,_⟩:=Ed hr;have hlen:(o::rest).length=rest.length+1:=rfl;rw [hlen,List.range'_succ];refine Gn hj (AF hg) (λc hc=>by rw [ho] at hc;cases hc) ?_;have hon:K7 (o.looksAt all.toArray) I μ env a:=λt _ d hl=>hc.env t d hl;have hxr:=Bh hon x (by rw [ho];simp [Op.operands]) _ hx;obtain ⟨u,hu,hur⟩:∃u,a.eval x = .iface t u/\RepV I (.iface t u) (.iface t v):=by
  have:=hxr.immInv;generalize a.eval x=y at this;cases this with
  | iface _ u _ h=>exact ⟨u,rfl,.iface t u v h⟩
 have hrun:(execOp a.eval o).run P w = .halt (.panic (.iface t u)) w:=by simp [execOp,ho,hu,Instr.panic,goPanic]
 rw [hrun];have hE':Ext I μ st w I μ [] w:={ imm:=Imm.le_refl I,os:=rfl,tape:=rfl,output:=rfl,size:=Nat.le_refl _,block:=λ_ _ _=>rfl,fresh:=λb hb ⟨i,bi,g,h1,_⟩=>by simp [At,lk] at h1,old:=λ_ _ _=>rfl }
 exact ⟨.panic (.iface t v),[],[],[],I,μ,⟨_,rfl,hur⟩,hq,Nl hc.imm hc.size (hc.defers.ext hE'),.refl _ _,hE',.refl _ _⟩
end
theorem E8 {P:Program} {f:FuncId} {ds:List D} {st:St} {out:Out} (j:Nat) {x:V} (hj:ds[j]?=some (.imm x)) (h:EM x->Bg P f ds st out):Bg P f ds st out:=by
 intro I μ w xs hst hx;have hlt:j<xs.toList.length:=by rw [hx.1];exact (List.getElem?_eq_some_iff.1 hj).1
 exact h (hx.2 j _ (.imm x) (List.getElem?_eq_getElem hlt) hj).immInv.ok I μ w xs hst hx
end Go.Hk
namespace Go.Hk
structure PRng where
 s:List UInt8
 id':Nat
 ids':List Nat
 dst:Option Nat
 todo:List DI
def rI (tt:TT) (n:Nat) (env:Env) (ids:List Nat) (todo:List DI):Option PRng :=
 match UO todo,ids with
 | some o,id'::ids'=>match o.guard,o.op with
  | none,.range t x=>match lk tt t,D2 env x,BJ n o.dst,Bk todo ([],[id']) with
   | some { sh:=.str,.. },some (.imm (.str s)),true,some (_,_,todo')=>some ⟨s,id',ids',o.dst,todo'⟩
   | _,_,_,_=>none
  | _,_=>none
 | _,_=>none
structure PNxt where
 s:List UInt8
 pos:Nat
 id:Nat
 dst:Option Nat
 todo:List DI
def mY (n:Nat) (env:Env) (st:St) (wr:Bool) (todo:List DI):Option PNxt :=
 match UO todo with
 | some o=>match o.guard,o.op with
  | none,.next x true=>match D2 env x,BJ n o.dst with
   | some (.iter id),true=>match lk st id,Bk todo ([id],bif wr then [id] else []) with
    | some (some (.siter s pos)),some (_,_,todo')=>some ⟨s,pos,id,o.dst,todo'⟩
    | _,_=>none
   | _,_=>none
  | _,_=>none
 | none=>none
def El (s:List UInt8) (pos:Nat):Nat×Nat:=Utf8.decode ⟨s.toArray⟩ pos
section
variable {P:Program} {n:Nat} {F:List Nat} {Q:DQ} {tt:TT} {env env':Env} {st st':St} {ids ids':List Nat} {k todo todo':List DI} {I:Imm} {μ:Mu} {w:World} {a:Act} {Pn:V->Prop} {d:D} {cx:Prop} {ob:List Prop}
theorem Jg {s:Sem Value} {v:Value} {w':World} (h:s.run P w = .ok v w'):(do pure (.value (<- s)):Sem Next).run P w = .ok (.value v) w':=by simp [h]
theorem RepD.iterInv {v:Value} {id:Nat} (h:RepD I μ v (.iter id)):∃b,v = .pointer (some ⟨b,0,none⟩)/\μ id=some v:=by
 cases h with
 | iter _ b h=>exact ⟨b,rfl,h⟩
theorem kC (htt:TTok P tt) {s0:List UInt8} {i0:Nat} {ids0:List Nat} {d0:Option Nat} {todo0:List DI} (h:rI tt n env ids todo=some ⟨s0,i0,ids0,d0,todo0⟩) (hk:G P n F Q todo0 (BE d0 (.iter i0) env) ((i0,some (.siter s0 0))::st) ids0):G P n F Q todo env st ids:=by
 unfold rI at h
 split at h
 ·rename_i o id' ids' ho
  split at h
  ·rename_i t x hg hop
   split at h
   ·rename_i _ _ _ _ s all o' todo' ht hx hd h1;cases h;have ho':o'=o:=ER ho h1;subst ho';refine BC (fr:=[i0]) (wr:=[(i0,some (.siter s0 0))]) (rd:=[]) h1 ?_ hd (λc hc=>by rw [hop] at hc;cases hc) hk;intro I μ st1 ids1 a w hag hst hon;refine ⟨λ_=>?_,λhw=>by rw [AF hg] at hw;cases hw⟩;have hops:=Bh hon;rw [hop] at hops;obtain ⟨bs,e1,e2⟩:=(hops x (by simp [Op.operands]) _ hx).immInv.strInv;have hu:P.underlying t=some .string:=htt.sh ht;have hrun:(execOp a.eval o').run P w = .ok (.value (.pointer (some ⟨w.heap.size,0,none⟩))) (w.alloc (.stringIter bs 0)):=by
     simp only [execOp,hop,e1];refine Jg ?_;simp only [Instr.range,Sem.run_bind,run_underlying hu,Result.andThen_ok,Sem.run_pure,run_newObj];rfl
    rw [hrun];obtain ⟨μ',q1,q2,q3,q4⟩:=hst.allocO (.stringIter bs 0) (.pointer (some ⟨w.heap.size,0,none⟩)) (λ_ h=>Eq.symm h) (.siter s0 0) (λμ' _=>⟨w.heap.size,bs,rfl,Ej w _,e2⟩);exact ⟨I,μ',q3,.iter _ _ q1,q2,q4⟩
   ·cases h
  ·cases h
 ·cases h
theorem Tc {id pos:Nat} {s:List UInt8} {v:Value} (hst:StRep I μ st ids w) (hl:At st id (.siter s pos)) (hv:RepD I μ v (.iter id)) :
  ∃b,v = .pointer (some ⟨b,0,none⟩)/\μ id=some v/\w.heap[b]?=some (.stringIter ⟨s.toArray⟩ pos):=by
 obtain ⟨b,rfl,hm⟩:=hv.iterInv;obtain ⟨g,hg,b',bs,rfl,hheap,hs⟩:=hst.blk id _ hl;rw [hm] at hg;cases hg;refine ⟨b,rfl,hm,?_⟩;rw [hheap,<- hs]
theorem aD {s0:List UInt8} {p0 i0:Nat} {d0:Option Nat} {todo0:List DI} (h:mY n env st true todo=some ⟨s0,p0,i0,d0,todo0⟩) (hp:p0<s0.length) {dc:Nat×Nat} (hdc:El s0 p0=dc)
  (hk:G P n F Q todo0 (BE d0 (.imm (.tup [.bool true,.int .i64 p0,.int .i32 dc.1])) env) ((i0,some (.siter s0 (p0+dc.2)))::st) ids):G P n F Q todo env st ids:=by
 subst hdc;unfold mY at h
 split at h
 ·rename_i o ho
  split at h
  ·rename_i x hg hop
   split at h
   ·rename_i id hx hd
    split at h
    ·rename_i s pos all o' todo' hl h1;cases h;have ho':o'=o:=ER ho h1;subst ho';refine BC (fr:=[]) (wr:=[(i0,some (.siter s0 (p0+(El s0 p0).2)))]) (rd:=[i0]) h1 ?_ hd (λc hc=>by rw [hop] at hc;cases hc) hk;intro I μ st1 ids1 a w hag hst hon;refine ⟨λ_=>?_,λhw=>by rw [AF hg] at hw;cases hw⟩;have hops:=Bh hon;rw [hop] at hops;have hl1:At st1 i0 (.siter s0 p0):=by unfold At;rw [hag i0 (by simp)];exact hl
     obtain ⟨b,e1,hm,hheap⟩:=Tc hst hl1 (hops x (by simp [Op.operands]) _ hx);have hget:(getObj b).run P w = .ok (.stringIter ⟨s0.toArray⟩ p0) w:=by simp [getObj,Sem.run,hheap]
     have hset:(setObj b (.stringIter ⟨s0.toArray⟩ (p0+(El s0 p0).2))).run P w = .ok () { w with heap:=w.heap.setIfInBounds b (.stringIter ⟨s0.toArray⟩ (p0+(El s0 p0).2)) }:=by simp [setObj,Sem.run,hheap]
     have hlt:p0<(ByteArray.mk s0.toArray).size:=by simpa [ByteArray.size] using hp
     have hrun:(execOp a.eval o').run P w = .ok (.value (.tuple #[.bool true,.int .i64 p0,.int .i32 (El s0 p0).1])) { w with heap:=w.heap.setIfInBounds b (.stringIter ⟨s0.toArray⟩ (p0+(El s0 p0).2)) }:=by
      simp only [execOp,hop,e1];refine Jg ?_;simp only [Instr.next,Sem.run_bind,hget,Result.andThen_ok,if_pos hlt];have:(setObj b (.stringIter ⟨s0.toArray⟩ (p0+(Utf8.decode ⟨s0.toArray⟩ p0).2))).run P w=_:=hset;simp only [Sem.run_bind,this,Result.andThen_ok,Sem.run_pure];rfl
     rw [hrun];have hbl:=BU hheap;obtain ⟨q1,q2⟩:=hst.update (blk':=.siter s0 (p0+(El s0 p0).2)) (w':={ w with heap:=w.heap.setIfInBounds b (.stringIter ⟨s0.toArray⟩ (p0+(El s0 p0).2)) }) hl1 hm (by rw [e1];rfl) (by simp) rfl rfl rfl
      (λk hk=>Array.getElem?_setIfInBounds_ne (Ne.symm hk)) ⟨b,⟨s0.toArray⟩,e1,by simp [hbl],rfl⟩
     refine ⟨I,μ,q1,.imm _ _ (.tup _ _ rfl λi c x hc hx=>?_),Mu.le_refl μ,q2⟩
     match i,hc,hx with
     | 0,hc,hx=>cases hc;cases hx;exact .bool _
     | 1,hc,hx=>cases hc;cases hx;exact .int _ _
     | 2,hc,hx=>cases hc;cases hx;exact .int _ _
     | i+3,hc,hx=>simp at hx
    ·cases h
   ·cases h
  ·cases h
 ·cases h
theorem nR {s0:List UInt8} {p0 i0:Nat} {d0:Option Nat} {todo0:List DI} (h:mY n env st false todo=some ⟨s0,p0,i0,d0,todo0⟩) (hp:s0.length<=p0)
  (hk:G P n F Q todo0 (BE d0 (.imm (.tup [.bool false])) env) st ids):G P n F Q todo env st ids:=by
 unfold mY at h
 split at h
 ·rename_i o ho
  split at h
  ·rename_i x hg hop
   split at h
   ·rename_i id hx hd
    split at h
    ·rename_i s pos all o' todo' hl h1;cases h;have ho':o'=o:=ER ho h1;subst ho';refine BC (fr:=[]) (wr:=[]) (rd:=[i0]) h1 ?_ hd (λc hc=>by rw [hop] at hc;cases hc) hk;intro I μ st1 ids1 a w hag hst hon;refine ⟨λ_=>?_,λhw=>by rw [AF hg] at hw;cases hw⟩;have hops:=Bh hon;rw [hop] at hops;have hl1:At st1 i0 (.siter s0 p0):=by unfold At;rw [hag i0 (by simp)];exact hl
     obtain ⟨b,e1,hm,hheap⟩:=Tc hst hl1 (hops x (by simp [Op.operands]) _ hx);have hget:(getObj b).run P w = .ok (.stringIter ⟨s0.toArray⟩ p0) w:=by simp [getObj,Sem.run,hheap]
     have hlt:¬p0<(ByteArray.mk s0.toArray).size:=by simpa [ByteArray.size] using hp
     have hrun:(execOp a.eval o').run P w = .ok (.value (.tuple #[.bool false])) w:=by
      simp only [execOp,hop,e1];refine Jg ?_;simp only [Instr.next,Sem.run_bind,hget,Result.andThen_ok,if_neg hlt,Sem.run_pure]
     rw [hrun];refine ⟨I,μ,hst,.imm _ _ (.tup _ _ rfl λi c x hc hx=>?_),Mu.le_refl μ,Ext.refl _ _ _ _⟩
     match i,hc,hx with
     | 0,hc,hx=>cases hc;cases hx;exact .bool _
     | i+1,hc,hx=>simp at hx
    ·cases h
   ·cases h
  ·cases h
 ·cases h
end
end Go.Hk
namespace Go.Hk
open Go.MapKept
def Xg:V->V->Bool
 | .str a,.str b=>a == b
 | .int _ a,.int _ b=>a == b
 | .bool a,.bool b=>a == b
 | _,_=>false
def C7:List (V×V)->V->Option V
 | [],_=>none
 | (k,d)::r,x=>if Xg x k then some d else C7 r x
def Fa:List (V×V)->V->V->List (V×V)
 | [],x,d=>[(x,d)]
 | (k,e)::r,x,d=>if Xg x k then (x,d)::r else (k,e)::Fa r x d
def Kw:Sh->Option TypeDesc
 | .str=>some .string
 | .int k=>some (.int k)
 | _=>none
def Jv:Sh->V->Bool
 | .str,.str _=>true
 | .int k,.int k' _=>decide (k'=k)
 | _,_=>false
section
variable {P:Program} {n:Nat} {F:List Nat} {Q:DQ} {tt:TT} {env env':Env} {st st':St} {ids ids':List Nat} {k todo todo':List DI} {I:Imm} {μ:Mu} {w:World} {a:Act} {Pn:V->Prop} {d:D} {cx:Prop} {ob:List Prop}
theorem Oe {t:TypeId} {sh:Sh} {dd:TypeDesc} (h:Kw sh=some dd) (hs:PF P t sh):P.underlying t=some dd:=by
 cases sh <;> simp only [Kw,reduceCtorEq,Option.some.injEq] at h <;> subst h <;> exact hs
theorem IG {sh:Sh} {dd:TypeDesc} {v:Value} {x:V} (h:Kw sh=some dd) (hk:Jv sh x=true) (hv:RepV I v x):IsKey dd v:=by
 cases sh <;> simp only [Kw,reduceCtorEq,Option.some.injEq] at h <;> subst h <;> cases x <;> simp [Jv] at hk <;> cases hv <;> simp [IsKey,hk]
theorem nZ {sh:Sh} {v u:Value} {x y:V} (hx:Jv sh x=true) (hy:Jv sh y=true) (hv:RepV I v x) (hu:RepV I u y):Xg x y=true↔v=u:=by
 cases x with
 | str a =>
  cases y with
  | str b =>
   obtain ⟨s,rfl,rfl⟩:=hv.strInv;obtain ⟨t,rfl,rfl⟩:=hu.strInv;simp only [Xg,beq_iff_eq,Value.string.injEq];constructor
   ·intro h;obtain ⟨⟨s⟩⟩:=s;obtain ⟨⟨t⟩⟩:=t;simp at h;rw [h]
   ·intro h;rw [h]
  | _=>cases sh <;> simp [Jv] at hx hy
 | int k i =>
  cases y with
  | int k' j =>
   obtain rfl:=hv.intInv;obtain rfl:=hu.intInv;cases sh <;> simp [Jv] at hx hy;subst hx;subst hy;simp [Xg]
  | _=>cases sh <;> simp [Jv] at hx hy
 | _=>cases sh <;> simp [Jv] at hx
theorem MX {sh:Sh} {dd:TypeDesc} {v:Value} {x:V} (hd:Kw sh=some dd) (hk:Jv sh x=true) (hv:RepV I v x):∀(l:List MapEntry) (kv:List (V×V)) (i:Nat),l.length=kv.length ->
  (∀(j:Nat) (e:MapEntry) (p:V×V),l[j]?=some e->kv[j]?=some p->RepV I e.key p.1/\RepV I e.val p.2)->(∀p∈kv,Jv sh p.1=true) ->
  (Instr.findNow dd v l i=some none/\C7 kv x=none/\(∀y,Fa kv x y=kv++[(x,y)])/\∀e∈l,e.key≠v) \/
   ∃j e y,Instr.findNow dd v l i=some (some (i+j,e.val))/\l[j]?=some e/\e.key=v/\C7 kv x=some y/\RepV I e.val y/\∀z,Fa kv x z=kv.set j (x,z)
 | [],[],i,_,_,_=>.inl ⟨rfl,rfl,λ_=>rfl,λ_ h=>by cases h⟩
 | [],_::_,_,h,_,_=>by simp at h
 | _::_,[],_,h,_,_=>by simp at h
 | e::l,p::kv,i,hl,h,hkv=>by
  obtain ⟨h1,h2⟩:=h 0 e p rfl rfl;obtain ⟨y,dy⟩:=p;have hky:=hkv (y,dy) (by simp);obtain ⟨r,hr,hiff⟩:=sameNow_of_keys (IG hd hk hv) (IG hd hky h1);have he:=nZ hk hky hv h1;cases r with
  | true =>
   have hvy:=hiff.1 rfl;have:=he.2 hvy;exact .inr ⟨0,e,dy,by simp [Instr.findNow,hr],rfl,hvy.symm,by simp [C7,this],h2,λz=>by simp [Fa,this]⟩
  | false =>
   have hne:v≠e.key:=λq=>by have:=hiff.2 q;cases this
   have hf:Xg x y=false:=by
    cases hq:Xg x y with
    | false=>rfl
    | true=>exact absurd (he.1 hq) hne
   rcases MX hd hk hv l kv (i+1) (by simpa using hl) (λj e' p' a b=>h (j+1) e' p' (by simpa using a) (by simpa using b)) (λp' hp=>hkv p' (by simp [hp])) with ⟨q1,q2,q3,q4⟩ | ⟨j,e',y',q1,q2,q3,q4,q5,q6⟩
   ·refine .inl ⟨by simp [Instr.findNow,hr,q1],by simp [C7,hf,q2],λz=>by simp [Fa,hf,q3],λe' he'=>?_⟩;rcases List.mem_cons.1 he' with rfl | he'
    ·exact λq=>hne q.symm
    ·exact q4 e' he'
   ·exact .inr ⟨j+1,e',y',by simp [Instr.findNow,hr,q1];omega,by simpa using q2,q3,by simp [C7,hf,q4],q5,λz=>by simp [Fa,hf,q6]⟩
def pmk (n:Nat) (ids:List Nat) (todo:List DI):Option (Nat×List Nat×Option Nat×List DI) :=
 match UO todo,ids with
 | some o,id'::ids'=>match o.guard,o.op with
  | none,.makeMap _ none=>match BJ n o.dst,Bk todo ([],[id']) with
   | true,some (_,_,todo')=>some (id',ids',o.dst,todo')
   | _,_=>none
  | _,_=>none
 | _,_=>none
theorem PV {i0:Nat} {ids0:List Nat} {d0:Option Nat} {todo0:List DI} (h:pmk n ids todo=some (i0,ids0,d0,todo0)) (hk:G P n F Q todo0 (BE d0 (.mapr i0) env) ((i0,some (.map []))::st) ids0):G P n F Q todo env st ids:=by
 unfold pmk at h
 split at h
 ·rename_i o id' ids' ho
  split at h
  ·rename_i t hg hop
   split at h
   ·rename_i all o' todo' hd h1;cases h;have ho':o'=o:=ER ho h1;subst ho';refine BC (fr:=[i0]) (wr:=[(i0,some (.map []))]) (rd:=[]) h1 ?_ hd (λc hc=>by rw [hop] at hc;cases hc) hk;intro I μ st1 ids1 a w hag hst hon;refine ⟨λ_=>?_,λhw=>by rw [AF hg] at hw;cases hw⟩;have hrun:(execOp a.eval o').run P w = .ok (.value (.map (some w.heap.size))) (w.alloc (.map #[] 0)):=by
     simp only [execOp,hop,Option.map_none];refine Jg ?_;simp only [Instr.makeMap,Sem.run_bind,Result.andThen_ok,Sem.run_pure,run_newObj];rfl
    rw [hrun];obtain ⟨μ',q1,q2,q3,q4⟩:=hst.allocO (.map #[] 0) (.map (some w.heap.size)) (λ_ h=>Eq.symm h) (.map []) (λμ' _=>⟨w.heap.size,#[],0,rfl,Ej w _,rfl,stamped_empty 0,λi e p h=>by simp at h⟩);exact ⟨I,μ',q3,.mapr _ _ q1,q2,q4⟩
   ·cases h
  ·cases h
 ·cases h
theorem ZV {id:Nat} {kv:List (V×V)} {v:Value} (hst:StRep I μ st ids w) (hl:At st id (.map kv)) (hv:RepD I μ v (.mapr id)) :
  ∃b es clock,v = .map (some b)/\μ id=some v/\w.heap[b]?=some (.map es clock)/\es.size=kv.length/\Stamped es clock/\∀(i:Nat) (e:MapEntry) (p:V×V),es[i]?=some e->kv[i]?=some p->RepV I e.key p.1/\RepV I e.val p.2:=by
 cases hv with
 | mapr _ b hm =>
  obtain ⟨g,hg,b',es,clock,rfl,h1,h2,h3,h4⟩:=hst.blk id _ hl;rw [hm] at hg;cases hg;exact ⟨b,es,clock,rfl,hm,h1,h2,h3,h4⟩
def gQ:Op->Option (TypeId×Operand×Operand×Operand)
 | .mapUpdate t m x y=>some (t,m,x,y)
 | .insert t m x y=>some (t,m,x,y)
 | _=>none
theorem Td {op:Op} {t:TypeId} {m x y:Operand} (h:gQ op=some (t,m,x,y)):(op = .mapUpdate t m x y\/op = .insert t m x y)/\∀z∈[m,x,y],z∈op.operands.toList:=by
 unfold gQ at h
 split at h
 ·cases h;exact ⟨.inl rfl,by simp [Op.operands]⟩
 ·cases h;exact ⟨.inr rfl,by simp [Op.operands]⟩
 ·cases h
def pE (tt:TT) (env:Env) (st:St) (todo:List DI):Option (Nat×List (V×V)×Sh×V×V×List DI) :=
 match UO todo with
 | some o=>match o.guard,gQ o.op with
  | none,some (t,m,x,y)=>match o.dst,lk tt t,D2 env m,D2 env x,D2 env y with
   | none,some { sh:=.map kt _,.. },some (.mapr id),some (.imm kx),some dy=>match lk tt kt,lk st id,Bk todo ([id],[id]),mQ dy with
    | some i,some (some (.map kv)),some (_,_,todo'),some vy=>some (id,kv,i.sh,kx,vy,todo')
    | _,_,_,_=>none
   | _,_,_,_,_=>none
  | _,_=>none
 | none=>none
theorem YW (htt:TTok P tt) {i0:Nat} {kv:List (V×V)} {sh:Sh} {kx:V} {dy:V} {todo0:List DI} {dd:TypeDesc} (h:pE tt env st todo=some (i0,kv,sh,kx,dy,todo0)) (hd:Kw sh=some dd) (hk:Jv sh kx=true)
  (hkv:∀p∈kv,Jv sh p.1=true) (hg:G P n F Q todo0 env ((i0,some (.map (Fa kv kx dy)))::st) ids):G P n F Q todo env st ids:=by
 unfold pE at h
 split at h
 ·rename_i o ho
  split at h
  ·rename_i t m x y hgd hop
   split at h
   ·rename_i kt et _ _ _ _ id kx' dy' hdst ht hm hx hy
    split at h
    ·rename_i i kv' all o' todo' vy hi hl h1 hng;cases h;have ho':o'=o:=ER ho h1;subst ho';have hg:G P n F Q todo0 (BE o'.dst .undef env) ((i0,some (.map (Fa kv kx dy)))::st) ids:=by rw [hdst];exact hg
     refine BC (fr:=[]) (wr:=[(i0,some (.map (Fa kv kx dy)))]) (rd:=[i0]) h1 ?_ (by simp [BJ,hdst]) (λc hc=>by rcases (Td hop).1 with e | e <;> rw [e] at hc <;> cases hc) hg;intro I μ st1 ids1 a w hag hst hon;refine ⟨λ_=>?_,λhw=>by rw [AF hgd] at hw;cases hw⟩;have hops:=Bh hon;obtain ⟨hop2,hop3⟩:=Td hop;have hl1:At st1 i0 (.map kv):=by unfold At;rw [hag i0 (by simp)];exact hl
     obtain ⟨b,es,clock,e1,hmu,hheap,hlen,hst2,hent⟩:=ZV hst hl1 (hops m (hop3 m (by simp)) _ hm);have rx:=(hops x (hop3 x (by simp)) _ hx).immInv;have ry:=PK hng (hops y (hop3 y (by simp)) _ hy);have hu:P.underlying t=some (.map kt et):=htt.sh ht;have hkd:P.underlying kt=some dd:=Oe hd (htt.sh hi);have hik:=IG hd hk rx;have hbl:=BU hheap;have fin:∀(es':Array MapEntry) (c':Nat),(Instr.mapUpdate t (.map (some b)) (a.eval x) (a.eval y)).run P w = .ok () { w with heap:=w.heap.setIfInBounds b (.map es' c') }->es'.size=(Fa kv kx dy).length->Stamped es' c' ->
       (∀(i:Nat) (e:MapEntry) (p:V×V),es'[i]?=some e->(Fa kv kx dy)[i]?=some p->RepV I e.key p.1/\RepV I e.val p.2) ->
       valX P ((execOp a.eval o').run P w) (λv w'=>∃I' μ',StRep I' μ' ([(i0,some (.map (Fa kv kx dy)))]++st1) ids1 w'/\RepD I' μ' v .undef/\μ.le μ'/\Ext I μ st1 w I' μ' ([(i0,some (.map (Fa kv kx dy)))]++st1) w') (Ld (M5 Q) I μ st1 w):=by
      intro es' c' hr h2 h3 h4;have hrun:(execOp a.eval o').run P w = .ok .skip { w with heap:=w.heap.setIfInBounds b (.map es' c') }:=by
       rcases hop2 with e | e <;> (simp only [execOp,e,e1];simp [hr])
      rw [hrun];obtain ⟨q1,q2⟩:=hst.update (blk':=.map (Fa kv kx dy)) (w':={ w with heap:=w.heap.setIfInBounds b (.map es' c') }) hl1 hmu (by rw [e1];rfl) (by simp) rfl rfl rfl
       (λk hk=>Array.getElem?_setIfInBounds_ne (Ne.symm hk)) ⟨b,es',c',e1,by simp [hbl],h2,h3,h4⟩
      exact ⟨I,μ,q1,.undef _,Mu.le_refl μ,q2⟩
     rcases MX (I:=I) hd hk rx es.toList kv 0 (by simpa using hlen) (λj e p h1 h2=>hent j e p (by simpa using h1) h2) hkv with ⟨q1,_,q3,q4⟩ | ⟨j,e,y',q1,q2,q3,_,q5,q6⟩
     ·refine fin _ _ ?_ (by rw [q3];simp [hlen]) (stamped_push hst2 (key:=a.eval x) (val:=a.eval y) q4) λi e p h1 h2=>?_
      ·simp [Instr.mapUpdate,run_underlying hu,MapKept.run_getObj_map hheap,MapKept.run_checkKey hkd hik,MapKept.run_findKey hkd q1,MapKept.run_setObj_map _ hheap,Result.andThen]
      ·rw [q3] at h2;rw [Array.getElem?_push] at h1;rw [List.getElem?_append] at h2;by_cases hi:i=es.size
       ·rw [if_pos hi] at h1;cases h1;rw [if_neg (by omega)] at h2;rw [show i-kv.length=0 by omega] at h2;cases h2;exact ⟨rx,ry⟩
       ·rw [if_neg hi] at h1;have:=(Array.getElem?_eq_some_iff.1 h1).1;rw [if_pos (by omega)] at h2;exact hent i e p h1 h2
     ·have hj:es[j]?=some e:=by simpa using q2
      have hkey:∀e',es[j]?=some e'->({ e' with key:=a.eval x,val:=a.eval y }:MapEntry).key=e'.key:=λe' he'=>by rw [hj] at he';cases he';exact q3.symm
      refine fin (es.modify j λe=>{ e with key:=a.eval x,val:=a.eval y }) clock ?_ (by rw [q6];simp [hlen]) (stamped_modify hst2 _ _ (λ_ _=>rfl) (λe' _ he'=>hkey e' he')) λi e' p h1 h2=>?_
      ·simp [Instr.mapUpdate,run_underlying hu,MapKept.run_getObj_map hheap,MapKept.run_checkKey hkd hik,MapKept.run_findKey hkd q1,hj,q3,MapKept.run_keyThatStays hik,MapKept.run_setObj_map _ hheap,Result.andThen]
      ·rw [q6] at h2;rw [Array.getElem?_modify] at h1;rw [List.getElem?_set] at h2;by_cases hi:j=i
       ·subst hi;rw [if_pos rfl,hj] at h1;cases h1;rw [if_pos rfl] at h2
        split at h2
        ·cases h2;exact ⟨rx,ry⟩
        ·cases h2
       ·rw [if_neg hi] at h1 h2;exact hent i e' p h1 h2
    ·cases h
   ·cases h
  ·cases h
 ·cases h
structure PMl where
 kv:List (V×V)
 sh:Sh
 kx:V
 et:TypeId
 two:Bool
 g:Option (Bool×Bool)
 ob:List Prop
 t:Nat
 todo:List DI
def iQ (tt:TT) (n:Nat) (env:Env) (st:St) (nm:Nat) (todo:List DI):Option PMl :=
 match Bk todo ([nm],[]) with
 | some (all,o,todo')=>match o.op,Ct all env o with
  | .lookup t m k two,some g=>match lk tt t,Lb (An g) env m,Lb (An g) env k with
   | some { sh:=.map kt et,.. },some (.mapr id,o1),some (.imm kx,o2)=>match Nat.beq id nm,lk tt kt,lk st id,BJ n o.dst with
    | true,some i,some (some (.map kv)),true=>match o.dst with
     | some t=>some ⟨kv,i.sh,kx,et,two,g,Iv o1 o2,t,todo'⟩
     | none=>none
    | _,_,_,_=>none
   | _,_,_=>none
  | _,_=>none
 | none=>none
theorem FI {t:TypeId} {z:Value} (h:(P.info? t).bind (·.zero)=some z):(zeroValue t).run P w = .ok z w:=by
 cases hi:P.info? t with
 | none=>rw [hi] at h;cases h
 | some inf =>
  rw [hi] at h;have h:inf.zero=some z:=h;simp [zeroValue,typeInfo,hi,h]
def Ep (two:Bool) (kv:List (V×V)) (x:V) (zd:V):D :=
 let r:=match C7 kv x with
  | some y=>(y,true)
  | none=>(zd,false)
 if two then .imm (.tup [r.1,.bool r.2]) else .imm r.1
theorem aE (htt:TTok P tt) (nm:Nat) {kv:List (V×V)} {sh:Sh} {kx:V} {et:TypeId} {two:Bool} {g:Option (Bool×Bool)} {ob:List Prop} {t0:Nat} {todo0:List DI} {dd:TypeDesc} {z:Value} {zd:V} {dr:D}
  (h:iQ tt n env st nm todo=some ⟨kv,sh,kx,et,two,g,ob,t0,todo0⟩) (hd:Kw sh=some dd) (hk:Jv sh kx=true) (hkv:∀p∈kv,Jv sh p.1=true) (hob:AA ob)
  (hz:(P.info? et).bind (·.zero)=some z) (hzr:∀I,RepV I z zd) (hdr:Ep two kv kx zd=dr) (hg:G P n F Q todo0 ((t0,gD g dr)::env) st ids):G P n F Q todo env st ids:=by
 unfold iQ at h
 split at h
 ·rename_i all o todo' h1
  split at h
  ·rename_i t m k two' g' hop hgd
   split at h
   ·rename_i kt et' _ _ _ _ id o1 kx' o2 ht hm hx
    split at h
    ·rename_i i kv' hid hi hl hdo
     split at h
     ·rename_i t' hdst;cases h;have hid:=Nat.eq_of_beq_eq_true hid;subst hid;subst hdr;have hg:G P n F Q todo0 (BE o.dst (gD g (Ep two kv kx zd)) env) st ids:=by rw [hdst];exact hg
      refine BC (fr:=[]) (wr:=[]) (rd:=[id]) h1 (CT hgd λI μ st1 ids1 a w hag hst hops hcx=>?_) hdo (λc hc=>by rw [hop] at hc;cases hc) hg;rw [hop] at hops;obtain ⟨ho1,ho2⟩:=Bo hob;have rm:=CE hm ho1 hcx (hops m (by simp [Op.operands]));have rx:=(CE hx ho2 hcx (hops k (by simp [Op.operands]))).immInv;have hl1:At st1 id (.map kv):=by unfold At;rw [hag id (by simp)];exact hl
      obtain ⟨b,es,clock,e1,hmu,hheap,hlen,hst2,hent⟩:=ZV hst hl1 rm;have hu:P.underlying t=some (.map kt et):=htt.sh ht;have hkd:P.underlying kt=some dd:=Oe hd (htt.sh hi);have hik:=IG hd hk rx;have fin:∀(v:Value) (ok:Bool) (d:V),(Instr.lookup t (.map (some b)) (a.eval k) two).run P w = .ok (if two then .tuple #[v,.bool ok] else v) w->RepV I v d ->
        Ep two kv kx zd=(if two then .imm (.tup [d,.bool ok]) else .imm d) ->
        valX P ((execOp a.eval o).run P w) (λu w'=>∃I' μ',StRep I' μ' st1 ids1 w'/\RepD I' μ' u (Ep two kv kx zd)/\μ.le μ'/\Ext I μ st1 w I' μ' st1 w') (Ld (M5 Q) I μ st1 w):=by
       intro v ok d hr hv he;have hrun:(execOp a.eval o).run P w = .ok (.value (if two then .tuple #[v,.bool ok] else v)) w:=by
        simp only [execOp,hop,e1];exact A4 hr
       rw [hrun];refine ⟨I,μ,hst,?_,Mu.le_refl μ,Ext.refl _ _ _ _⟩;rw [he];cases two with
       | false=>exact .imm _ _ hv
       | true =>
        refine .imm _ _ (.tup _ _ rfl λi c x hc hx=>?_)
        match i,hc,hx with
        | 0,hc,hx=>cases hc;cases hx;exact hv
        | 1,hc,hx=>cases hc;cases hx;exact .bool _
        | i+2,hc,hx=>simp at hx
      rcases MX (I:=I) hd hk rx es.toList kv 0 (by simpa using hlen) (λj e p h1 h2=>hent j e p (by simpa using h1) h2) hkv with ⟨q1,q2,_,_⟩ | ⟨j,e,y',q1,q2,q3,q4,q5,q6⟩
      ·refine fin z false zd ?_ (hzr I) (by simp [Ep,q2]);simp [Instr.lookup,run_underlying hu,MapKept.run_getObj_map hheap,MapKept.run_checkKey hkd hik,MapKept.run_findKey hkd q1,FI hz,Result.andThen]
      ·refine fin e.val true y' ?_ q5 (by simp [Ep,q4]);simp [Instr.lookup,run_underlying hu,MapKept.run_getObj_map hheap,MapKept.run_checkKey hkd hik,MapKept.run_findKey hkd q1,Result.andThen]
     ·cases h
    ·cases h
   ·cases h
  ·cases h
 ·cases h
end
end Go.Hk
namespace Go.Hk
mutual
def Rc (id:Nat) (es:List (V×V)):D->D
 | .mapr i=>bif Nat.beq i id then .imm (.mapv es) else .mapr i
 | .agg cs=>I9 (Sz id es cs)
 | .tup cs=>.tup (Sz id es cs)
 | .fn f a b=>.fn f (Sz id es a) (Sz id es b)
 | .iface t d=>match Rc id es d with
  | .imm x=>.imm (.iface t x)
  | d'=>.iface t d'
 | .guard c w d=>.guard c w (Rc id es d)
 | d=>d
def Sz (id:Nat) (es:List (V×V)):List D->List D
 | []=>[]
 | d::r=>Rc id es d::Sz id es r
end
def cW (id:Nat) (es:List (V×V)):Env->Env
 | []=>[]
 | (t,d)::r=>(t,Rc id es d)::cW id es r
def nG (id:Nat) (es:List (V×V)):Blk->Blk
 | .cells t sz cs=>OO t sz (Sz id es cs)
 | b=>b
def Sy (id:Nat) (es:List (V×V)):St->St
 | []=>[]
 | (i,some b)::r=>(i,some (nG id es b))::Sy id es r
 | (i,none)::r=>(i,none)::Sy id es r
theorem GL (id:Nat) (es:List (V×V)):∀l:List D,Sz id es l=l.map (Rc id es)
 | []=>rfl
 | d::r=>by simp [Sz,GL id es r]
section
variable {P:Program} {n:Nat} {F:List Nat} {Q:DQ} {tt:TT} {env:Env} {st:St} {ids:List Nat} {todo:List DI} {I J:Imm} {μ:Mu} {w:World} {id:Nat} {es:List (V×V)} {g:Value}
theorem RepD.mfr {v:Value} {d:D} (h:RepD I μ v d) (hIJ:I.le J) (hg:μ id=some g) (hr:RepV J g (.mapv es)):RepD J μ v (Rc id es d):=by
 have at_:∀{l:List D} {i:Nat} {x:D},(Sz id es l)[i]?=some x->∃y,l[i]?=some y/\x=Rc id es y:=by
  intro l i x hx;rw [GL,List.getElem?_map] at hx;cases hl:l[i]? with
  | none=>rw [hl] at hx;cases hx
  | some y=>rw [hl] at hx;cases hx;exact ⟨y,rfl,rfl⟩
 induction h with
 | undef v=>exact .undef v
 | imm v x hx=>exact .imm v x (hx.mono hIJ)
 | nils=>exact .nils
 | ref b id off hm=>exact .ref b id off hm
 | ip b o t cs off vs hcell hrep=>exact (RepD.ip b o t cs off vs hcell hrep).mono hIJ (Mu.le_refl μ)
 | agg cs ds hl h1 _ ih =>
  have:RepD J μ (.agg cs.toList.toArray) (I9 (Sz id es ds)):=I8 ⟨by rw [GL,List.length_map,<- hl];simp,λi c x hc hx=>by
   obtain ⟨y,hy,rfl⟩:=at_ hx;exact ih i c y (by simpa using hc) hy⟩ h1
  simpa [Rc] using this
 | tup cs ds hl _ ih =>
  refine .tup cs _ (by rw [GL,List.length_map,hl]) λi c x hc hx=>?_;obtain ⟨y,hy,rfl⟩:=at_ hx;exact ih i c y hc hy
 | own i len a cap hm=>exact .own i len a cap hm
 | elp b id len cap k sz f hm=>exact .elp b id len cap k sz f hm
 | mapr i b hm =>
  simp only [Rc];cases hb:Nat.beq i id with
  | false=>exact .mapr i b hm
  | true =>
   rw [Nat.eq_of_beq_eq_true hb,hg] at hm;cases hm;exact .imm _ _ hr
 | iter id b hm=>exact .iter id b hm
 | fn f first cap df dc hf hc _ _ ih1 ih2 =>
  refine .fn f first cap _ _ (by rw [GL,List.length_map,hf]) (by rw [GL,List.length_map,hc]) (λi c x h1 h2=>?_) (λi c x h1 h2=>?_)
  ·obtain ⟨y,hy,rfl⟩:=at_ h2;exact ih1 i c y h1 hy
  ·obtain ⟨y,hy,rfl⟩:=at_ h2;exact ih2 i c y h1 hy
 | iface t v d _ ih =>
  simp only [Rc]
  split
  ·rename_i x hx;rw [hx] at ih;exact .imm _ _ (.iface t v x ih.immInv)
  ·exact .iface t v _ ih
 | guard c want v d _ hu ih=>exact .guard c want v _ ih hu
 | clip a len es hr=>exact .clip a len es (hr.mono hIJ)
 | slc b id off len cap hm hl hx=>exact .slc b id off len cap hm hl hx
 | yld b id hm=>exact .yld b id hm
 | raw v h=>exact .raw v h
 | hv v id i vs bs hm hi h1=>exact .hv v id i vs bs hm hi h1
theorem BlkRep.mfr {gb:Value} {blk:Blk} (h:BlkRep I μ w gb blk) (hIJ:I.le J) (hg:μ id=some g) (hr:RepV J g (.mapv es)):BlkRep J μ w gb (nG id es blk):=by
 cases blk with
 | cells t sz cs =>
  obtain ⟨hs,b,vs,rfl,h2,h3,h4⟩:=h;refine GY h2 ⟨by rw [GL,List.length_map,h3.1],λi v x hv hx=>?_⟩ h4 (by rw [GL,List.length_map,hs]);rw [GL,List.getElem?_map] at hx;cases hl:cs[i]? with
  | none=>rw [hl] at hx;cases hx
  | some y=>rw [hl] at hx;cases hx;exact (h3.2 i v y hv hl).mfr hIJ hg hr
 | _=>exact h.mono hIJ (Mu.le_refl μ)
theorem NQ {i:Nat} {b:Blk}:∀{st:St},At (Sy id es st) i b->∃b0,At st i b0/\b=nG id es b0
 | [],h=>by simp [Sy,At,lk] at h
 | (k,some x)::r,h=>by
  simp only [Sy] at h;rcases A7.1 h with ⟨h1,h2⟩ | ⟨h1,h2⟩
  ·exact ⟨x,by unfold At;rw [h1,Aw],h2⟩
  ·obtain ⟨b0,q1,q2⟩:=NQ h2;exact ⟨b0,A7.2 (.inr ⟨h1,q1⟩),q2⟩
 | (k,none)::r,h=>by
  simp only [Sy] at h;obtain ⟨h1,h2⟩:=BB.1 h;obtain ⟨b0,q1,q2⟩:=NQ h2;exact ⟨b0,BB.2 ⟨h1,q1⟩,q2⟩
theorem Po (id:Nat) (hl:lk st id=some (some (.map es))) (h:DGo P n F Q todo (cW id es env) ((id,none)::Sy id es st) ids):DGo P n F Q todo env st ids:=by
 intro b cs I μ a w items hd hc;have hlive:At st id (.map es):=hl;obtain ⟨g,hg,gb,ms,clock,rfl,hheap,hsz,hstm,hent⟩:=hc.blk id _ hlive;have hno:=(hc.apart id _ _ gb hlive hg rfl).1;obtain ⟨J,hJ,hJr,hJo⟩:∃J:Imm,I.le J/\RepV J (.map (some gb)) (.mapv es)/\(∀k o,J k=some o->(I k=some o\/(Dl (.map (some gb)) k/\w.heap[k]?=some o))):=by
  have hle':I.le (λk=>if k=gb then some (.map ms clock) else I k):=λk o h=>by
   have:k≠gb:=λe=>by rw [e,hno] at h;cases h
   simp [this,h]
  refine ⟨_,hle',.mapv gb ms clock es (by simp) hsz hstm (λi e p h1 h2=>(hent i e p h1 h2).1.mono hle') (λi e p h1 h2=>(hent i e p h1 h2).2.mono hle'),λk o h=>?_⟩;by_cases hk:k=gb
  ·subst hk;simp at h;subst h;exact .inr ⟨rfl,hheap⟩
  ·simp [hk] at h;exact .inl h
 have hst:∀i bi,At ((id,none)::Sy id es st) i bi->i≠id/\∃b0,At st i b0/\bi=nG id es b0:=λi bi h=>by
  obtain ⟨h1,h2⟩:=BB.1 h;exact ⟨h1,NQ h2⟩
 have hE:Ext I μ st w J μ ((id,none)::Sy id es st) w :=
  {imm:=hJ,os:=rfl,tape:=rfl,output:=rfl,size:=Nat.le_refl _
   block:=λ_ _ _=>rfl
   fresh:=λk _ ⟨i,bi,gi,h1,h2,h3⟩=>let ⟨_,b0,q,_⟩:=hst i bi h1;⟨i,b0,gi,q,h2,h3⟩
   old:=λk _ ho=>by
      cases hJk:J k with
      | none =>
       cases hIk:I k with
       | none=>rfl
       | some o=>rw [hJ k o hIk] at hJk;cases hJk
      | some o =>
       rcases hJo k o hJk with h | ⟨h,_⟩
       ·exact h.symm
       ·exact absurd ⟨id,_,_,hlive,hg,h⟩ ho }
 have hc':Conc n J μ (cW id es env) ((id,none)::Sy id es st) ids a w :=
  {imm:=λk o h=>(hJo k o h).elim (λh=>hc.imm k o h) λh=>h.2
   blk:=λi bi hli=>by
    obtain ⟨_,b0,h2,rfl⟩:=hst i bi hli;obtain ⟨gi,hgi,hr⟩:=hc.blk i b0 h2;exact ⟨gi,hgi,hr.mfr hJ hg hJr⟩
   apart:=λi bi gi k hli hgi hk=>by
    obtain ⟨h1,b0,h2,rfl⟩:=hst i bi hli;obtain ⟨q1,q2⟩:=hc.apart i b0 gi k h2 hgi hk;refine ⟨?_,q2⟩;cases hJk:J k with
    | none=>rfl
    | some o =>
     rcases hJo k o hJk with h | ⟨h,_⟩
     ·rw [q1] at h;cases h
     ·exact absurd (hc.inj i id b0 _ gi _ k h2 hlive hgi hg hk h) h1
   inj:=λi j bi bj gi gj k hi hj hgi hgj hki hkj=>by
    obtain ⟨_,b1,h1,rfl⟩:=hst i bi hi;obtain ⟨_,b2,h2,rfl⟩:=hst j bj hj;exact hc.inj i j b1 b2 gi gj k h1 h2 hgi hgj hki hkj
   nodup:=hc.nodup
   idsFree:=hc.idsFree
   size:=hc.size
   env:=λt d hlt=>by
    have:∀{env:Env},lk (cW id es env) t=some d->∃d0,lk env t=some d0/\d=Rc id es d0:=by
     intro env
     induction env with
     | nil=>intro h;simp [cW,lk] at h
     | cons p r ih =>
      obtain ⟨s,x⟩:=p;intro h;simp only [cW] at h;by_cases hs:s=t
      ·subst hs;rw [Aw] at h;cases h;exact ⟨x,Aw _ _ _,rfl⟩
      ·rw [A6 _ _ hs] at h;rw [A6 _ _ hs];exact ih h
    obtain ⟨d0,h1,rfl⟩:=this hlt;exact (hc.env t d0 h1).mfr hJ hg hJr
   defers:=hc.defers.ext hE }
 refine (h b cs J μ a w items hd hc').mono λe' a' w' hp=>hp.back (.refl _ _) ?_;exact hE
def ZE (tt:TT) (n:Nat) (env:Env) (todo:List DI):Option PMl :=
 match Bk todo ([],[]) with
 | some (all,o,todo')=>match o.op,Ct all env o with
  | .lookup t m k two,some g=>match lk tt t,Lb (An g) env m,Lb (An g) env k with
   | some { sh:=.map kt et,.. },some (.imm (.mapv kv),o1),some (.imm kx,o2)=>match lk tt kt,BJ n o.dst with
    | some i,true=>match o.dst with
     | some t=>some ⟨kv,i.sh,kx,et,two,g,Iv o1 o2,t,todo'⟩
     | none=>none
    | _,_=>none
   | _,_,_=>none
  | _,_=>none
 | none=>none
theorem Gs (htt:TTok P tt) {kv:List (V×V)} {sh:Sh} {kx:V} {et:TypeId} {two:Bool} {g:Option (Bool×Bool)} {ob:List Prop} {t0:Nat} {todo0:List DI} {dd:TypeDesc} {z:Value} {zd:V} {dr:D}
  (h:ZE tt n env todo=some ⟨kv,sh,kx,et,two,g,ob,t0,todo0⟩) (hd:Kw sh=some dd) (hk:Jv sh kx=true) (hkv:∀p∈kv,Jv sh p.1=true) (hob:AA ob)
  (hz:(P.info? et).bind (·.zero)=some z) (hzr:∀I,RepV I z zd) (hdr:Ep two kv kx zd=dr) (hg:G P n F Q todo0 ((t0,gD g dr)::env) st ids):G P n F Q todo env st ids:=by
 unfold ZE at h
 split at h
 ·rename_i all o todo' h1
  split at h
  ·rename_i t m k two' g' hop hgd
   split at h
   ·rename_i kt et' _ _ _ _ kv' o1 kx' o2 ht hm hx
    split at h
    ·rename_i i hi hdo
     split at h
     ·rename_i t' hdst;cases h;subst hdr;have hg:G P n F Q todo0 (BE o.dst (gD g (Ep two kv kx zd)) env) st ids:=by rw [hdst];exact hg
      refine BC (fr:=[]) (wr:=[]) (rd:=[]) h1 (CT hgd λI μ st1 ids1 a w hag hst hops hcx=>?_) hdo (λc hc=>by rw [hop] at hc;cases hc) hg;rw [hop] at hops;obtain ⟨ho1,ho2⟩:=Bo hob;have rm:=CE hm ho1 hcx (hops m (by simp [Op.operands]));have rx:=(CE hx ho2 hcx (hops k (by simp [Op.operands]))).immInv;obtain ⟨b,es,clock,e1,hheap,hlen,hst2,hent⟩:∃b es clock,a.eval m = .map (some b)/\w.heap[b]?=some (.map es clock)/\es.size=kv.length/\MapKept.Stamped es clock/\∀(i:Nat) (e:MapEntry) (p:V×V),es[i]?=some e->kv[i]?=some p->RepV I e.key p.1/\RepV I e.val p.2:=by
       have rm:=rm.immInv;generalize a.eval m=vm at rm;cases rm with
       | mapv b es clock _ q1 q2 q3 q4 q5=>exact ⟨b,es,clock,rfl,hst.imm _ _ q1,q2,q3,λi e p h1 h2=>⟨q4 i e p h1 h2,q5 i e p h1 h2⟩⟩
      have hu:P.underlying t=some (.map kt et):=htt.sh ht;have hkd:P.underlying kt=some dd:=Oe hd (htt.sh hi);have hik:=IG hd hk rx;have fin:∀(v:Value) (ok:Bool) (d:V),(Instr.lookup t (.map (some b)) (a.eval k) two).run P w = .ok (if two then .tuple #[v,.bool ok] else v) w->RepV I v d ->
        Ep two kv kx zd=(if two then .imm (.tup [d,.bool ok]) else .imm d) ->
        valX P ((execOp a.eval o).run P w) (λu w'=>∃I' μ',StRep I' μ' st1 ids1 w'/\RepD I' μ' u (Ep two kv kx zd)/\μ.le μ'/\Ext I μ st1 w I' μ' st1 w') (Ld (M5 Q) I μ st1 w):=by
       intro v ok d hr hv he;have hrun:(execOp a.eval o).run P w = .ok (.value (if two then .tuple #[v,.bool ok] else v)) w:=by
        simp only [execOp,hop,e1];exact A4 hr
       rw [hrun];refine ⟨I,μ,hst,?_,Mu.le_refl μ,Ext.refl _ _ _ _⟩;rw [he];cases two with
       | false=>exact .imm _ _ hv
       | true =>
        refine .imm _ _ (.tup _ _ rfl λi c x hc hx=>?_)
        match i,hc,hx with
        | 0,hc,hx=>cases hc;cases hx;exact hv
        | 1,hc,hx=>cases hc;cases hx;exact .bool _
        | i+2,hc,hx=>simp at hx
      rcases MX (I:=I) hd hk rx es.toList kv 0 (by simpa using hlen) (λj e p h1 h2=>hent j e p (by simpa using h1) h2) hkv with ⟨q1,q2,_,_⟩ | ⟨j,e,y',q1,q2,q3,q4,q5,q6⟩
      ·refine fin z false zd ?_ (hzr I) (by simp [Ep,q2]);simp [Instr.lookup,run_underlying hu,MapKept.run_getObj_map hheap,MapKept.run_checkKey hkd hik,MapKept.run_findKey hkd q1,FI hz,Result.andThen]
      ·refine fin e.val true y' ?_ q5 (by simp [Ep,q4]);simp [Instr.lookup,run_underlying hu,MapKept.run_getObj_map hheap,MapKept.run_checkKey hkd hik,MapKept.run_findKey hkd q1,Result.andThen]
     ·cases h
    ·cases h
   ·cases h
  ·cases h
 ·cases h
def sU:List V->List D
 | []=>[]
 | .ip t cs off::r=>.ip t cs off::sU r
 | x::r=>.imm x::sU r
theorem ZX:∀{xs:List Value} {vs:List V},RepL I μ xs (vs.map .imm)->RepL I μ xs (sU vs)
 | [],[],h=>h
 | [],v::vs,h=>absurd h.1 (by simp)
 | x::xs,[],h=>absurd h.1 (by simp)
 | x::xs,v::vs,h=>by
  obtain ⟨h1,h2⟩:=(show RepL I μ (x::xs) (.imm v::vs.map .imm) from h).cons;have:=ZX h2;cases v with
  | ip t cs off=>exact .mk h1.immInv.ipD this
  | _=>exact .mk h1 this
theorem PP {f:FuncId} {vs:List V} {v:V} (h:Bg P f (sU vs) [] (.ret (.imm v) [])):Ak P f vs v:=λI μ w xs hst hx=>h I μ w xs hst (ZX hx)
def iV (n:Nat) (env:Env) (todo:List DI):Option bC :=
 match Bk todo ([],[]) with
 | some (all,o,todo')=>match o.op,Ct all env o with
  | .call { callee:=.value (.tmp t),args:=⟨args⟩,.. },some g=>match lk env t,Ir (An g) env args with
   | some (.imm (.clo (.func f) a b)),some (ds,ob)=>match L8 ds,BJ n o.dst with
    | some vs,true=>match o.dst with
     | some t=>some ⟨f,a++vs++b,g,ob,some t,todo'⟩
     | none=>some ⟨f,a++vs++b,g,ob,none,todo'⟩
    | _,_=>none
   | _,_=>none
  | _,_=>none
 | none=>none
theorem Qu:∀l:List V,L8 (l.map .imm)=some l
 | []=>rfl
 | x::r=>by simp [L8,mQ,Qu r]
theorem JM:∀{a b:List D} {xs ys:List V},L8 a=some xs->L8 b=some ys->L8 (a++b)=some (xs++ys)
 | [],b,xs,ys,h1,h2=>by cases h1;exact h2
 | d::r,b,xs,ys,h1,h2=>by
  simp only [L8] at h1
  split at h1
  ·rename_i x xs' hx hr;cases h1;simp [L8,hx,JM hr h2]
  ·cases h1
theorem MR {f:FuncId} {vs:List V} {g:Option (Bool×Bool)} {ob:List Prop} {dst:Option Nat} {todo':List DI} {v:V} (h:iV n env todo=some ⟨f,vs,g,ob,dst,todo'⟩) (hE:An g->Ak P f vs v) (hob:AA ob)
  (hk:G P n F Q todo' (BE dst (gD g (.imm v)) env) st ids):G P n F Q todo env st ids:=by
 unfold iV at h
 split at h
 ·rename_i all o todo1 h1;have hnd:∀cc,o.op = .call cc->∀c,o.op ≠ .defer c:=λcc h c h'=>by rw [h] at h';cases h'
  split at h
  ·rename_i t args ts g' ho hg
   split at h
   ·rename_i f' a b ds ob' ht ha
    split at h
    ·rename_i vs' hv hd;have fin:f'=f/\a++vs'++b=vs/\g'=g/\ob'=ob/\o.dst=dst/\todo1=todo':=by
      split at h <;> (rename_i hdst;cases h;exact ⟨rfl,rfl,rfl,rfl,hdst,rfl⟩)
     obtain ⟨rfl,rfl,rfl,rfl,rfl,rfl⟩:=fin;exact BC (fr:=[]) (wr:=[]) h1 (PS hg (Pu ho ht ha hob) (JM (JM (Qu a) hv) (Qu b)) hE) hd (hnd _ ho) hk
    ·cases h
   ·cases h
  ·cases h
 ·cases h
end
end Go.Hk
namespace Go.Hk
open Go.Proofs
def mO:TT:=mP++[
 (53,⟨.sl 87,false,1,24,[.nils]⟩),
 (87,⟨.struct [(0,9),(1,46)],true,5,72,[.imm (.str []),.imm (.int .i64 0),.imm (.int .i64 0),.imm (.str []),.nils]⟩),
 (150,⟨.struct [(0,29),(6,147),(7,148),(8,32)],true,9,144,[.nils,.imm (.int .i64 0),.imm (.int .i64 0),.imm (.str []),.nils,.nils,.imm .nilmap,.imm .nilmap,.nils]⟩),
 (122,⟨.struct [(0,44),(1,3),(2,9)],true,3,32,[.imm (.int .i64 0),.imm (.int .i64 0),.imm (.str [])]⟩),
 (207,⟨.struct [(0,3),(1,3)],true,2,16,[.imm (.int .i64 0),.imm (.int .i64 0)]⟩),
 (147,⟨.map 9 3,false,1,8,[.imm .nilmap]⟩),
 (148,⟨.map 9 207,false,1,8,[.imm .nilmap]⟩),
 (32,⟨.sl 3,false,1,24,[.nils]⟩),
 (89,⟨.ptr 150,false,1,8,[.imm .nilp]⟩),
 (99,⟨.func,false,1,8,[.imm .nilfn]⟩),
 (232,⟨.func,false,1,8,[.imm .nilfn]⟩),
 (190,⟨.func,false,1,8,[.imm .nilfn]⟩),
 (137,⟨.func,false,1,8,[.imm .nilfn]⟩)]
theorem AH:TTok Tryz.prog mO:=.of_eq (l:=[4,3,9,165,26,69,162,27,5,24,23,172,163,67,167,171,75,22,169,72,70,37,46,44,33,29,53,87,150,122,207,147,148,32,89,99,232,190,137]) (by kernel_rfl)
section
variable {n:Nat} {F:List Nat} {Q:DQ} {env env':Env} {st st':St} {ids ids':List Nat} {k todo:List DI} {ob:List Prop}
theorem bd (path:List Pt) (h:run mO n 300 path todo env st ids [] = .at k env' st' ids' ob) (hob:AA ob) (hd:G Tryz.prog n F Q k env' st' ids'):DGo Tryz.prog n F Q todo env st ids:=Lv AH EV 300 path h hob hd
theorem A8 (h:run mO n 300 [] todo env st ids [] = .at k env' st' ids' ob) (hd:G Tryz.prog n F Q k env' st' ids') (hob:AA ob:=by simp):DGo Tryz.prog n F Q todo env st ids:=bd [] h hob hd
theorem GA (h:run mO n 300 [] todo env st ids [] = .at k env' st' ids' ob) (hd:G Tryz.prog n F Q k env' st' ids') (hob:AA ob:=by simp [An]):DGo Tryz.prog n F Q todo env st ids:=bd [] h hob hd
theorem bg (path:List Pt) (h:run mO n 300 path todo env st ids [] = .at k env' st' ids' ob) (hob:AA ob) (hd:G Tryz.prog n F Q k env' st' ids'):G Tryz.prog n F Q todo env st ids:=Ks AH EV 300 path h hob hd
theorem AZ (h:run mO n 300 [] todo env st ids [] = .at k env' st' ids' ob) (hd:G Tryz.prog n F Q k env' st' ids') (hob:AA ob:=by simp):G Tryz.prog n F Q todo env st ids:=bg [] h hob hd
theorem DO (h:run mO n 300 [] todo env st ids [] = .at k env' st' ids' ob) (hd:G Tryz.prog n F Q k env' st' ids') (hob:AA ob:=by simp [An]):G Tryz.prog n F Q todo env st ids:=bg [] h hob hd
theorem bi {es:List (List V)} {m:Int} {sz:Nat} {e:TypeId} {g:Option (Bool×Bool)} {ob:List Prop} {t:Nat} {todo':List DI} {c:List V} (h:P7 mO n env todo=some ⟨es,m,sz,e,g,ob,some t,todo'⟩)
  (hc:An g->0<=m/\es[m.toNat]?=some c/\c.length=sz) (hob:AA ob) (hk:G Tryz.prog n F Q todo' ((t,gD g (.ip e c 0))::env) st ids):G Tryz.prog n F Q todo env st ids:=Gg AH h hc hob hk
end
def Br:Ty->List Ty
 | .mk _ _ _ ps=>ps
def Nc (b:Str×Ty):List V:=.str b.1::dTyc b.2
@[simp] theorem dBind_length (b:Str×Ty):(Nc b).length=5:=by simp [Nc]
def BS (l:List (Str×Ty)):List (List V):=l.map Nc
@[simp] theorem dBinds_length (l:List (Str×Ty)):(BS l).length=l.length:=by simp [BS]
theorem mH (a b:List (Str×Ty)):BS (a++b)=BS a++BS b:=by simp [BS]
mutual
def AY:Ty->Ty->List (Str×Ty)×Bool
 | .mk f n x ps,v=>if f=1 then ([],true) else if f=2 then ([(x,v)],true) else if AD (AQ (.mk f n x ps)) v=false then ([],false) else Bx ps (Br v)
def Bx:List Ty->List Ty->List (Str×Ty)×Bool
 | [],_=>([],true)
 | _::_,[]=>([],true)
 | p::r,q::s=>bif (AY p q).2&&(Bx r s).2 then ((AY p q).1++(Bx r s).1,true) else ([],false)
end
mutual
def M7:Ty->Ty->Bool
 | .mk f n x ps,v=>decide (f=1)||decide (f=2) || !AD (AQ (.mk f n x ps)) v||(decide (ps.length<=(Br v).length)&&M6 ps (Br v))
def M6:List Ty->List Ty->Bool
 | [],_=>true
 | _::_,[]=>true
 | p::r,q::s=>M7 p q&&M6 r s
end
mutual
theorem Re:∀p v:Ty,(AY p v).1.length<=Aj p
 | .mk f n x ps,v=>by
  simp only [AY,Aj];have:=OQ ps (Br v)
  split
  ·simp
  ·split
   ·simp
   ·split <;> simp;omega
theorem OQ:∀ps vs:List Ty,(Bx ps vs).1.length<=Ag ps
 | [],_=>by simp [Bx]
 | _::_,[]=>by simp [Bx]
 | p::r,q::s=>by
  have h1:=Re p q;have h2:=OQ r s;simp only [Bx,Ag];cases (AY p q).2&&(Bx r s).2
  ·simp
  ·simp;omega
end
theorem S3:∀ps vs:List Ty,(Bx ps vs).2=false->(Bx ps vs).1=[]
 | [],_,h=>by simp [Bx] at h
 | _::_,[],h=>by simp [Bx] at h
 | p::r,q::s,h=>by
  simp only [Bx] at h ⊢;cases hc:(AY p q).2&&(Bx r s).2
  ·simp
  ·rw [hc] at h;cases h
theorem UR:∀p v:Ty,(AY p v).2=false->(AY p v).1=[]
 | .mk f n x ps,v,h=>by
  simp only [AY] at h ⊢
  split at h
  ·cases h
  ·split at h
   ·cases h
   ·split at h
    ·simp [*]
    ·rename_i h1 h2 h3;simp only [h1,h2,h3,if_false];exact S3 _ _ h
end Go.Hk
namespace Go.Hk
open Go.Proofs
def B5 (v:Ty):Nat->List Ty->Int
 | _,[]=>-1
 | i,p::r=>bif (AY p v).2 then (i:Int) else B5 v (i+1) r
def Bl:Ty->List V
 | .mk s n x _=>[.int .i64 s,.int .i64 n,.str x]
theorem Mn:∀p:Ty,Ak Tryz.prog 111 [.agg (dTyc p)] (.agg (Bl (AQ p)))
 | .mk s n x ks=>by
  refine Af AH Tryz.func111 (by decide +kernel) rfl [1,2,3] rfl rfl ?_;simp only [AQ];refine AZ rfl ?_;by_cases h3:s=3
  ·subst h3;refine Ai rfl λh=>?_;refine A8 rfl ?_;exact Aa rfl rfl rfl
  rw [if_neg h3];refine Ab rfl (λh=>absurd (by simpa using h) h3) (λh=>?_);clear h;refine A8 rfl ?_;by_cases h4:s=4
  ·subst h4;refine Ai rfl λh=>?_;refine A8 rfl ?_;exact Aa rfl rfl rfl
  rw [if_neg h4];refine Ab rfl (λh=>absurd (by simpa using h) h4) (λh=>?_);clear h;refine A8 rfl ?_;by_cases h5:s=5
  ·subst h5;refine Ai rfl λh=>?_;refine A8 rfl ?_;exact Aa rfl rfl rfl
  rw [if_neg h5];refine Ab rfl (λh=>absurd (by simpa using h) h5) (λh=>?_);clear h;refine A8 rfl ?_;exact Aa rfl rfl rfl
theorem QP:∀v:Ty,Ak Tryz.prog 65 [.agg (dTyc v)] (.agg (Bl v))
 | .mk s n x ks=>by
  refine Af AH Tryz.func65 (by decide +kernel) rfl [1,2,3] rfl rfl ?_;refine AZ rfl ?_;exact Aa rfl rfl rfl
theorem Qv (c:Cse) (r:Int):Ak Tryz.prog 57 [.agg (dCse c),.int .i64 r] (.bool (decide (0<=r)&&decide (r<c.rows.length))):=by
 obtain ⟨ds,⟨s,n,x,ps⟩,rows⟩:=c;refine Af AH Tryz.func57 (by decide +kernel) rfl [1,2,3] rfl rfl ?_;refine DO rfl ?_;refine Aa rfl rfl (congrArg _ ?_);simp
theorem T8:∀p:Ty,Aj p<=1000000->Ak Tryz.prog 88 [.agg (dTyc p)] (.int .i64 (Aj p:Int))
 | .mk s n x ps,hN=>by
  simp only [Aj] at hN;refine AS λhv=>?_;simp [Cx,EM,dTyc,maxLen] at hv;refine Af AH Tryz.func88 (by decide +kernel) rfl [1,2,3] rfl rfl ?_;refine AZ rfl ?_;refine Am (λi:Nat=>[(9,.imm (.int .i64 i)),(8,.imm (.int .i64 ps.length)),(7,.imm (.sl (BQ ps))),(3,.imm (.int .i64 ((1+Ag (ps.take i):Nat):Int)))]) (λ_=>[]) [2,3] (λi=>ps.length-i)
   (λi=>i<=ps.length) 0 (Nat.zero_le _) ⟨rfl,A3 (by simp),rfl,rfl,trivial⟩ trivial rfl λi hi ih=>?_
  refine A8 rfl ?_;refine Ab rfl (λh=>?_) (λh=>?_)
  ·simp at h;obtain ⟨t,ht⟩:=Ap h;have e:Ag (ps.take (i+1))=Ag (ps.take i)+Aj t:=by rw [Bn ht,BA];simp [Ag]
   have hb:=Cc ht;refine A8 rfl ?_;refine bi rfl (c:=dTyc t) (λ_=>⟨by simp,by simpa using A5 ht,by simp⟩) (by simp) ?_;refine AZ rfl ?_;refine Ad rfl (λ_=>T8 t (by omega)) (by simp) ?_;refine AZ rfl ?_;exact Ae (ih (i+1) (by omega) (by omega)) ⟨A3 (BI (by omega) (by omega)),rfl,rfl,A3 (by rw [e,BI (by omega) (by omega)];omega),trivial⟩ trivial rfl
  ·simp at h;refine Ay rfl ?_;refine A8 rfl ?_;rw [List.take_of_length_le (by omega)];refine Aa rfl rfl ?_;simp [Aj]
termination_by p=>SizeOf.sizeOf p
decreasing_by
 have:=List.sizeOf_lt_of_mem (List.mem_of_getElem? ht);simp_wf;omega
theorem Qk:∀(t:Ty) (l d:Int),-9223372036854775808<=l->l<=9223372036854775807 -> -9223372036854775807<=d->d<=9223372036854775807->Ak Tryz.prog 114 [.agg (dTyc t),.int .i64 l,.int .i64 d] (.int .i64 (B8 t l d))
 | .mk op n x ks,l,d,hl0,hl1,hd0,hd1=>by
  refine AS λhv=>?_;simp [Cx,EM,dTyc,maxLen] at hv;refine Af AH Tryz.func114 (by decide +kernel) rfl [1,2,3] rfl rfl ?_;refine DO rfl ?_;refine Ab rfl (λh=>?_) (λh=>?_)
  ·refine A8 rfl ?_;refine Aa rfl rfl (congrArg _ ?_);simp at h;simp only [B8];rw [if_pos (by grind)]
  have h:¬(l<1\/d<1):=by simp at h;grind
  refine A8 rfl ?_;refine Am (λx:Nat×Int=>[(20,.imm (.int .i64 x.1)),(19,.imm (.int .i64 ks.length)),(18,.imm (.sl (BQ ks))),(1,.imm (.int .i64 x.2)),(2,.imm (.int .i64 d))]) (λ_=>[]) [2,3] (λx=>ks.length-x.1)
   (λy=>y.1<=ks.length/\B8 (.mk op n x ks) l d=BV (ks.drop y.1) y.2 (d-1)/\0<=y.2/\y.2<l) (0,l-1)
   ⟨Nat.zero_le _,by simp only [B8,List.drop_zero];rw [if_neg h],by simp only;omega,by simp only;omega⟩ ⟨rfl,A3 (by simp),rfl,A3 (BI (by omega) (by omega)),rfl,trivial⟩ trivial rfl λy hi ih=>?_
  obtain ⟨i,m⟩:=y;obtain ⟨hi1,hi2,hi3,hi4⟩:=hi;simp only at hi1 hi2 hi3 hi4;refine A8 rfl ?_;refine Ab rfl (λh=>?_) (λh=>?_)
  ·simp at h;obtain ⟨t,ht⟩:=Ap (l:=ks) (i:=i) (by omega);rw [Av ht] at hi2;simp only [BV] at hi2;rw [if_pos hi3] at hi2;refine A8 rfl ?_;refine bi rfl (c:=dTyc t) (λ_=>⟨by simp,by simpa using A5 ht,by simp⟩) (by simp) ?_;refine AZ rfl ?_;have hw:IntKind.i64.wrap (d-1)=d-1:=BI (by omega) (by omega);refine Ad rfl (v:=.int .i64 (B8 t m (d-1))) (λ_=>by rw [hw];exact Qk t m (d-1) (by omega) (by omega) (by omega) (by omega)) (by simp) ?_;refine AZ rfl ?_;have hb:=Iw t m (d-1);refine Ab rfl (λh'=>?_) (λh'=>?_)
   ·simp at h';refine Ay rfl ?_;refine A8 rfl ?_;refine Aa rfl rfl (congrArg _ ?_);rw [hi2];have:B8 t m (d-1) = -1:=by omega
    rw [this];cases ks.drop (i+1) with
    | nil=>rfl
    | cons a b=>simp [BV]
   ·simp at h';refine A8 rfl ?_;exact Ae (ih (i+1,B8 t m (d-1)) (by simp only;omega) ⟨by simp only;omega,hi2,by simp only;omega,by simp only;omega⟩) ⟨A3 (BI (by omega) (by omega)),rfl,rfl,rfl,rfl,trivial⟩ trivial rfl
  ·refine Ay rfl ?_;refine A8 rfl ?_;refine Aa rfl rfl (congrArg _ ?_);simp at h;rw [hi2,List.drop_eq_nil_of_le (by omega)];simp [BV]
termination_by t=>SizeOf.sizeOf t
decreasing_by
 have:=List.sizeOf_lt_of_mem (List.mem_of_getElem? ht);simp_wf;omega
def F9:V:=.iface 267 (.agg [])
def fU:TT:=XV++[
 (267,⟨.struct [],true,0,0,[]⟩),
 (213,⟨.struct [(0,3),(1,3)],true,2,16,[.imm (.int .i64 0),.imm (.int .i64 0)]⟩),
 (1,⟨.func,false,1,8,[.imm .nilfn]⟩)]
theorem AU:TTok Tryz.prog fU:=.of_eq (l:=[4,3,9,165,26,69,162,27,5,24,23,172,163,67,167,171,75,22,169,72,70,37,267,213,1]) (by kernel_rfl)
section
variable {n:Nat} {F:List Nat} {Q:DQ} {env env':Env} {st st':St} {ids ids':List Nat} {k todo:List DI} {ob:List Prop}
theorem td (path:List Pt) (h:run fU n 300 path todo env st ids [] = .at k env' st' ids' ob) (hob:AA ob) (hd:G Tryz.prog n F Q k env' st' ids'):DGo Tryz.prog n F Q todo env st ids:=Lv AU EV 300 path h hob hd
theorem GF (h:run fU n 300 [] todo env st ids [] = .at k env' st' ids' ob) (hd:G Tryz.prog n F Q k env' st' ids') (hob:AA ob:=by simp):DGo Tryz.prog n F Q todo env st ids:=td [] h hob hd
theorem tdqc (h:run fU n 300 [] todo env st ids [] = .at k env' st' ids' ob) (hd:G Tryz.prog n F Q k env' st' ids') (hob:AA ob:=by simp [An]):DGo Tryz.prog n F Q todo env st ids:=td [] h hob hd
theorem tg (path:List Pt) (h:run fU n 300 path todo env st ids [] = .at k env' st' ids' ob) (hob:AA ob) (hd:G Tryz.prog n F Q k env' st' ids'):G Tryz.prog n F Q todo env st ids:=Ks AU EV 300 path h hob hd
theorem Cq (h:run fU n 300 [] todo env st ids [] = .at k env' st' ids' ob) (hd:G Tryz.prog n F Q k env' st' ids') (hob:AA ob:=by simp):G Tryz.prog n F Q todo env st ids:=tg [] h hob hd
theorem tgqc (h:run fU n 300 [] todo env st ids [] = .at k env' st' ids' ob) (hd:G Tryz.prog n F Q k env' st' ids') (hob:AA ob:=by simp [An]):G Tryz.prog n F Q todo env st ids:=tg [] h hob hd
theorem ti {es:List (List V)} {m:Int} {sz:Nat} {e:TypeId} {g:Option (Bool×Bool)} {ob:List Prop} {t:Nat} {todo':List DI} {c:List V} (h:P7 fU n env todo=some ⟨es,m,sz,e,g,ob,some t,todo'⟩)
  (hc:An g->0<=m/\es[m.toNat]?=some c/\c.length=sz) (hob:AA ob) (hk:G Tryz.prog n F Q todo' ((t,gD g (.ip e c 0))::env) st ids):G Tryz.prog n F Q todo env st ids:=Gg AU h hc hob hk
end
theorem fK:Ak Tryz.prog 172 [.bool true] (.tup []):=by
 refine Af AU Tryz.func172 (by decide +kernel) rfl [1,2] rfl rfl ?_;refine tg [.a] rfl (by simp) ?_;exact C8 ⟨_,rfl,rfl,trivial⟩
theorem mJ:Bg Tryz.prog 172 [.imm (.bool false)] [] (.pan F9):=by
 refine Af AU Tryz.func172 (by decide +kernel) rfl [1,2] rfl rfl ?_;refine tg [.a] rfl (by simp) ?_;exact eH rfl rfl rfl rfl
end Go.Hk
namespace Go.Hk
open Go.Proofs
theorem B9 (b:Bool) (h:b=true):Ak Tryz.prog 172 [.bool b] (.tup []):=by subst h;exact fK
theorem Cj (b:Bool) (h:b=false):Bg Tryz.prog 172 [.imm (.bool b)] [] (.pan F9):=by subst h;exact mJ
def C4 (a b:Int):Blk:=.immb 213 2 [.int .i64 a,.int .i64 b]
theorem GW (n d x:Int) (h0:1<=n) (h1:n<=4611686018427387904) (hx:x<=d):Bg Tryz.prog 171 [.ref 1 0,.imm (.int .i64 x)] [(1,some (C4 n d))] (.ret (.imm (.tup [])) [(1,some (C4 (n-1) d))]):=by
 have hw:IntKind.i64.wrap (n-1)=n-1:=BI (by omega) (by omega);refine Af AU Tryz.func171 (by decide +kernel) rfl [2,3] rfl rfl ?_;refine Cq rfl ?_;refine Ad rfl (λ_=>B9 _ (by simp [hw];omega)) (by simp) ?_;refine Cq rfl ?_;refine C8 ⟨_,rfl,rfl,?_⟩;simp only [hw];exact ⟨rfl,trivial⟩
theorem Q1 (n d x:Int) (h0 : -1<=n) (h1:n<=4611686018427387904) (hx:n<1\/d<x):Bg Tryz.prog 171 [.ref 1 0,.imm (.int .i64 x)] [(1,some (C4 n d))] (.pan F9):=by
 have hw:IntKind.i64.wrap (n-1)=n-1:=BI (by omega) (by omega);refine Af AU Tryz.func171 (by decide +kernel) rfl [2,3] rfl rfl ?_;refine Cq rfl ?_;exact AC [] rfl (by simp) (Cj _ (by simp [hw];omega)) trivial rfl rfl
theorem Gc {ps:List Ty} {i:Nat} {t:Ty} (h:ps[i]?=some t):Ag (ps.drop i)=Aj t+Ag (ps.drop (i+1)):=by rw [Av h];rfl
theorem KM:∀(t:Ty) (n:Int),(Aj t:Int)<=n->n<=4611686018427387904->Bg Tryz.prog 168 [.ref 1 0,.imm (.agg (dTyc t))] [(1,some (C4 n 0))] (.ret (.imm (.tup [])) [(1,some (C4 (n-Aj t) 0))])
 | .mk s m x ps,n,h0,h1=>by
  refine E8 1 rfl λhok=>?_;have hv:ps.length<=9223372036854775807:=by
   simp [Cx,EM,dTyc,maxLen] at hok;have:=hok.1;omega
  refine Af AU Tryz.func168 (by decide +kernel) rfl [2,3,4] rfl rfl ?_;have hN:(1:Int)+Ag ps<=n:=by simp only [Aj] at h0;omega
  refine Cq rfl ?_;refine A9 (fr:=[]) [(1,1)] [] rfl (by simp) (GW n 0 0 (by omega) h1 (by decide)) ⟨⟨rfl,rfl,rfl⟩,trivial⟩ rfl rfl rfl rfl ?_;refine Cq rfl ?_;refine Am (λi:Nat=>[(11,.imm (.int .i64 i)),(10,.imm (.int .i64 ps.length)),(9,.imm (.sl (BQ ps))),(0,.ref 1 0)]) (λi=>[(1,some (C4 (n-1-Ag (ps.take i)) 0))]) [2,3,4] (λi=>ps.length-i)
   (λi=>i<=ps.length) 0 (Nat.zero_le _) ⟨rfl,A3 (by simp),rfl,rfl,trivial⟩ ⟨by simp [Ag];rfl,trivial⟩ rfl λi hi ih=>?_
  refine GF rfl ?_;refine Ab rfl (λh=>?_) (λh=>?_)
  ·simp at h;obtain ⟨t,ht⟩:=Ap h;have hnt:=Cc ht;have hnd:=Gc ht;have htk:(Ag (ps.take (i+1)):Int)=Ag (ps.take i)+Aj t:=by rw [Bn ht,BA];simp [Ag]
   refine GF rfl ?_;refine ti rfl (c:=dTyc t) (λ_=>⟨by simp,by simpa using A5 ht,by simp⟩) (by simp) ?_;refine Cq rfl ?_;refine A9 (fr:=[]) [(1,1)] [] rfl (by simp) (KM t (n-1-Ag (ps.take i)) (by omega) (by omega)) ⟨⟨rfl,rfl,rfl⟩,trivial⟩ rfl rfl rfl rfl ?_;refine Cq rfl ?_;exact Ae (ih (i+1) (by omega) (by omega)) ⟨A3 (BI (by omega) (by omega)),rfl,rfl,rfl,trivial⟩ ⟨congrArg (λz=>C4 z 0) (by omega),trivial⟩ rfl
  ·refine GF rfl ?_;simp at h;refine C8 ⟨_,rfl,rfl,⟨?_,trivial⟩⟩;rw [List.take_of_length_le (by omega)];simp only [Aj];exact congrArg (λz=>some (some (C4 z 0))) (by omega)
termination_by t=>SizeOf.sizeOf t
decreasing_by
 all_goals
  have:=List.sizeOf_lt_of_mem (List.mem_of_getElem? ht);simp_wf;omega
theorem WU:∀(t:Ty) (n:Int),n<Aj t -> -1<=n->n<=4611686018427387904->Bg Tryz.prog 168 [.ref 1 0,.imm (.agg (dTyc t))] [(1,some (C4 n 0))] (.pan F9)
 | .mk s m x ps,n,h0,hm1,h1=>by
  refine E8 1 rfl λhok=>?_;have hv:ps.length<=9223372036854775807:=by
   simp [Cx,EM,dTyc,maxLen] at hok;have:=hok.1;omega
  refine Af AU Tryz.func168 (by decide +kernel) rfl [2,3,4] rfl rfl ?_;have hN:n<(1:Int)+Ag ps:=by simp only [Aj] at h0;omega
  refine Cq rfl ?_;by_cases hn:n<1
  ·exact AC [(1,1)] rfl (by simp) (Q1 n 0 0 (by omega) h1 (.inl hn)) ⟨⟨rfl,rfl,rfl⟩,trivial⟩ rfl rfl
  refine A9 (fr:=[]) [(1,1)] [] rfl (by simp) (GW n 0 0 (by omega) h1 (by decide)) ⟨⟨rfl,rfl,rfl⟩,trivial⟩ rfl rfl rfl rfl ?_;refine Cq rfl ?_;refine Am (λi:Nat=>[(11,.imm (.int .i64 i)),(10,.imm (.int .i64 ps.length)),(9,.imm (.sl (BQ ps))),(0,.ref 1 0)]) (λi=>[(1,some (C4 (n-1-Ag (ps.take i)) 0))]) [2,3,4] (λi=>ps.length-i)
   (λi=>i<=ps.length/\(Ag (ps.take i):Int)<=n-1/\n-1<Ag (ps.take i)+Ag (ps.drop i)) 0 ⟨Nat.zero_le _,by simp [Ag];omega,by simp [Ag];omega⟩ ⟨rfl,A3 (by simp),rfl,rfl,trivial⟩ ⟨by simp [Ag];rfl,trivial⟩ rfl λi hi ih=>?_
  refine GF rfl ?_;refine Ab rfl (λh=>?_) (λh=>?_)
  ·simp at h;obtain ⟨t,ht⟩:=Ap h;have hnt:=Cc ht;have hnd:=Gc ht;have htk:(Ag (ps.take (i+1)):Int)=Ag (ps.take i)+Aj t:=by rw [Bn ht,BA];simp [Ag]
   refine GF rfl ?_;refine ti rfl (c:=dTyc t) (λ_=>⟨by simp,by simpa using A5 ht,by simp⟩) (by simp) ?_;refine Cq rfl ?_;by_cases hle:(Aj t:Int)<=n-1-Ag (ps.take i)
   ·refine A9 (fr:=[]) [(1,1)] [] rfl (by simp) (KM t (n-1-Ag (ps.take i)) (by omega) (by omega)) ⟨⟨rfl,rfl,rfl⟩,trivial⟩ rfl rfl rfl rfl ?_;refine Cq rfl ?_;exact Ae (ih (i+1) (by omega) ⟨by omega,by omega,by omega⟩) ⟨A3 (BI (by omega) (by omega)),rfl,rfl,rfl,trivial⟩ ⟨congrArg (λz=>C4 z 0) (by omega),trivial⟩ rfl
   ·exact AC [(1,1)] rfl (by simp) (WU t (n-1-Ag (ps.take i)) (by omega) (by omega) (by omega)) ⟨⟨rfl,rfl,rfl⟩,trivial⟩ rfl rfl
  ·exfalso;simp at h;have:=hi.2;rw [List.take_of_length_le (by omega),List.drop_eq_nil_of_le (by omega)] at this;simp [Ag] at this;omega
termination_by t=>SizeOf.sizeOf t
decreasing_by
 all_goals
  have:=List.sizeOf_lt_of_mem (List.mem_of_getElem? ht);simp_wf;omega
theorem MO:∀(t:Ty) (n:Int),(Aj t:Int)<=n->n<=4611686018427387904->Bg Tryz.prog 130 [.ref 1 0,.imm (.agg (dTyc t))] [(1,some (C4 n 0))] (.ret (.imm (.tup [])) [(1,some (C4 (n-Aj t) 0))])
 | .mk s m x ps,n,h0,h1=>by
  refine E8 1 rfl λhok=>?_;have hv:ps.length<=9223372036854775807:=by
   simp [Cx,EM,dTyc,maxLen] at hok;have:=hok.1;omega
  refine Af AU Tryz.func130 (by decide +kernel) rfl [2,3,4] rfl rfl ?_;have hN:(1:Int)+Ag ps<=n:=by simp only [Aj] at h0;omega
  refine Cq rfl ?_;refine A9 (fr:=[]) [(1,1)] [] rfl (by simp) (GW n 0 0 (by omega) h1 (by decide)) ⟨⟨rfl,rfl,rfl⟩,trivial⟩ rfl rfl rfl rfl ?_;refine Cq rfl ?_;refine Am (λi:Nat=>[(11,.imm (.int .i64 i)),(10,.imm (.int .i64 ps.length)),(9,.imm (.sl (BQ ps))),(0,.ref 1 0)]) (λi=>[(1,some (C4 (n-1-Ag (ps.take i)) 0))]) [2,3,4] (λi=>ps.length-i)
   (λi=>i<=ps.length) 0 (Nat.zero_le _) ⟨rfl,A3 (by simp),rfl,rfl,trivial⟩ ⟨by simp [Ag];rfl,trivial⟩ rfl λi hi ih=>?_
  refine GF rfl ?_;refine Ab rfl (λh=>?_) (λh=>?_)
  ·simp at h;obtain ⟨t,ht⟩:=Ap h;have hnt:=Cc ht;have hnd:=Gc ht;have htk:(Ag (ps.take (i+1)):Int)=Ag (ps.take i)+Aj t:=by rw [Bn ht,BA];simp [Ag]
   refine GF rfl ?_;refine ti rfl (c:=dTyc t) (λ_=>⟨by simp,by simpa using A5 ht,by simp⟩) (by simp) ?_;refine Cq rfl ?_;refine A9 (fr:=[]) [(1,1)] [] rfl (by simp) (MO t (n-1-Ag (ps.take i)) (by omega) (by omega)) ⟨⟨rfl,rfl,rfl⟩,trivial⟩ rfl rfl rfl rfl ?_;refine Cq rfl ?_;exact Ae (ih (i+1) (by omega) (by omega)) ⟨A3 (BI (by omega) (by omega)),rfl,rfl,rfl,trivial⟩ ⟨congrArg (λz=>C4 z 0) (by omega),trivial⟩ rfl
  ·refine GF rfl ?_;simp at h;refine C8 ⟨_,rfl,rfl,⟨?_,trivial⟩⟩;rw [List.take_of_length_le (by omega)];simp only [Aj];exact congrArg (λz=>some (some (C4 z 0))) (by omega)
termination_by t=>SizeOf.sizeOf t
decreasing_by
 all_goals
  have:=List.sizeOf_lt_of_mem (List.mem_of_getElem? ht);simp_wf;omega
theorem ZZ:∀(t:Ty) (n:Int),n<Aj t -> -1<=n->n<=4611686018427387904->Bg Tryz.prog 130 [.ref 1 0,.imm (.agg (dTyc t))] [(1,some (C4 n 0))] (.pan F9)
 | .mk s m x ps,n,h0,hm1,h1=>by
  refine E8 1 rfl λhok=>?_;have hv:ps.length<=9223372036854775807:=by
   simp [Cx,EM,dTyc,maxLen] at hok;have:=hok.1;omega
  refine Af AU Tryz.func130 (by decide +kernel) rfl [2,3,4] rfl rfl ?_;have hN:n<(1:Int)+Ag ps:=by simp only [Aj] at h0;omega
  refine Cq rfl ?_;by_cases hn:n<1
  ·exact AC [(1,1)] rfl (by simp) (Q1 n 0 0 (by omega) h1 (.inl hn)) ⟨⟨rfl,rfl,rfl⟩,trivial⟩ rfl rfl
  refine A9 (fr:=[]) [(1,1)] [] rfl (by simp) (GW n 0 0 (by omega) h1 (by decide)) ⟨⟨rfl,rfl,rfl⟩,trivial⟩ rfl rfl rfl rfl ?_;refine Cq rfl ?_;refine Am (λi:Nat=>[(11,.imm (.int .i64 i)),(10,.imm (.int .i64 ps.length)),(9,.imm (.sl (BQ ps))),(0,.ref 1 0)]) (λi=>[(1,some (C4 (n-1-Ag (ps.take i)) 0))]) [2,3,4] (λi=>ps.length-i)
   (λi=>i<=ps.length/\(Ag (ps.take i):Int)<=n-1/\n-1<Ag (ps.take i)+Ag (ps.drop i)) 0 ⟨Nat.zero_le _,by simp [Ag];omega,by simp [Ag];omega⟩ ⟨rfl,A3 (by simp),rfl,rfl,trivial⟩ ⟨by simp [Ag];rfl,trivial⟩ rfl λi hi ih=>?_
  refine GF rfl ?_;refine Ab rfl (λh=>?_) (λh=>?_)
  ·simp at h;obtain ⟨t,ht⟩:=Ap h;have hnt:=Cc ht;have hnd:=Gc ht;have htk:(Ag (ps.take (i+1)):Int)=Ag (ps.take i)+Aj t:=by rw [Bn ht,BA];simp [Ag]
   refine GF rfl ?_;refine ti rfl (c:=dTyc t) (λ_=>⟨by simp,by simpa using A5 ht,by simp⟩) (by simp) ?_;refine Cq rfl ?_;by_cases hle:(Aj t:Int)<=n-1-Ag (ps.take i)
   ·refine A9 (fr:=[]) [(1,1)] [] rfl (by simp) (MO t (n-1-Ag (ps.take i)) (by omega) (by omega)) ⟨⟨rfl,rfl,rfl⟩,trivial⟩ rfl rfl rfl rfl ?_;refine Cq rfl ?_;exact Ae (ih (i+1) (by omega) ⟨by omega,by omega,by omega⟩) ⟨A3 (BI (by omega) (by omega)),rfl,rfl,rfl,trivial⟩ ⟨congrArg (λz=>C4 z 0) (by omega),trivial⟩ rfl
   ·exact AC [(1,1)] rfl (by simp) (ZZ t (n-1-Ag (ps.take i)) (by omega) (by omega) (by omega)) ⟨⟨rfl,rfl,rfl⟩,trivial⟩ rfl rfl
  ·exfalso;simp at h;have:=hi.2;rw [List.take_of_length_le (by omega),List.drop_eq_nil_of_le (by omega)] at this;simp [Ag] at this;omega
termination_by t=>SizeOf.sizeOf t
decreasing_by
 all_goals
  have:=List.sizeOf_lt_of_mem (List.mem_of_getElem? ht);simp_wf;omega
theorem U3:∀(ts:List Tm) (l d:Int),l<0->Ci ts l d<0
 | [],l,d,h=>h
 | t::r,l,d,h=>by simp only [Ci];rw [if_neg (by omega)];exact h
theorem KL:∀(t:Tm) (n dp x:Int),0<=n->n<=4611686018427387904->0<=dp->dp<=1000000->0<=x->x<=1000001->0<=BH t n (dp-x+1)->Bg Tryz.prog 205 [.ref 1 0,.imm (.agg (CO t)),.imm (.int .i64 x)] [(1,some (C4 n dp))] (.ret (.imm (.tup [])) [(1,some (C4 (BH t n (dp-x+1)) dp))])
 | .mk op nn tx ks ps,n,dp,x,h0,h1,hd0,hd1,hx0,hx1,hw=>by
  refine E8 1 rfl λhok=>?_;have hv:ks.length<=9223372036854775807:=by
   simp [Cx,EM,CO,maxLen] at hok;have:=hok.1;omega
  refine Af AU Tryz.func205 (by decide +kernel) rfl [2,3,4] rfl rfl ?_;have hst:¬(n<1\/dp-x+1<1)->BH (.mk op nn tx ks ps) n (dp-x+1)=Ci ks (n-1) (dp-x):=λh=>by
   simp only [BH];rw [if_neg h];congr 1;omega
  refine Cq rfl ?_;by_cases hs:n<1\/dp-x+1<1
  ·exfalso;simp only [BH] at hw;rw [if_pos hs] at hw;omega
  have hs':1<=n/\x<=dp:=by omega
  refine A9 (fr:=[]) [(1,1)] [] rfl (by simp) (GW n dp x (by omega) h1 (by omega)) ⟨⟨rfl,rfl,rfl⟩,trivial⟩ rfl rfl rfl rfl ?_;refine Cq rfl ?_;refine Am (λy:Nat×Int=>[(14,.imm (.int .i64 y.1)),(13,.imm (.int .i64 ks.length)),(12,.imm (.sl (LZ ks))),(0,.ref 1 0),(2,.imm (.int .i64 x))]) (λy=>[(1,some (C4 y.2 dp))]) [2,3,4] (λy=>ks.length-y.1)
   (λy=>y.1<=ks.length/\BH (.mk op nn tx ks ps) n (dp-x+1)=Ci (ks.drop y.1) y.2 (dp-x)/\0<=y.2/\y.2<=n) (0,n-1) ⟨Nat.zero_le _,by simp only [List.drop_zero];exact hst hs,by simp only;omega,by simp only;omega⟩ ⟨rfl,A3 (by simp),rfl,rfl,rfl,trivial⟩ ⟨rfl,trivial⟩ rfl λy hi ih=>?_
  obtain ⟨i,m⟩:=y;obtain ⟨hi1,hi2,hi3,hi4⟩:=hi;simp only at hi1 hi2 hi3 hi4;refine GF rfl ?_;refine Ab rfl (λh=>?_) (λh=>?_)
  ·simp at h;obtain ⟨t,ht⟩:=Ap h;rw [Av ht] at hi2;simp only [Ci] at hi2;rw [if_pos hi3] at hi2;have hb:=IV t m (dp-x);have hx:IntKind.i64.wrap (x+1)=x+1:=BI (by omega) (by omega);refine GF rfl ?_;refine ti rfl (c:=CO t) (λ_=>⟨by simp,by simpa using IP ht,by simp⟩) (by simp) ?_;refine Cq rfl ?_;have hdx:dp-(x+1)+1=dp-x:=by omega
   have hz:0<=BH t m (dp-x):=by
    rw [hi2] at hw;rcases Int.lt_or_le (BH t m (dp-x)) 0 with hl | hl
    ·exfalso;have:=U3 (ks.drop (i+1)) (BH t m (dp-x)) (dp-x) hl;omega
    ·exact hl
   refine A9 (fr:=[]) [(1,1)] [] rfl (by simp) (KL t m dp (IntKind.i64.wrap (x+1)) hi3 (by omega) hd0 hd1 (by omega) (by omega) (by rw [hx,hdx];exact hz)) ⟨⟨rfl,rfl,rfl⟩,trivial⟩ rfl rfl rfl rfl ?_;refine Cq rfl ?_;exact Ae (ih (i+1,BH t m (dp-x)) (by simp only;omega) ⟨by simp only;omega,hi2,by simp only;exact hz,by simp only;omega⟩) ⟨A3 (BI (by omega) (by omega)),rfl,rfl,rfl,rfl,trivial⟩ ⟨congrArg (λz=>C4 z dp) (by simp only [hx,hdx]),trivial⟩ rfl
  ·refine GF rfl ?_;simp at h;refine C8 ⟨_,rfl,rfl,⟨?_,trivial⟩⟩;rw [List.drop_eq_nil_of_le (by omega)] at hi2;simp only [Ci] at hi2;rw [hi2];rfl
termination_by t=>SizeOf.sizeOf t
decreasing_by
 all_goals
  have:=List.sizeOf_lt_of_mem (List.mem_of_getElem? ht);simp_wf;omega
theorem WR:∀(t:Tm) (n dp x:Int),0<=n->n<=4611686018427387904->0<=dp->dp<=1000000->0<=x->x<=1000001->BH t n (dp-x+1)<0->Bg Tryz.prog 205 [.ref 1 0,.imm (.agg (CO t)),.imm (.int .i64 x)] [(1,some (C4 n dp))] (.pan F9)
 | .mk op nn tx ks ps,n,dp,x,h0,h1,hd0,hd1,hx0,hx1,hw=>by
  refine E8 1 rfl λhok=>?_;have hv:ks.length<=9223372036854775807:=by
   simp [Cx,EM,CO,maxLen] at hok;have:=hok.1;omega
  refine Af AU Tryz.func205 (by decide +kernel) rfl [2,3,4] rfl rfl ?_;have hst:¬(n<1\/dp-x+1<1)->BH (.mk op nn tx ks ps) n (dp-x+1)=Ci ks (n-1) (dp-x):=λh=>by
   simp only [BH];rw [if_neg h];congr 1;omega
  refine Cq rfl ?_;by_cases hs:n<1\/dp-x+1<1
  ·exact AC [(1,1)] rfl (by simp) (Q1 n dp x (by omega) h1 (by omega)) ⟨⟨rfl,rfl,rfl⟩,trivial⟩ rfl rfl
  have hs':1<=n/\x<=dp:=by omega
  refine A9 (fr:=[]) [(1,1)] [] rfl (by simp) (GW n dp x (by omega) h1 (by omega)) ⟨⟨rfl,rfl,rfl⟩,trivial⟩ rfl rfl rfl rfl ?_;refine Cq rfl ?_;refine Am (λy:Nat×Int=>[(14,.imm (.int .i64 y.1)),(13,.imm (.int .i64 ks.length)),(12,.imm (.sl (LZ ks))),(0,.ref 1 0),(2,.imm (.int .i64 x))]) (λy=>[(1,some (C4 y.2 dp))]) [2,3,4] (λy=>ks.length-y.1)
   (λy=>y.1<=ks.length/\BH (.mk op nn tx ks ps) n (dp-x+1)=Ci (ks.drop y.1) y.2 (dp-x)/\0<=y.2/\y.2<=n) (0,n-1) ⟨Nat.zero_le _,by simp only [List.drop_zero];exact hst hs,by simp only;omega,by simp only;omega⟩ ⟨rfl,A3 (by simp),rfl,rfl,rfl,trivial⟩ ⟨rfl,trivial⟩ rfl λy hi ih=>?_
  obtain ⟨i,m⟩:=y;obtain ⟨hi1,hi2,hi3,hi4⟩:=hi;simp only at hi1 hi2 hi3 hi4;refine GF rfl ?_;refine Ab rfl (λh=>?_) (λh=>?_)
  ·simp at h;obtain ⟨t,ht⟩:=Ap h;rw [Av ht] at hi2;simp only [Ci] at hi2;rw [if_pos hi3] at hi2;have hb:=IV t m (dp-x);have hx:IntKind.i64.wrap (x+1)=x+1:=BI (by omega) (by omega);refine GF rfl ?_;refine ti rfl (c:=CO t) (λ_=>⟨by simp,by simpa using IP ht,by simp⟩) (by simp) ?_;refine Cq rfl ?_;have hdx:dp-(x+1)+1=dp-x:=by omega
   by_cases hz:0<=BH t m (dp-x)
   ·refine A9 (fr:=[]) [(1,1)] [] rfl (by simp) (KL t m dp (IntKind.i64.wrap (x+1)) hi3 (by omega) hd0 hd1 (by omega) (by omega) (by rw [hx,hdx];exact hz)) ⟨⟨rfl,rfl,rfl⟩,trivial⟩ rfl rfl rfl rfl ?_;refine Cq rfl ?_;exact Ae (ih (i+1,BH t m (dp-x)) (by simp only;omega) ⟨by simp only;omega,hi2,by simp only;exact hz,by simp only;omega⟩) ⟨A3 (BI (by omega) (by omega)),rfl,rfl,rfl,rfl,trivial⟩ ⟨congrArg (λz=>C4 z dp) (by simp only [hx,hdx]),trivial⟩ rfl
   ·exact AC [(1,1)] rfl (by simp) (WR t m dp (IntKind.i64.wrap (x+1)) hi3 (by omega) hd0 hd1 (by omega) (by omega) (by rw [hx,hdx];omega)) ⟨⟨rfl,rfl,rfl⟩,trivial⟩ rfl rfl
  ·exfalso;simp at h;rw [List.drop_eq_nil_of_le (by omega)] at hi2;simp only [Ci] at hi2;omega
termination_by t=>SizeOf.sizeOf t
decreasing_by
 all_goals
  have:=List.sizeOf_lt_of_mem (List.mem_of_getElem? ht);simp_wf;omega
theorem Zh {s:Str} {pos:Nat} {c:UInt8} (h:s[pos]?=some c) (hc:c.toNat<128):El s pos=(c.toNat,1):=by
 have hg:(ByteArray.mk s.toArray).get! pos=c:=by simp [ByteArray.get!,h]
 simp only [El,Utf8.decode,Nat.add_zero,hg];rw [if_pos hc]
theorem Xo {s:Str} {pos:Nat} {c:UInt8} (h:s[pos]?=some c) (hc:128<=c.toNat):128<=(El s pos).1:=by
 have hg:(ByteArray.mk s.toArray).get! pos=c:=by simp [ByteArray.get!,h]
 simp only [El,Utf8.decode,Nat.add_zero,hg,Utf8.runeError];rw [if_neg (by omega)]
 repeat' split
 all_goals first | (simp only;omega) | decide | (simp only [Bool.and_eq_true,decide_eq_true_eq] at *;omega)
theorem SW (s:Str):Ak Tryz.prog 185 [.str s] (.bool (EC s)):=by
 refine Af AU Tryz.func185 (by decide +kernel) rfl [1,2] rfl rfl ?_;refine Cq rfl ?_;refine kC AU rfl ?_;refine Cq rfl ?_;refine Am (λi:Nat=>[(6,.iter 1)]) (λi=>[(1,some (.siter s i))]) [2] (λi=>s.length-i) (λi=>i<=s.length/\EC s=EC (s.drop i)) 0
  ⟨Nat.zero_le _,rfl⟩ ⟨rfl,trivial⟩ ⟨rfl,trivial⟩ rfl λi hi ih=>?_
 refine GF rfl ?_;by_cases hl:i<s.length
 ·obtain ⟨c,hc⟩:=Ap hl;have e:=hi.2;rw [OC hc] at e;by_cases hlow:c.toNat<128
  ·refine aD rfl hl (Zh hc hlow) ?_;refine tg [.a] rfl (by simp) ?_;refine Ab rfl (λh=>?_) (λh=>?_)
   ·refine GF rfl ?_;refine Aa rfl rfl (congrArg _ ?_);rw [e];simp at h;simp [UInt8.le_iff_toNat_le];omega
   ·refine GF rfl ?_;refine Ae (ih (i+1) (by omega) ⟨by omega,?_⟩) ⟨rfl,trivial⟩ ⟨rfl,trivial⟩ rfl;rw [e];simp at h;simp [UInt8.le_iff_toNat_le];omega
  ·refine aD (dc:=El s i) rfl hl rfl ?_;have hh:=Xo hc (by omega);refine tg [.a] rfl (by simp) ?_;refine Ab rfl (λh=>?_) (λh=>?_)
   ·refine GF rfl ?_;refine Aa rfl rfl (congrArg _ ?_);rw [e];simp [UInt8.le_iff_toNat_le];omega
   ·exfalso;simp at h;omega
 ·refine nR rfl (by omega) ?_;refine tg [.a] rfl (by simp) ?_;refine Aa rfl rfl (congrArg _ ?_);rw [hi.2,List.drop_eq_nil_of_le (by omega)];rfl
theorem Y8 (s:Str) (h:UW s=false):Ak Tryz.prog 186 [.str s] (.bool false):=by
 simp only [UW,IE,G7,Bool.or_eq_false_iff] at h;refine Af AU Tryz.func186 (by decide +kernel) rfl [1,2] rfl rfl ?_;refine tg [.f,.f,.f,.f,.f,.f,.f,.f,.f,.f,.f,.f,.f,.f,.f,.f,.f,.f,.f,.f,.f,.f,.f,.f,.f,.f,.f,.f,.f] rfl (by simp at h;simp;grind) ?_;exact Aa rfl rfl rfl
theorem dT:Ak Tryz.prog 186 [.str [98,111,111,108]] (.bool true):=by
 refine Af AU Tryz.func186 (by decide +kernel) rfl [1,2] rfl rfl ?_;refine tg [.a,.a] rfl (by simp) ?_;exact Aa rfl rfl rfl
theorem dS:Ak Tryz.prog 186 [.str [99,101,108,108]] (.bool true):=by
 refine Af AU Tryz.func186 (by decide +kernel) rfl [1,2] rfl rfl ?_;refine tg [.a,.a,.a] rfl (by simp) ?_;exact Aa rfl rfl rfl
theorem dR:Ak Tryz.prog 186 [.str [99,104,97,110]] (.bool true):=by
 refine Af AU Tryz.func186 (by decide +kernel) rfl [1,2] rfl rfl ?_;refine tg [.a,.a,.a,.a] rfl (by simp) ?_;exact Aa rfl rfl rfl
theorem dQ:Ak Tryz.prog 186 [.str [101,108,115,101]] (.bool true):=by
 refine Af AU Tryz.func186 (by decide +kernel) rfl [1,2] rfl rfl ?_;refine tg [.a,.a,.a,.a,.a] rfl (by simp) ?_;exact Aa rfl rfl rfl
theorem dP:Ak Tryz.prog 186 [.str [102,97,108,115,101]] (.bool true):=by
 refine Af AU Tryz.func186 (by decide +kernel) rfl [1,2] rfl rfl ?_;refine tg [.a,.a,.a,.a,.a,.a] rfl (by simp) ?_;exact Aa rfl rfl rfl
theorem dO:Ak Tryz.prog 186 [.str [102,117,110]] (.bool true):=by
 refine Af AU Tryz.func186 (by decide +kernel) rfl [1,2] rfl rfl ?_;refine tg [.a,.a,.a,.a,.a,.a,.a] rfl (by simp) ?_;exact Aa rfl rfl rfl
theorem dN:Ak Tryz.prog 186 [.str [103,101,116]] (.bool true):=by
 refine Af AU Tryz.func186 (by decide +kernel) rfl [1,2] rfl rfl ?_;refine tg [.a,.a,.a,.a,.a,.a,.a,.a] rfl (by simp) ?_;exact Aa rfl rfl rfl
theorem dM:Ak Tryz.prog 186 [.str [105,102]] (.bool true):=by
 refine Af AU Tryz.func186 (by decide +kernel) rfl [1,2] rfl rfl ?_;refine tg [.a,.a,.a,.a,.a,.a,.a,.a,.a] rfl (by simp) ?_;exact Aa rfl rfl rfl
theorem dL:Ak Tryz.prog 186 [.str [105,110]] (.bool true):=by
 refine Af AU Tryz.func186 (by decide +kernel) rfl [1,2] rfl rfl ?_;refine tg [.a,.a,.a,.a,.a,.a,.a,.a,.a,.a] rfl (by simp) ?_;exact Aa rfl rfl rfl
theorem dK:Ak Tryz.prog 186 [.str [105,110,112,117,116]] (.bool true):=by
 refine Af AU Tryz.func186 (by decide +kernel) rfl [1,2] rfl rfl ?_;refine tg [.a,.a,.a,.a,.a,.a,.a,.a,.a,.a,.a] rfl (by simp) ?_;exact Aa rfl rfl rfl
theorem YR:Ak Tryz.prog 186 [.str [105,110,116]] (.bool true):=by
 refine Af AU Tryz.func186 (by decide +kernel) rfl [1,2] rfl rfl ?_;refine tg [.a,.a,.a,.a,.a,.a,.a,.a,.a,.a,.a,.a] rfl (by simp) ?_;exact Aa rfl rfl rfl
theorem YQ:Ak Tryz.prog 186 [.str [106,111,105,110]] (.bool true):=by
 refine Af AU Tryz.func186 (by decide +kernel) rfl [1,2] rfl rfl ?_;refine tg [.a,.a,.a,.a,.a,.a,.a,.a,.a,.a,.a,.a,.a] rfl (by simp) ?_;exact Aa rfl rfl rfl
theorem YP:Ak Tryz.prog 186 [.str [108,101,116]] (.bool true):=by
 refine Af AU Tryz.func186 (by decide +kernel) rfl [1,2] rfl rfl ?_;refine tg [.a,.a,.a,.a,.a,.a,.a,.a,.a,.a,.a,.a,.a,.a] rfl (by simp) ?_;exact Aa rfl rfl rfl
theorem YO:Ak Tryz.prog 186 [.str [109,97,116,99,104]] (.bool true):=by
 refine Af AU Tryz.func186 (by decide +kernel) rfl [1,2] rfl rfl ?_;refine tg [.a,.a,.a,.a,.a,.a,.a,.a,.a,.a,.a,.a,.a,.a,.a] rfl (by simp) ?_;exact Aa rfl rfl rfl
theorem YN:Ak Tryz.prog 186 [.str [109,111,100,117,108,101]] (.bool true):=by
 refine Af AU Tryz.func186 (by decide +kernel) rfl [1,2] rfl rfl ?_;refine tg [.a,.a,.a,.a,.a,.a,.a,.a,.a,.a,.a,.a,.a,.a,.a,.a] rfl (by simp) ?_;exact Aa rfl rfl rfl
theorem YM:Ak Tryz.prog 186 [.str [111,117,116]] (.bool true):=by
 refine Af AU Tryz.func186 (by decide +kernel) rfl [1,2] rfl rfl ?_;refine tg [.a,.a,.a,.a,.a,.a,.a,.a,.a,.a,.a,.a,.a,.a,.a,.a,.a] rfl (by simp) ?_;exact Aa rfl rfl rfl
theorem YL:Ak Tryz.prog 186 [.str [112,97,117,115,101]] (.bool true):=by
 refine Af AU Tryz.func186 (by decide +kernel) rfl [1,2] rfl rfl ?_;refine tg [.a,.a,.a,.a,.a,.a,.a,.a,.a,.a,.a,.a,.a,.a,.a,.a,.a,.a] rfl (by simp) ?_;exact Aa rfl rfl rfl
theorem YK:Ak Tryz.prog 186 [.str [112,117,116]] (.bool true):=by
 refine Af AU Tryz.func186 (by decide +kernel) rfl [1,2] rfl rfl ?_;refine tg [.a,.a,.a,.a,.a,.a,.a,.a,.a,.a,.a,.a,.a,.a,.a,.a,.a,.a,.a] rfl (by simp) ?_;exact Aa rfl rfl rfl
theorem YJ:Ak Tryz.prog 186 [.str [114,101,115,101,116]] (.bool true):=by
 refine Af AU Tryz.func186 (by decide +kernel) rfl [1,2] rfl rfl ?_;refine tg [.a,.a,.a,.a,.a,.a,.a,.a,.a,.a,.a,.a,.a,.a,.a,.a,.a,.a,.a,.a] rfl (by simp) ?_;exact Aa rfl rfl rfl
theorem YI:Ak Tryz.prog 186 [.str [115,101,110,100]] (.bool true):=by
 refine Af AU Tryz.func186 (by decide +kernel) rfl [1,2] rfl rfl ?_;refine tg [.a,.a,.a,.a,.a,.a,.a,.a,.a,.a,.a,.a,.a,.a,.a,.a,.a,.a,.a,.a,.a] rfl (by simp) ?_;exact Aa rfl rfl rfl
theorem YH:Ak Tryz.prog 186 [.str [115,104,105,102,116]] (.bool true):=by
 refine Af AU Tryz.func186 (by decide +kernel) rfl [1,2] rfl rfl ?_;refine tg [.a,.a,.a,.a,.a,.a,.a,.a,.a,.a,.a,.a,.a,.a,.a,.a,.a,.a,.a,.a,.a,.a] rfl (by simp) ?_;exact Aa rfl rfl rfl
theorem YG:Ak Tryz.prog 186 [.str [115,112,97,119,110]] (.bool true):=by
 refine Af AU Tryz.func186 (by decide +kernel) rfl [1,2] rfl rfl ?_;refine tg [.a,.a,.a,.a,.a,.a,.a,.a,.a,.a,.a,.a,.a,.a,.a,.a,.a,.a,.a,.a,.a,.a,.a] rfl (by simp) ?_;exact Aa rfl rfl rfl
theorem YF:Ak Tryz.prog 186 [.str [116,97,107,101]] (.bool true):=by
 refine Af AU Tryz.func186 (by decide +kernel) rfl [1,2] rfl rfl ?_;refine tg [.a,.a,.a,.a,.a,.a,.a,.a,.a,.a,.a,.a,.a,.a,.a,.a,.a,.a,.a,.a,.a,.a,.a,.a] rfl (by simp) ?_;exact Aa rfl rfl rfl
theorem YE:Ak Tryz.prog 186 [.str [116,97,115,107]] (.bool true):=by
 refine Af AU Tryz.func186 (by decide +kernel) rfl [1,2] rfl rfl ?_;refine tg [.a,.a,.a,.a,.a,.a,.a,.a,.a,.a,.a,.a,.a,.a,.a,.a,.a,.a,.a,.a,.a,.a,.a,.a,.a] rfl (by simp) ?_;exact Aa rfl rfl rfl
theorem YC:Ak Tryz.prog 186 [.str [116,104,101,110]] (.bool true):=by
 refine Af AU Tryz.func186 (by decide +kernel) rfl [1,2] rfl rfl ?_;refine tg [.a,.a,.a,.a,.a,.a,.a,.a,.a,.a,.a,.a,.a,.a,.a,.a,.a,.a,.a,.a,.a,.a,.a,.a,.a,.a] rfl (by simp) ?_;exact Aa rfl rfl rfl
theorem YB:Ak Tryz.prog 186 [.str [116,114,117,101]] (.bool true):=by
 refine Af AU Tryz.func186 (by decide +kernel) rfl [1,2] rfl rfl ?_;refine tg [.a,.a,.a,.a,.a,.a,.a,.a,.a,.a,.a,.a,.a,.a,.a,.a,.a,.a,.a,.a,.a,.a,.a,.a,.a,.a,.a] rfl (by simp) ?_;exact Aa rfl rfl rfl
theorem YA:Ak Tryz.prog 186 [.str [116,121,112,101]] (.bool true):=by
 refine Af AU Tryz.func186 (by decide +kernel) rfl [1,2] rfl rfl ?_;refine tg [.a,.a,.a,.a,.a,.a,.a,.a,.a,.a,.a,.a,.a,.a,.a,.a,.a,.a,.a,.a,.a,.a,.a,.a,.a,.a,.a,.a] rfl (by simp) ?_;exact Aa rfl rfl rfl
theorem Y9:Ak Tryz.prog 186 [.str [117,110,105,116]] (.bool true):=by
 refine Af AU Tryz.func186 (by decide +kernel) rfl [1,2] rfl rfl ?_;refine tg [.a,.a,.a,.a,.a,.a,.a,.a,.a,.a,.a,.a,.a,.a,.a,.a,.a,.a,.a,.a,.a,.a,.a,.a,.a,.a,.a,.a,.a] rfl (by simp) ?_;exact Aa rfl rfl rfl
theorem Y7 (s:Str):Ak Tryz.prog 186 [.str s] (.bool (UW s)):=by
 cases h:UW s with
 | false=>exact Y8 s h
 | true =>
  simp only [UW,IE,G7,Bool.or_eq_true,beq_iff_eq,Bool.or_false] at h;rcases h with rfl | rfl | rfl | rfl | rfl | rfl | rfl | rfl | rfl | rfl | rfl | rfl | rfl | rfl | rfl | rfl | rfl | rfl | rfl | rfl | rfl | rfl | rfl | rfl | rfl | rfl | rfl | rfl
  ·exact dT
  ·exact dS
  ·exact dR
  ·exact dQ
  ·exact dP
  ·exact dO
  ·exact dN
  ·exact dM
  ·exact dL
  ·exact dK
  ·exact YR
  ·exact YQ
  ·exact YP
  ·exact YO
  ·exact YN
  ·exact YM
  ·exact YL
  ·exact YK
  ·exact YJ
  ·exact YI
  ·exact YH
  ·exact YG
  ·exact YF
  ·exact YE
  ·exact YC
  ·exact YB
  ·exact YA
  ·exact Y9
theorem Hd (s:Str):Ak Tryz.prog 163 [.str s] (.bool (EU s)):=by
 refine Af AU Tryz.func163 (by decide +kernel) rfl [1,2] rfl rfl ?_;refine Cq rfl ?_;refine Ad rfl (v:=.bool (EC s)) (λh=>SW s) (by simp [An]) ?_;refine Cq rfl ?_;refine Ad rfl (v:=.bool (UW s)) (λh=>Y7 s) (by simp [An]) ?_;refine Cq rfl ?_;refine Aa rfl rfl (congrArg _ ?_);cases s with
 | nil=>simp [EU]
 | cons a r=>simp [EU];norm_cast;simp
theorem DL (s:Str):Ak Tryz.prog 174 [.str s] (.bool (Di s)):=by
 refine Af AU Tryz.func174 (by decide +kernel) rfl [1,2] rfl rfl ?_;refine tg [] rfl (by cases s with | nil=>simp [An] | cons a r=>simp [An];omega) ?_;refine Ad rfl (v:=.bool (EC (s.drop 1))) (λh=>SW _) (by simp [An]) ?_;refine Cq rfl ?_;refine Aa rfl rfl (congrArg _ ?_);cases s with
 | nil=>simp [Di]
 | cons a r=>simp [Di,UInt8.le_iff_toNat_le,Bool.and_assoc];norm_cast;simp
def CG (n:Int):Bool:=decide (-1000000000<=n)&&decide (n<=1000000000)
theorem Jx (n:Int):Ak Tryz.prog 173 [.int .i64 n] (.bool (CG n)):=by
 refine Af AU Tryz.func173 (by decide +kernel) rfl [1,2] rfl rfl ?_;refine Cq rfl ?_;refine Aa rfl rfl (congrArg _ ?_);simp [CG]
def HE:D:=.imm (.tup [])
theorem L7 (holes:Bool):∀(t:Ty),CW holes t=true->Bg Tryz.prog 169 [.imm (.agg (dTyc t)),.imm (.bool holes)] [] (.ret HE [])
 | .mk s n x ps,hy=>by
  refine E8 0 rfl λhok=>?_;have hv:ps.length<=9223372036854775807:=by
   simp [Cx,EM,dTyc,maxLen] at hok;have:=hok.1;omega
  simp only [CW,Bool.and_eq_true_iff] at hy;refine Af AU Tryz.func169 (by decide +kernel) rfl [1,2,3] rfl rfl ?_;have J:∀p:Nat,Cl holes s n x ps.length=(((ps.length:Int) == (p:Int))&&(s == 9||n == 0)&&(s == 8||x == []))->DGo Tryz.prog Tryz.f169.ntmps (D8 []) (K5 fU Tryz.f169.results.toList (.ret HE []))
    [.code (EN Tryz.f169 3)] [(4,.imm (.int .i64 p)),(1,.imm (.bool holes)),(2,.ref 1 0)] [(1,some (.immb 26 4 (dTyc (.mk s n x ps))))] [2,3]:=by
   intro p hp;have hc:(((ps.length:Int) == (p:Int))&&(s == 9||n == 0)&&(s == 8||x == []))=true:=by rw [<- hp];exact hy.1
   refine td [] rfl (by simp [An];grind) ?_;refine Ad rfl (λ_=>B9 _ ?_) (by simp) ?_
   ·simp at hc ⊢;grind
   refine Cq rfl ?_;refine Am (λi:Nat=>[(69,.imm (.int .i64 i)),(68,.imm (.int .i64 ps.length)),(67,.imm (.sl (BQ ps))),(1,.imm (.bool holes)),(2,.ref 1 0)]) (λ_=>[(1,some (.immb 26 4 (dTyc (.mk s n x ps))))]) [2,3] (λi=>ps.length-i)
    (λi=>i<=ps.length/\Da holes (ps.drop i)=true) 0 ⟨Nat.zero_le _,hy.2⟩ ⟨rfl,A3 (by simp),rfl,rfl,rfl,trivial⟩ ⟨rfl,trivial⟩ rfl λi hi ih=>?_
   refine GF rfl ?_;have hi2:=hi.2;refine Ab rfl (λh=>?_) (λh=>?_)
   ·simp at h;obtain ⟨t,ht⟩:=Ap h;rw [Av ht] at hi2;simp only [Da,Bool.and_eq_true_iff] at hi2;refine GF rfl ?_;refine ti rfl (c:=dTyc t) (λ_=>⟨by simp,by simpa using A5 ht,by simp⟩) (by simp) ?_;refine Cq rfl ?_;refine A9 (fr:=[]) [] [] rfl (by simp) (L7 holes t hi2.1) trivial rfl rfl rfl rfl ?_;refine Cq rfl ?_;exact Ae (ih (i+1) (by omega) ⟨by omega,hi2.2⟩) ⟨A3 (BI (by omega) (by omega)),rfl,rfl,rfl,rfl,trivial⟩ ⟨rfl,trivial⟩ rfl
   ·refine GF rfl ?_;exact C8 ⟨_,rfl,rfl,trivial⟩
  by_cases h1:s=1
  ·subst h1;refine tg [.a,.a,.s] rfl (by simp) ?_;exact Ae (J 0 (by simp [Cl])) ⟨rfl,rfl,rfl,trivial⟩ ⟨rfl,trivial⟩ rfl
  by_cases h2:s=2
  ·subst h2;refine tg [.a,.a,.a,.s] rfl (by simp) ?_;exact Ae (J 0 (by simp [Cl])) ⟨rfl,rfl,rfl,trivial⟩ ⟨rfl,trivial⟩ rfl
  by_cases h3:s=3
  ·subst h3;refine tg [.a,.a,.a,.s] rfl (by simp) ?_;exact Ae (J 0 (by simp [Cl])) ⟨rfl,rfl,rfl,trivial⟩ ⟨rfl,trivial⟩ rfl
  by_cases h4:s=4
  ·subst h4;refine tg [.a,.a,.a,.a,.s] rfl (by simp) ?_;exact Ae (J 2 (by simp [Cl])) ⟨rfl,rfl,rfl,trivial⟩ ⟨rfl,trivial⟩ rfl
  by_cases h5:s=5
  ·subst h5;refine tg [.a,.a,.a,.a,.a,.a,.s] rfl (by simp) ?_;exact Ae (J 1 (by simp [Cl])) ⟨rfl,rfl,rfl,trivial⟩ ⟨rfl,trivial⟩ rfl
  by_cases h6:s=6
  ·subst h6;refine tg [.a,.a,.a,.a,.a,.a,.a,.s] rfl (by simp) ?_;exact Ae (J 1 (by simp [Cl])) ⟨rfl,rfl,rfl,trivial⟩ ⟨rfl,trivial⟩ rfl
  by_cases h7:s=7
  ·subst h7;refine tg [.a,.a,.a,.a,.a,.a,.a,.s] rfl (by simp) ?_;exact Ae (J 1 (by simp [Cl])) ⟨rfl,rfl,rfl,trivial⟩ ⟨rfl,trivial⟩ rfl
  by_cases h8:s=8
  ·subst h8;by_cases hg:Di x=true
   ·refine tg [.a,.a,.a,.a,.a,.a,.a,.a] rfl (by simp [An]) ?_;refine Ad rfl (λ_=>DL x) (by simp) ?_;refine Cq rfl ?_;refine Ad rfl (λ_=>B9 _ hg) (by simp) ?_;refine tg [.s] rfl (by simp) ?_;exact Ae (J 0 (by simp [Cl,hg])) ⟨rfl,rfl,rfl,trivial⟩ ⟨rfl,trivial⟩ rfl
   ·exfalso;have:=hy.1;simp [Cl] at this;simp at hg;grind
  by_cases h9:s=9
  ·subst h9;by_cases hg:(holes&&F4 n 0 99)=true
   ·refine tg [.a,.a,.a,.a,.a,.a,.a,.a,.a] rfl (by simp [An]) ?_;refine Ad rfl (λ_=>B9 _ (by simp [F4] at hg ⊢;grind)) (by simp) ?_;refine tg [.s] rfl (by simp) ?_;exact Ae (J 0 (by simp [Cl,F4] at hg ⊢;grind)) ⟨rfl,rfl,rfl,trivial⟩ ⟨rfl,trivial⟩ rfl
   ·exfalso;have:=hy.1;simp [Cl] at this;simp at hg;grind
  exfalso;have:=hy.1;simp [Cl,h1,h2,h3,h4,h5,h6,h7,h8,h9] at this
termination_by t=>SizeOf.sizeOf t
decreasing_by
 all_goals
  have:=List.sizeOf_lt_of_mem (List.mem_of_getElem? ht);simp_wf;omega
theorem SV (holes:Bool):∀(t:Ty),CW holes t=false->Bg Tryz.prog 169 [.imm (.agg (dTyc t)),.imm (.bool holes)] [] (.pan F9)
 | .mk s n x ps,hy=>by
  refine E8 0 rfl λhok=>?_;have hv:ps.length<=9223372036854775807:=by
   simp [Cx,EM,dTyc,maxLen] at hok;have:=hok.1;omega
  simp only [CW,Bool.and_eq_false_iff] at hy;refine Af AU Tryz.func169 (by decide +kernel) rfl [1,2,3] rfl rfl ?_;have J:∀p:Nat,Cl holes s n x ps.length=(((ps.length:Int) == (p:Int))&&(s == 9||n == 0)&&(s == 8||x == []))->DGo Tryz.prog Tryz.f169.ntmps (D8 []) (K5 fU Tryz.f169.results.toList (.pan F9))
    [.code (EN Tryz.f169 3)] [(4,.imm (.int .i64 p)),(1,.imm (.bool holes)),(2,.ref 1 0)] [(1,some (.immb 26 4 (dTyc (.mk s n x ps))))] [2,3]:=by
   intro p hp;by_cases hc:(((ps.length:Int) == (p:Int))&&(s == 9||n == 0)&&(s == 8||x == []))=true
   rotate_left
   ·refine td [] rfl (by simp [An];grind) ?_;exact AC [] rfl (by simp) (Cj _ (by simp at hc ⊢;grind)) trivial rfl rfl
   rw [hp,hc] at hy;simp only [Bool.true_eq_false,false_or] at hy;refine td [] rfl (by simp [An];grind) ?_;refine Ad rfl (λ_=>B9 _ ?_) (by simp) ?_
   ·simp at hc ⊢;grind
   refine Cq rfl ?_;refine Am (λi:Nat=>[(69,.imm (.int .i64 i)),(68,.imm (.int .i64 ps.length)),(67,.imm (.sl (BQ ps))),(1,.imm (.bool holes)),(2,.ref 1 0)]) (λ_=>[(1,some (.immb 26 4 (dTyc (.mk s n x ps))))]) [2,3] (λi=>ps.length-i)
    (λi=>i<=ps.length/\Da holes (ps.drop i)=false) 0 ⟨Nat.zero_le _,hy⟩ ⟨rfl,A3 (by simp),rfl,rfl,rfl,trivial⟩ ⟨rfl,trivial⟩ rfl λi hi ih=>?_
   refine GF rfl ?_;have hi2:=hi.2;refine Ab rfl (λh=>?_) (λh=>?_)
   ·simp at h;obtain ⟨t,ht⟩:=Ap h;rw [Av ht] at hi2;simp only [Da,Bool.and_eq_false_iff] at hi2;refine GF rfl ?_;refine ti rfl (c:=dTyc t) (λ_=>⟨by simp,by simpa using A5 ht,by simp⟩) (by simp) ?_;refine Cq rfl ?_;by_cases hz:CW holes t=true
    ·refine A9 (fr:=[]) [] [] rfl (by simp) (L7 holes t hz) trivial rfl rfl rfl rfl ?_;refine Cq rfl ?_;exact Ae (ih (i+1) (by omega) ⟨by omega,by rw [hz] at hi2;simpa using hi2⟩) ⟨A3 (BI (by omega) (by omega)),rfl,rfl,rfl,rfl,trivial⟩ ⟨rfl,trivial⟩ rfl
    ·exact AC [] rfl (by simp) (SV holes t (by simpa using hz)) trivial rfl rfl
   ·exfalso;simp at h;rw [List.drop_eq_nil_of_le (by omega)] at hi2;simp [Da] at hi2
  by_cases h1:s=1
  ·subst h1;refine tg [.a,.a,.s] rfl (by simp) ?_;exact Ae (J 0 (by simp [Cl])) ⟨rfl,rfl,rfl,trivial⟩ ⟨rfl,trivial⟩ rfl
  by_cases h2:s=2
  ·subst h2;refine tg [.a,.a,.a,.s] rfl (by simp) ?_;exact Ae (J 0 (by simp [Cl])) ⟨rfl,rfl,rfl,trivial⟩ ⟨rfl,trivial⟩ rfl
  by_cases h3:s=3
  ·subst h3;refine tg [.a,.a,.a,.s] rfl (by simp) ?_;exact Ae (J 0 (by simp [Cl])) ⟨rfl,rfl,rfl,trivial⟩ ⟨rfl,trivial⟩ rfl
  by_cases h4:s=4
  ·subst h4;refine tg [.a,.a,.a,.a,.s] rfl (by simp) ?_;exact Ae (J 2 (by simp [Cl])) ⟨rfl,rfl,rfl,trivial⟩ ⟨rfl,trivial⟩ rfl
  by_cases h5:s=5
  ·subst h5;refine tg [.a,.a,.a,.a,.a,.a,.s] rfl (by simp) ?_;exact Ae (J 1 (by simp [Cl])) ⟨rfl,rfl,rfl,trivial⟩ ⟨rfl,trivial⟩ rfl
  by_cases h6:s=6
  ·subst h6;refine tg [.a,.a,.a,.a,.a,.a,.a,.s] rfl (by simp) ?_;exact Ae (J 1 (by simp [Cl])) ⟨rfl,rfl,rfl,trivial⟩ ⟨rfl,trivial⟩ rfl
  by_cases h7:s=7
  ·subst h7;refine tg [.a,.a,.a,.a,.a,.a,.a,.s] rfl (by simp) ?_;exact Ae (J 1 (by simp [Cl])) ⟨rfl,rfl,rfl,trivial⟩ ⟨rfl,trivial⟩ rfl
  by_cases h8:s=8
  ·subst h8;by_cases hg:Di x=true
   ·refine tg [.a,.a,.a,.a,.a,.a,.a,.a] rfl (by simp [An]) ?_;refine Ad rfl (λ_=>DL x) (by simp) ?_;refine Cq rfl ?_;refine Ad rfl (λ_=>B9 _ hg) (by simp) ?_;refine tg [.s] rfl (by simp) ?_;exact Ae (J 0 (by simp [Cl,hg])) ⟨rfl,rfl,rfl,trivial⟩ ⟨rfl,trivial⟩ rfl
   ·refine tg [.a,.a,.a,.a,.a,.a,.a,.a] rfl (by simp [An]) ?_;refine Ad rfl (λ_=>DL x) (by simp) ?_;refine Cq rfl ?_;exact AC [] rfl (by simp) (Cj _ (by simpa using hg)) trivial rfl rfl
  by_cases h9:s=9
  ·subst h9;by_cases hg:(holes&&F4 n 0 99)=true
   ·refine tg [.a,.a,.a,.a,.a,.a,.a,.a,.a] rfl (by simp [An]) ?_;refine Ad rfl (λ_=>B9 _ (by simp [F4] at hg ⊢;grind)) (by simp) ?_;refine tg [.s] rfl (by simp) ?_;exact Ae (J 0 (by simp [Cl,F4] at hg ⊢;grind)) ⟨rfl,rfl,rfl,trivial⟩ ⟨rfl,trivial⟩ rfl
   ·refine tg [.a,.a,.a,.a,.a,.a,.a,.a,.a] rfl (by simp [An]) ?_;exact AC [] rfl (by simp) (Cj _ (by simp [F4] at hg ⊢;grind)) trivial rfl rfl
  refine tg [.f,.f,.f,.f,.f,.f,.f,.f,.f] rfl (by simp [h1,h2,h3,h4,h5,h6,h7,h8,h9]) ?_;exact AC [] rfl (by simp) (Cj _ rfl) trivial rfl rfl
termination_by t=>SizeOf.sizeOf t
decreasing_by
 all_goals
  have:=List.sizeOf_lt_of_mem (List.mem_of_getElem? ht);simp_wf;omega
theorem hmf:∀(fn:Fn) (first cap:Array Value) (w:World),(Instr.makeFunc fn first cap).run Tryz.prog w = .ok (.func fn first cap) w:=λ_ _ _ _=>rfl
theorem WP (p:Addr) (w:World) :
  CallsD Tryz.prog 194 #[.pointer (some p)] .returning w λe u' w'=>e = .returned (.tuple #[])/\u' = .returning/\w'=w:=by
 refine callsD_of_wpS Tryz.func194 rfl λc₀ cs hu=>?_;apply wpS_seq;apply wpS_region;simp [wpOpsS,go_sem,recoverD,hu,Tryz.ntmps194,Exit.thenS];apply wpS_seq;apply wpS_region;simp [wpOpsS,go_sem,Exit.thenS];refine wpS_cond (t:=false) (by simp [Act.eval,Array.replicate]) ?_;simp only [if_false,Bool.false_eq_true];refine wpS_of_wp (wp_skip ?_);cases c₀;simp_all [bodyPostS,results,Tryz.results194]
theorem WQ (pb:Nat) (x:Value) (w:World) (hpb:pb<w.heap.size) (hx:w.cell? ⟨pb,0,none⟩=some x) (hz:w.frozen? ⟨pb,0,none⟩=false) :
  CallsD Tryz.prog 194 #[.pointer (some ⟨pb,0,none⟩)] (.panicking [{ v:=.iface 267 (.agg #[]),recovered:=false }]) w λe u' w'=>e = .returned (.tuple #[]) /\
   u' = .panicking [{ v:=.iface 267 (.agg #[]),recovered:=true }]/\w'=(w.setCell ⟨pb,0,none⟩ (.bool false)).alloc (.cells #[] 267):=by
 refine callsD_of_wpS Tryz.func194 rfl λc₀ cs hu=>?_;change Code.wpS _ _ _ { tmps:=#[.pointer (some ⟨pb,0,none⟩),undef,undef,undef,undef,undef,undef,undef,undef,undef,undef,undef,undef,undef,undef],defers:=[] } _ _;apply wpS_seq;apply wpS_region;simp [wpOpsS,go_sem,recoverD,hu,Tryz.ntmps194,Exit.thenS];apply wpS_seq;apply wpS_region;simp [wpOpsS,go_sem,Exit.thenS];refine wpS_cond (t:=true) (by simp [Act.eval,Array.replicate]) ?_;simp only [if_true];refine wpS_of_wp ?_;clear hu;have hta:∀w:World,(Instr.typeAssert (.iface 267 (.agg #[])) 20 267 true).run Tryz.prog w = .ok (.tuple #[.agg #[],.bool true]) w:=λ_=>by kernel_rfl
 have hx':(w.alloc (.cells #[] 267)).cell? ⟨pb,0,none⟩=some x:=by rw [World.cell?_alloc_past _ _ _ hpb];exact hx
 have hz':(w.alloc (.cells #[] 267)).frozen? ⟨pb,0,none⟩=false:=by rw [RowKit.frozen?_alloc_cells];exact hz
 go_wp2
 simp [bodyPostS,results,Tryz.results194]
theorem WL (g:FuncId) (fi ca:Array Value) (w:World) (K:World->Prop) (Kp:World->Prop)
  (hen:(callFunc g (fi++ca)).run Tryz.prog (w.alloc (.cells #[.bool false] 4)) = .ok (.enter g (fi++ca)) (w.alloc (.cells #[.bool false] 4)))
  (hcall:Calls Tryz.prog g (fi++ca) (w.alloc (.cells #[.bool false] 4)) λe w'=>match e with
   | .returned _=>K w'
   | .panicked chain=>chain=[{ v:=.iface 267 (.agg #[]),recovered:=false }]/\Kp w'
   | .outgrown=>False)
  (hK:∀w',K w'->w'.heap[w.heap.size]?=some (.cells #[.bool false] 4 (0,0))) (hKp:∀w',Kp w'->w'.heap[w.heap.size]?=some (.cells #[.bool false] 4 (0,0))) :
  Calls Tryz.prog 170 #[.func (.func g) fi ca] w λe w'=>(e = .returned (.bool true)/\∃w1,K w1/\w'=w1.setCell ⟨w.heap.size,0,none⟩ (.bool true)) \/
   (e = .returned (.bool false)/\∃w1,Kp w1/\w'=(w1.setCell ⟨w.heap.size,0,none⟩ (.bool false)).alloc (.cells #[] 267)):=by
 go_enter_defers Tryz.func170,Tryz.ntmps170
 have hmf:=hmf
 go_wp2_with fail
 clear hen;refine hcall.mono ?_;intro e w' he;cases e with
 | outgrown=>exact he.elim
 | returned v =>
  have hc:w'.cell? ⟨w.heap.size,0,none⟩=some (.bool false):=by unfold World.cell?;simp [hK w' he]
  have hz:w'.frozen? ⟨w.heap.size,0,none⟩=false:=by unfold World.frozen?;simp [hK w' he]
  simp only
  go_wp2
  refine leaves_cons (f:=194) (args:=#[.pointer (some ⟨w.heap.size,0,none⟩)]) (by simp) (by simp [go_sem]) ?_;refine (WP ⟨w.heap.size,0,none⟩ _).mono ?_;rintro e u' w'' ⟨rfl,rfl,rfl⟩;simp [Leaves,settle,results,Tryz.results170,go_sem,hc];exact ⟨w',he,rfl⟩
 | panicked chain =>
  obtain ⟨rfl,he⟩:=he;have hc:w'.cell? ⟨w.heap.size,0,none⟩=some (.bool false):=by unfold World.cell?;simp [hKp w' he]
  have hz:w'.frozen? ⟨w.heap.size,0,none⟩=false:=by unfold World.frozen?;simp [hKp w' he]
  have hlt:w.heap.size<w'.heap.size:=(Array.getElem?_eq_some_iff.1 (hKp w' he)).1;refine leaves_cons (f:=194) (args:=#[.pointer (some ⟨w.heap.size,0,none⟩)]) (by simp) (by simp [go_sem]) ?_;refine (WQ w.heap.size _ _ hlt hc hz).mono ?_;rintro e u' w'' ⟨rfl,rfl,rfl⟩;have hc2:((w'.setCell ⟨w.heap.size,0,none⟩ (.bool false)).alloc (.cells #[] 267)).cell? ⟨w.heap.size,0,none⟩=some (.bool false):=by
   rw [Ik (hKp w' he),World.cell?_alloc_past _ _ _ (by simpa using hlt)];unfold World.cell?;simp [hlt]
  simp [Leaves,settle,results,Tryz.results170,go_sem,hc2];exact ⟨w',he,rfl⟩
theorem J4:Ov Tryz.prog 170 267 4:=λg fi ca w K Kp h1 h2 h3 h4=>WL g fi ca w K Kp h1 h2 h3 h4
theorem Nm {g : FuncId} {fg : Func} {cg : Code} (hg : Tryz.prog.funcs[g]? = some fg) (hn : (fg.name == "runtime.NumGoroutine") = false) (hc : fg.body = some cg) {t1 : TypeId} {s1 : Nat} {x1 y1 : List V} (hE : Bg Tryz.prog g [.ref 1 0] [(1, some (.immb t1 s1 x1))] (.ret HE [(1, some (.immb t1 s1 y1))])) :
  Bg Tryz.prog 128 [.fn (.func g) [] [.ref 1 0]] [(1,some (.immb t1 s1 x1))] (.ret (.imm (.int .i64 0)) [(1,some (.immb t1 s1 y1))]):=by
 refine Af AU Tryz.func128 (by decide +kernel) rfl [2,3,4] rfl rfl ?_;refine Cq rfl ?_;refine A9 (fr:=[]) [(1,1)] [] rfl (by simp) (TS Tryz.func170 (by decide +kernel) rfl J4 hg hn hc hE) ⟨⟨rfl,rfl,rfl⟩,trivial⟩ rfl rfl rfl rfl ?_;refine tg [.a] rfl (by simp) ?_;exact Au ⟨_,rfl,tV rfl,⟨rfl,trivial⟩⟩
theorem Ps {g : FuncId} {fg : Func} {cg : Code} (hg : Tryz.prog.funcs[g]? = some fg) (hn : (fg.name == "runtime.NumGoroutine") = false) (hc : fg.body = some cg) {t1 : TypeId} {s1 : Nat} {x1 : List V} (hE : Bg Tryz.prog g [.ref 1 0] [(1, some (.immb t1 s1 x1))] (.pan F9)) :
  Bg Tryz.prog 128 [.fn (.func g) [] [.ref 1 0]] [(1,some (.immb t1 s1 x1))] (.ret (.imm (.int .i64 2)) []):=by
 refine Af AU Tryz.func128 (by decide +kernel) rfl [2,3,4] rfl rfl ?_;refine Cq rfl ?_;refine A9 (fr:=[]) [(1,1)] [] rfl (by simp) (WK Tryz.func170 (by decide +kernel) rfl J4 hg hn hc hE) ⟨⟨rfl,rfl,rfl⟩,trivial⟩ rfl rfl rfl rfl ?_;refine tg [.a] rfl (by simp) ?_;exact Aa rfl rfl rfl
theorem Vl {g : FuncId} {fg : Func} {cg : Code} (hg : Tryz.prog.funcs[g]? = some fg) (hn : (fg.name == "runtime.NumGoroutine") = false) (hc : fg.body = some cg) {t1 t2 : TypeId} {s1 s2 : Nat} {x1 x2 y1 y2 : List V} (hE : Bg Tryz.prog g [.ref 1 0, .ref 2 0] [(1, some (.immb t1 s1 x1)), (2, some (.immb t2 s2 x2))] (.ret HE [(1, some (.immb t1 s1 y1)), (2, some (.immb t2 s2 y2))])) :
  Bg Tryz.prog 128 [.fn (.func g) [] [.ref 1 0,.ref 2 0]] [(1,some (.immb t1 s1 x1)),(2,some (.immb t2 s2 x2))] (.ret (.imm (.int .i64 0)) [(1,some (.immb t1 s1 y1)),(2,some (.immb t2 s2 y2))]):=by
 refine Af AU Tryz.func128 (by decide +kernel) rfl [3,4,5] rfl rfl ?_;refine Cq rfl ?_;refine A9 (fr:=[]) [(1,1),(2,2)] [] rfl (by simp) (TS Tryz.func170 (by decide +kernel) rfl J4 hg hn hc hE) ⟨⟨rfl,rfl,rfl⟩,⟨⟨rfl,rfl,rfl⟩,trivial⟩⟩ rfl rfl rfl rfl ?_;refine tg [.a] rfl (by simp) ?_;exact Au ⟨_,rfl,tV rfl,⟨rfl,⟨rfl,trivial⟩⟩⟩
theorem X2 {g : FuncId} {fg : Func} {cg : Code} (hg : Tryz.prog.funcs[g]? = some fg) (hn : (fg.name == "runtime.NumGoroutine") = false) (hc : fg.body = some cg) {t1 t2 : TypeId} {s1 s2 : Nat} {x1 x2 : List V} (hE : Bg Tryz.prog g [.ref 1 0, .ref 2 0] [(1, some (.immb t1 s1 x1)), (2, some (.immb t2 s2 x2))] (.pan F9)) :
  Bg Tryz.prog 128 [.fn (.func g) [] [.ref 1 0,.ref 2 0]] [(1,some (.immb t1 s1 x1)),(2,some (.immb t2 s2 x2))] (.ret (.imm (.int .i64 2)) []):=by
 refine Af AU Tryz.func128 (by decide +kernel) rfl [3,4,5] rfl rfl ?_;refine Cq rfl ?_;refine A9 (fr:=[]) [(1,1),(2,2)] [] rfl (by simp) (WK Tryz.func170 (by decide +kernel) rfl J4 hg hn hc hE) ⟨⟨rfl,rfl,rfl⟩,⟨⟨rfl,rfl,rfl⟩,trivial⟩⟩ rfl rfl rfl rfl ?_;refine tg [.a] rfl (by simp) ?_;exact Aa rfl rfl rfl
def Kt (b:Bool):V:=.int .i64 (bif b then 0 else 2)
def Ce (holes:Bool) (t:Ty):Bool:=decide (Aj t<=12)&&CW holes t
theorem WY (t:Ty) (holes:Bool) (h:Ce holes t=true):Bg Tryz.prog 167 [.ref 1 0,.ref 2 0] [(1,some (.immb 26 4 (dTyc t))),(2,some (.immb 4 1 [.bool holes]))] (.ret HE [(1,some (.immb 26 4 (dTyc t))),(2,some (.immb 4 1 [.bool holes]))]):=by
 simp only [Ce,Bool.and_eq_true,decide_eq_true_eq] at h;refine Af AU Tryz.func167 (by decide +kernel) rfl [3,4,5] rfl rfl ?_;refine Cq rfl ?_;refine A9 (fr:=[]) [(3,1)] [] rfl (by simp) (KM t 12 (by omega) (by decide)) ⟨⟨rfl,rfl,rfl⟩,trivial⟩ rfl rfl rfl rfl ?_;refine Cq rfl ?_;refine A9 (fr:=[]) [] [] rfl (by simp) (L7 holes t h.2) trivial rfl rfl rfl rfl ?_;refine Cq rfl ?_;exact C8 ⟨_,rfl,rfl,⟨rfl,rfl,trivial⟩⟩
theorem YX (t:Ty) (holes:Bool) (h:Ce holes t=false):Bg Tryz.prog 167 [.ref 1 0,.ref 2 0] [(1,some (.immb 26 4 (dTyc t))),(2,some (.immb 4 1 [.bool holes]))] (.pan F9):=by
 simp only [Ce,Bool.and_eq_false_iff,decide_eq_false_iff_not] at h;refine Af AU Tryz.func167 (by decide +kernel) rfl [3,4,5] rfl rfl ?_;refine Cq rfl ?_;by_cases h1:Aj t<=12
 ·refine A9 (fr:=[]) [(3,1)] [] rfl (by simp) (KM t 12 (by omega) (by decide)) ⟨⟨rfl,rfl,rfl⟩,trivial⟩ rfl rfl rfl rfl ?_;refine Cq rfl ?_;exact AC [] rfl (by simp) (SV holes t (by simpa [h1] using h)) trivial rfl rfl
 ·exact AC [(3,1)] rfl (by simp) (WU t 12 (by omega) (by decide) (by decide)) ⟨⟨rfl,rfl,rfl⟩,trivial⟩ rfl rfl
theorem Ua (t:Ty) (holes:Bool):Ak Tryz.prog 126 [.agg (dTyc t),.bool holes] (Kt (Ce holes t)):=by
 refine Af AU Tryz.func126 (by decide +kernel) rfl [1,2,3] rfl rfl ?_;refine Cq rfl ?_;cases h:Ce holes t with
 | true =>
  refine A9 (fr:=[]) [(1,1),(2,2)] [] rfl (by simp) (Vl Tryz.func167 (by decide +kernel) rfl (WY t holes h)) ⟨⟨rfl,rfl,rfl⟩,⟨rfl,rfl,rfl⟩,trivial⟩ rfl rfl rfl rfl ?_;refine Cq rfl ?_;exact Aa rfl rfl rfl
 | false =>
  refine A9 (fr:=[]) [(1,1),(2,2)] [] rfl (by simp) (X2 Tryz.func167 (by decide +kernel) rfl (YX t holes h)) ⟨⟨rfl,rfl,rfl⟩,⟨rfl,rfl,rfl⟩,trivial⟩ rfl rfl rfl rfl ?_;refine Cq rfl ?_;exact Aa rfl rfl rfl
theorem Vt (t:Ty):Ak Tryz.prog 82 [.agg (dTyc t)] (Kt (Ce true t)):=by
 refine Af AU Tryz.func82 (by decide +kernel) rfl [1,2,3] rfl rfl ?_;refine Cq rfl ?_;refine Ad rfl (λ_=>Ua t true) (by simp [An]) ?_;refine Cq rfl ?_;exact Aa rfl rfl rfl
theorem Qj (t:Ty):Ak Tryz.prog 192 [.agg (dTyc t)] (.bool (Ce false t)):=by
 refine Af AU Tryz.func192 (by decide +kernel) rfl [1,2,3] rfl rfl ?_;refine Cq rfl ?_;refine Ad rfl (λ_=>Ua t false) (by simp [An]) ?_;refine Cq rfl ?_;refine Aa rfl rfl (congrArg _ ?_);cases Ce false t <;> rfl
def fW:TT:=fU++[
 (216,⟨.map 9 4,false,1,8,[.imm .nilmap]⟩)]
theorem Hc:TTok Tryz.prog fW:=.of_eq (l:=[4,3,9,165,26,69,162,27,5,24,23,172,163,67,167,171,75,22,169,72,70,37,267,213,1,216]) (by kernel_rfl)
section
variable {n:Nat} {F:List Nat} {Q:DQ} {env env':Env} {st st':St} {ids ids':List Nat} {k todo:List DI} {ob:List Prop}
theorem pd (path:List Pt) (h:run fW n 300 path todo env st ids [] = .at k env' st' ids' ob) (hob:AA ob) (hd:G Tryz.prog n F Q k env' st' ids'):DGo Tryz.prog n F Q todo env st ids:=Lv Hc EV 300 path h hob hd
theorem Yq (h:run fW n 300 [] todo env st ids [] = .at k env' st' ids' ob) (hd:G Tryz.prog n F Q k env' st' ids') (hob:AA ob:=by simp):DGo Tryz.prog n F Q todo env st ids:=pd [] h hob hd
theorem pdqc (h:run fW n 300 [] todo env st ids [] = .at k env' st' ids' ob) (hd:G Tryz.prog n F Q k env' st' ids') (hob:AA ob:=by simp [An]):DGo Tryz.prog n F Q todo env st ids:=pd [] h hob hd
theorem pg (path:List Pt) (h:run fW n 300 path todo env st ids [] = .at k env' st' ids' ob) (hob:AA ob) (hd:G Tryz.prog n F Q k env' st' ids'):G Tryz.prog n F Q todo env st ids:=Ks Hc EV 300 path h hob hd
theorem LH (h:run fW n 300 [] todo env st ids [] = .at k env' st' ids' ob) (hd:G Tryz.prog n F Q k env' st' ids') (hob:AA ob:=by simp):G Tryz.prog n F Q todo env st ids:=pg [] h hob hd
theorem We (h:run fW n 300 [] todo env st ids [] = .at k env' st' ids' ob) (hd:G Tryz.prog n F Q k env' st' ids') (hob:AA ob:=by simp [An]):G Tryz.prog n F Q todo env st ids:=pg [] h hob hd
theorem pi {es:List (List V)} {m:Int} {sz:Nat} {e:TypeId} {g:Option (Bool×Bool)} {ob:List Prop} {t:Nat} {todo':List DI} {c:List V} (h:P7 fW n env todo=some ⟨es,m,sz,e,g,ob,some t,todo'⟩)
  (hc:An g->0<=m/\es[m.toNat]?=some c/\c.length=sz) (hob:AA ob) (hk:G Tryz.prog n F Q todo' ((t,gD g (.ip e c 0))::env) st ids):G Tryz.prog n F Q todo env st ids:=Gg Hc h hc hob hk
end
def VM (l:List Str):List (V×V):=l.map λs=>(.str s,.bool true)
def Sr (l:List Str):Blk:=.map (VM l)
theorem ND (l:List Str):∀p∈VM l,Jv .str p.1=true:=by
 intro p hp;obtain ⟨s,_,rfl⟩:=List.mem_map.1 hp;rfl
theorem lL (s x:Str):(s == x)=(x == s):=by
 rw [Bool.eq_iff_iff,beq_iff_eq,beq_iff_eq];exact ⟨Eq.symm,Eq.symm⟩
theorem bW (l:List Str) (s:Str):C7 (VM l) (.str s)=if G7 l s then some (.bool true) else none:=by
 induction l with
 | nil=>rfl
 | cons x r ih =>
  simp only [VM,List.map_cons,C7,Xg,G7] at ih ⊢;rw [ih];by_cases h:x=s
  ·subst h;simp
  ·have h1:(s == x)=false:=by simpa using λe=>h e.symm
   have h2:(x == s)=false:=by simpa using h
   simp [h1,h2]
theorem Tf (l:List Str) (s:Str):Ep false (VM l) (.str s) (.bool false) = .imm (.bool (G7 l s)):=by
 simp only [Ep,bW];cases G7 l s <;> rfl
theorem gT (l:List Str) (s:Str) (h:G7 l s=false):Fa (VM l) (.str s) (.bool true)=VM (l++[s]):=by
 induction l with
 | nil=>rfl
 | cons x r ih =>
  simp only [G7,Bool.or_eq_false_iff] at h;have h1:(s == x)=false:=by rw [lL];exact h.1
  simp only [VM,List.map_cons,Fa,Xg,h1,List.cons_append] at ih ⊢;simp [ih h.2]
theorem G8:∀(a b p:List Str),Bd p (a++b)=(Bd p a&&Bd (p++a) b)
 | [],b,p=>by simp [Bd]
 | x::r,b,p=>by simp [Bd,G8 r b (p++[x]),Bool.and_assoc]
theorem N2:∀(t:Ty) (met:List Str),(BN t&&Bd met (Bs t))=true->Bg Tryz.prog 131 [.imm (.agg (dTyc t)),.mapr 1] [(1,some (Sr met))] (.ret HE [(1,some (Sr (met++Bs t)))])
 | .mk s n x ps,met,hy=>by
  refine E8 0 rfl λhok=>?_;have hv:ps.length<=9223372036854775807:=by
   simp [Cx,EM,dTyc,maxLen] at hok;have:=hok.1;omega
  refine Af Hc Tryz.func131 (by decide +kernel) rfl [2,3,4] rfl rfl ?_;have J:∀m0:List Str,(BD ps&&Bd m0 (AJ ps))=true->m0++AJ ps=met++Bs (.mk s n x ps)->DGo Tryz.prog Tryz.f131.ntmps (D8 [(1,some (Sr met))]) (K5 fW Tryz.f131.results.toList (.ret HE [(1,some (Sr (met++Bs (.mk s n x ps))))]))
    [.code (EN Tryz.f131 2)] [(1,.mapr 1),(2,.ref 2 0)] [(2,some (.immb 69 4 (dTyc (.mk s n x ps)))),(1,some (Sr m0))] [3,4]:=by
   intro m0 hy he;refine Yq rfl ?_;refine Am (λi:Nat=>[(113,.imm (.int .i64 i)),(112,.imm (.int .i64 ps.length)),(111,.imm (.sl (BQ ps))),(1,.mapr 1),(2,.ref 2 0)]) (λi=>[(2,some (.immb 69 4 (dTyc (.mk s n x ps)))),(1,some (Sr (m0++AJ (ps.take i))))]) [3,4] (λi=>ps.length-i)
    (λi=>i<=ps.length/\(BD (ps.drop i)&&Bd (m0++AJ (ps.take i)) (AJ (ps.drop i)))=true) 0 ⟨Nat.zero_le _,by simpa [AJ] using hy⟩ ⟨rfl,A3 (by simp),rfl,rfl,rfl,trivial⟩ ⟨rfl,by simp [AJ];rfl,trivial⟩ rfl λi hi ih=>?_
   refine Yq rfl ?_;have hi2:=hi.2;refine Ab rfl (λh=>?_) (λh=>?_)
   ·simp at h;obtain ⟨t,ht⟩:=Ap h;have htk:AJ (ps.take (i+1))=AJ (ps.take i)++Bs t:=by rw [Bn ht,E6];simp [AJ]
    rw [Av ht] at hi2;simp only [BD,AJ,G8] at hi2;refine Yq rfl ?_;refine pi rfl (c:=dTyc t) (λ_=>⟨by simp,by simpa using A5 ht,by simp⟩) (by simp) ?_;refine LH rfl ?_;refine A9 (fr:=[]) [(1,1)] [] rfl (by simp) (N2 t (m0++AJ (ps.take i)) (by simp only [Bool.and_eq_true] at hi2 ⊢;exact ⟨hi2.1.1,hi2.2.1⟩)) ⟨⟨rfl,rfl,rfl⟩,trivial⟩ rfl rfl rfl rfl ?_;refine LH rfl ?_;exact Ae (ih (i+1) (by omega) ⟨by omega,by rw [htk,<- List.append_assoc];simp only [Bool.and_eq_true] at hi2 ⊢;exact ⟨hi2.1.2,hi2.2.2⟩⟩) ⟨A3 (BI (by omega) (by omega)),rfl,rfl,rfl,rfl,trivial⟩ ⟨rfl,by rw [htk,<- List.append_assoc];rfl,trivial⟩ rfl
   ·refine Yq rfl ?_;simp at h;refine C8 ⟨_,rfl,rfl,⟨?_,trivial⟩⟩;rw [List.take_of_length_le (by omega),he];rfl
  simp only [BN,Bool.and_eq_true] at hy;obtain ⟨⟨hp,hps⟩,hdf⟩:=hy;by_cases h1:s=1
  ·subst h1;simp [Ea,F4] at hp;refine pg [.a,.a] rfl (by simp [An] <;> grind) ?_;refine Ad rfl (λ_=>B9 _ (by simp [CG] at hp ⊢;grind)) (by simp) ?_;refine pg [.s] rfl (by simp) ?_;exact Ae (J met (by simpa [Bs,hps] using hdf) (by simp [Bs])) ⟨rfl,rfl,trivial⟩ ⟨rfl,rfl,trivial⟩ rfl
  by_cases h5:s=5
  ·subst h5;simp [Ea,F4] at hp;refine pg [.a,.a] rfl (by simp [An] <;> grind) ?_;refine Ad rfl (λ_=>B9 _ (by simp [CG] at hp ⊢;grind)) (by simp) ?_;refine pg [.s] rfl (by simp) ?_;exact Ae (J met (by simpa [Bs,hps] using hdf) (by simp [Bs])) ⟨rfl,rfl,trivial⟩ ⟨rfl,rfl,trivial⟩ rfl
  by_cases h3:s=3
  ·subst h3;simp [Ea,F4] at hp;refine pg [.a,.a,.a,.a] rfl (by simp [An] <;> grind) ?_;refine Ad rfl (λ_=>Jx n) (by simp [An]) ?_;refine We rfl ?_;refine Ad rfl (λ_=>B9 _ (by simp [CG] at hp ⊢;grind)) (by simp) ?_;refine pg [.s] rfl (by simp) ?_;exact Ae (J met (by simpa [Bs,hps] using hdf) (by simp [Bs])) ⟨rfl,rfl,trivial⟩ ⟨rfl,rfl,trivial⟩ rfl
  by_cases h4:s=4
  ·subst h4;simp [Ea,F4] at hp;refine pg [.a,.a,.a,.a,.a] rfl (by simp [An] <;> grind) ?_;refine Ad rfl (λ_=>B9 _ (by obtain ⟨⟨rfl,rfl⟩,ha,hb⟩:=hp;have:n=0\/n=1:=(by omega);rcases this with rfl | rfl <;> simp)) (by simp) ?_;refine pg [.s] rfl (by simp) ?_;exact Ae (J met (by simpa [Bs,hps] using hdf) (by simp [Bs])) ⟨rfl,rfl,trivial⟩ ⟨rfl,rfl,trivial⟩ rfl
  by_cases h6:s=6
  ·subst h6;simp [Ea,F4] at hp;refine pg [.a,.a,.a,.a,.a,.a] rfl (by simp [An] <;> grind) ?_;refine Ad rfl (λ_=>DL x) (by simp [An]) ?_;refine We rfl ?_;refine Ad rfl (λ_=>B9 _ (by simp [CG] at hp ⊢;grind)) (by simp) ?_;refine pg [.s] rfl (by simp) ?_;exact Ae (J met (by simpa [Bs,hps] using hdf) (by simp [Bs])) ⟨rfl,rfl,trivial⟩ ⟨rfl,rfl,trivial⟩ rfl
  by_cases h2:s=2
  ·subst h2;simp [Ea,F4] at hp;refine pg [.a,.a,.a] rfl (by simp [An] <;> grind) ?_;refine Ad rfl (λ_=>Hd x) (by simp [An]) ?_;refine We rfl ?_;have hx:G7 met x=false:=by simpa [Bs,Bd] using hdf
   refine aE Hc 1 rfl rfl rfl (ND met) (by simp [An]) (z:=.bool false) rfl (λ_=>.bool _) (Tf met x) ?_;refine We rfl ?_;refine Ad rfl (λ_=>B9 _ (by simp at hp ⊢;rw [hx];grind)) (by simp) ?_;refine LH rfl ?_;refine YW Hc rfl rfl rfl (ND met) ?_;rw [gT met x hx];have he:ps=[]:=by simpa using hp.1.1
   subst he;refine pg [.s] rfl (by simp) ?_;exact Ae (J (met++[x]) (by simp [BD,AJ,Bd]) (by simp [Bs,AJ])) ⟨rfl,rfl,trivial⟩ ⟨rfl,rfl,trivial⟩ rfl
  exfalso;simp [Ea,h1,h2,h3,h4,h5,h6] at hp
termination_by t=>SizeOf.sizeOf t
decreasing_by
 all_goals
  have:=List.sizeOf_lt_of_mem (List.mem_of_getElem? ht);simp_wf;omega
theorem V9:∀(t:Ty) (met:List Str),(BN t&&Bd met (Bs t))=false->Bg Tryz.prog 131 [.imm (.agg (dTyc t)),.mapr 1] [(1,some (Sr met))] (.pan F9)
 | .mk s n x ps,met,hy=>by
  refine E8 0 rfl λhok=>?_;have hv:ps.length<=9223372036854775807:=by
   simp [Cx,EM,dTyc,maxLen] at hok;have:=hok.1;omega
  refine Af Hc Tryz.func131 (by decide +kernel) rfl [2,3,4] rfl rfl ?_;have J:∀m0:List Str,(BD ps&&Bd m0 (AJ ps))=false->DGo Tryz.prog Tryz.f131.ntmps (D8 [(1,some (Sr met))]) (K5 fW Tryz.f131.results.toList (.pan F9))
    [.code (EN Tryz.f131 2)] [(1,.mapr 1),(2,.ref 2 0)] [(2,some (.immb 69 4 (dTyc (.mk s n x ps)))),(1,some (Sr m0))] [3,4]:=by
   intro m0 hy;refine Yq rfl ?_;refine Am (λi:Nat=>[(113,.imm (.int .i64 i)),(112,.imm (.int .i64 ps.length)),(111,.imm (.sl (BQ ps))),(1,.mapr 1),(2,.ref 2 0)]) (λi=>[(2,some (.immb 69 4 (dTyc (.mk s n x ps)))),(1,some (Sr (m0++AJ (ps.take i))))]) [3,4] (λi=>ps.length-i)
    (λi=>i<=ps.length/\(BD (ps.drop i)&&Bd (m0++AJ (ps.take i)) (AJ (ps.drop i)))=false) 0 ⟨Nat.zero_le _,by simpa [AJ] using hy⟩ ⟨rfl,A3 (by simp),rfl,rfl,rfl,trivial⟩ ⟨rfl,by simp [AJ];rfl,trivial⟩ rfl λi hi ih=>?_
   refine Yq rfl ?_;have hi2:=hi.2;refine Ab rfl (λh=>?_) (λh=>?_)
   ·simp at h;obtain ⟨t,ht⟩:=Ap h;have htk:AJ (ps.take (i+1))=AJ (ps.take i)++Bs t:=by rw [Bn ht,E6];simp [AJ]
    rw [Av ht] at hi2;simp only [BD,AJ,G8] at hi2;refine Yq rfl ?_;refine pi rfl (c:=dTyc t) (λ_=>⟨by simp,by simpa using A5 ht,by simp⟩) (by simp) ?_;refine LH rfl ?_;by_cases hz:(BN t&&Bd (m0++AJ (ps.take i)) (Bs t))=true
    ·refine A9 (fr:=[]) [(1,1)] [] rfl (by simp) (N2 t (m0++AJ (ps.take i)) hz) ⟨⟨rfl,rfl,rfl⟩,trivial⟩ rfl rfl rfl rfl ?_;refine LH rfl ?_;exact Ae (ih (i+1) (by omega) ⟨by omega,by rw [htk,<- List.append_assoc];simp only [Bool.and_eq_true] at hz;rw [hz.1,hz.2] at hi2;simpa using hi2⟩) ⟨A3 (BI (by omega) (by omega)),rfl,rfl,rfl,rfl,trivial⟩ ⟨rfl,by rw [htk,<- List.append_assoc];rfl,trivial⟩ rfl
    ·exact AC [(1,1)] rfl (by simp) (V9 t (m0++AJ (ps.take i)) (by simpa using hz)) ⟨⟨rfl,rfl,rfl⟩,trivial⟩ rfl rfl
   ·exfalso;simp at h;rw [List.drop_eq_nil_of_le (by omega)] at hi2;simp [BD,AJ,Bd] at hi2
  by_cases h1:s=1
  ·subst h1;refine pg [.a,.a] rfl (by simp [An] <;> grind) ?_;by_cases hp:Ea 1 n x ps.length=true
   ·have hps:(BD ps&&Bd met (AJ ps))=false:=by simpa [BN,hp,Bs] using hy
    simp [Ea,F4] at hp;refine Ad rfl (λ_=>B9 _ (by simp [CG] at hp ⊢;grind)) (by simp) ?_;refine pg [.s] rfl (by simp) ?_;exact Ae (J met hps) ⟨rfl,rfl,trivial⟩ ⟨rfl,rfl,trivial⟩ rfl
   ·simp [Ea,F4] at hp;exact AC [] rfl (by simp) (Cj _ (by simp [CG] at hp ⊢;grind)) trivial rfl rfl
  by_cases h5:s=5
  ·subst h5;refine pg [.a,.a] rfl (by simp [An] <;> grind) ?_;by_cases hp:Ea 5 n x ps.length=true
   ·have hps:(BD ps&&Bd met (AJ ps))=false:=by simpa [BN,hp,Bs] using hy
    simp [Ea,F4] at hp;refine Ad rfl (λ_=>B9 _ (by simp [CG] at hp ⊢;grind)) (by simp) ?_;refine pg [.s] rfl (by simp) ?_;exact Ae (J met hps) ⟨rfl,rfl,trivial⟩ ⟨rfl,rfl,trivial⟩ rfl
   ·simp [Ea,F4] at hp;exact AC [] rfl (by simp) (Cj _ (by simp [CG] at hp ⊢;grind)) trivial rfl rfl
  by_cases h3:s=3
  ·subst h3;refine pg [.a,.a,.a,.a] rfl (by simp [An] <;> grind) ?_;refine Ad rfl (λ_=>Jx n) (by simp [An]) ?_;refine We rfl ?_;by_cases hp:Ea 3 n x ps.length=true
   ·have hps:(BD ps&&Bd met (AJ ps))=false:=by simpa [BN,hp,Bs] using hy
    simp [Ea,F4] at hp;refine Ad rfl (λ_=>B9 _ (by simp [CG] at hp ⊢;grind)) (by simp) ?_;refine pg [.s] rfl (by simp) ?_;exact Ae (J met hps) ⟨rfl,rfl,trivial⟩ ⟨rfl,rfl,trivial⟩ rfl
   ·simp [Ea,F4] at hp;exact AC [] rfl (by simp) (Cj _ (by simp [CG] at hp ⊢;grind)) trivial rfl rfl
  by_cases h4:s=4
  ·subst h4;refine pg [.a,.a,.a,.a,.a] rfl (by simp [An] <;> grind) ?_;by_cases hp:Ea 4 n x ps.length=true
   ·have hps:(BD ps&&Bd met (AJ ps))=false:=by simpa [BN,hp,Bs] using hy
    simp [Ea,F4] at hp;refine Ad rfl (λ_=>B9 _ (by obtain ⟨⟨rfl,rfl⟩,ha,hb⟩:=hp;have:n=0\/n=1:=(by omega);rcases this with rfl | rfl <;> simp)) (by simp) ?_;refine pg [.s] rfl (by simp) ?_;exact Ae (J met hps) ⟨rfl,rfl,trivial⟩ ⟨rfl,rfl,trivial⟩ rfl
   ·simp [Ea,F4] at hp;exact AC [] rfl (by simp) (Cj _ (by simp [CG] at hp ⊢;grind)) trivial rfl rfl
  by_cases h6:s=6
  ·subst h6;refine pg [.a,.a,.a,.a,.a,.a] rfl (by simp [An] <;> grind) ?_;refine Ad rfl (λ_=>DL x) (by simp [An]) ?_;refine We rfl ?_;by_cases hp:Ea 6 n x ps.length=true
   ·have hps:(BD ps&&Bd met (AJ ps))=false:=by simpa [BN,hp,Bs] using hy
    simp [Ea,F4] at hp;refine Ad rfl (λ_=>B9 _ (by simp [CG] at hp ⊢;grind)) (by simp) ?_;refine pg [.s] rfl (by simp) ?_;exact Ae (J met hps) ⟨rfl,rfl,trivial⟩ ⟨rfl,rfl,trivial⟩ rfl
   ·simp [Ea,F4] at hp;exact AC [] rfl (by simp) (Cj _ (by simp [CG] at hp ⊢;grind)) trivial rfl rfl
  by_cases h2:s=2
  ·subst h2;refine pg [.a,.a,.a] rfl (by simp [An] <;> grind) ?_;refine Ad rfl (λ_=>Hd x) (by simp [An]) ?_;refine We rfl ?_;refine aE Hc 1 rfl rfl rfl (ND met) (by simp [An]) (z:=.bool false) rfl (λ_=>.bool _) (Tf met x) ?_;refine We rfl ?_;refine AC [] rfl (by simp) (Cj _ ?_) trivial rfl rfl;simp [BN,Ea,Bs,Bd] at hy;cases hm:G7 met x with
   | true=>simp
   | false =>
    simp only [hm] at hy;by_cases hq:ps=[]
    ·subst hq;simp [BD] at hy ⊢;grind
    ·simp [hq]
  refine pg [.f,.f,.f,.f,.f,.f] rfl (by simp [h1,h2,h3,h4,h5,h6]) ?_;exact AC [] rfl (by simp) (Cj _ rfl) trivial rfl rfl
termination_by t=>SizeOf.sizeOf t
decreasing_by
 all_goals
  have:=List.sizeOf_lt_of_mem (List.mem_of_getElem? ht);simp_wf;omega
def BG (t:Ty):Bool:=decide (Aj t<=12)&&(BN t&&B1 (Bs t))
theorem SC (t:Ty) (h:BG t=true):Bg Tryz.prog 129 [.ref 1 0] [(1,some (.immb 69 4 (dTyc t)))] (.ret HE [(1,some (.immb 69 4 (dTyc t)))]):=by
 simp only [BG,Bool.and_eq_true,decide_eq_true_eq] at h;refine Af Hc Tryz.func129 (by decide +kernel) rfl [2,3,4] rfl rfl ?_;refine LH rfl ?_;refine A9 (fr:=[]) [(2,1)] [] rfl (by simp) (MO t 12 (by omega) (by decide)) ⟨⟨rfl,rfl,rfl⟩,trivial⟩ rfl rfl rfl rfl ?_;refine LH rfl ?_;refine PV rfl ?_;refine LH rfl ?_;refine A9 (fr:=[]) [(3,1)] [] rfl (by simp) (N2 t [] (by simpa [B1] using h.2)) ⟨⟨rfl,rfl,rfl⟩,trivial⟩ rfl rfl rfl rfl ?_;refine LH rfl ?_;exact C8 ⟨_,rfl,rfl,⟨rfl,trivial⟩⟩
theorem Vm (t:Ty) (h:BG t=false):Bg Tryz.prog 129 [.ref 1 0] [(1,some (.immb 69 4 (dTyc t)))] (.pan F9):=by
 refine Af Hc Tryz.func129 (by decide +kernel) rfl [2,3,4] rfl rfl ?_;refine LH rfl ?_;by_cases h1:Aj t<=12
 ·refine A9 (fr:=[]) [(2,1)] [] rfl (by simp) (MO t 12 (by omega) (by decide)) ⟨⟨rfl,rfl,rfl⟩,trivial⟩ rfl rfl rfl rfl ?_;refine LH rfl ?_;refine PV rfl ?_;refine LH rfl ?_;exact AC [(3,1)] rfl (by simp) (V9 t [] (by simpa [BG,h1,B1] using h)) ⟨⟨rfl,rfl,rfl⟩,trivial⟩ rfl rfl
 ·exact AC [(2,1)] rfl (by simp) (ZZ t 12 (by omega) (by decide) (by decide)) ⟨⟨rfl,rfl,rfl⟩,trivial⟩ rfl rfl
theorem K8 (t:Ty):Ak Tryz.prog 86 [.agg (dTyc t)] (Kt (BG t)):=by
 refine Af Hc Tryz.func86 (by decide +kernel) rfl [1,2,3] rfl rfl ?_;refine LH rfl ?_;cases h:BG t with
 | true =>
  refine A9 (fr:=[]) [(1,1)] [] rfl (by simp) (Nm Tryz.func129 (by decide +kernel) rfl (SC t h)) ⟨⟨rfl,rfl,rfl⟩,trivial⟩ rfl rfl rfl rfl ?_;refine LH rfl ?_;exact Aa rfl rfl rfl
 | false =>
  refine A9 (fr:=[]) [(1,1)] [] rfl (by simp) (Ps Tryz.func129 (by decide +kernel) rfl (Vm t h)) ⟨⟨rfl,rfl,rfl⟩,trivial⟩ rfl rfl rfl rfl ?_;refine LH rfl ?_;exact Aa rfl rfl rfl
end Go.Hk
namespace Go.Hk
open Go.Proofs
def fV:TT:=fW++[
 (280,⟨.struct [(0,4),(1,4),(2,4),(3,3)],true,4,16,[.imm (.bool false),.imm (.bool false),.imm (.bool false),.imm (.int .i64 0)]⟩)]
theorem Hb:TTok Tryz.prog fV:=.of_eq (l:=[4,3,9,165,26,69,162,27,5,24,23,172,163,67,167,171,75,22,169,72,70,37,267,213,1,216,280]) (by kernel_rfl)
section
variable {n:Nat} {F:List Nat} {Q:DQ} {env env':Env} {st st':St} {ids ids':List Nat} {k todo:List DI} {ob:List Prop}
theorem sd (path:List Pt) (h:run fV n 300 path todo env st ids [] = .at k env' st' ids' ob) (hob:AA ob) (hd:G Tryz.prog n F Q k env' st' ids'):DGo Tryz.prog n F Q todo env st ids:=Lv Hb EV 300 path h hob hd
theorem P4 (h:run fV n 300 [] todo env st ids [] = .at k env' st' ids' ob) (hd:G Tryz.prog n F Q k env' st' ids') (hob:AA ob:=by simp):DGo Tryz.prog n F Q todo env st ids:=sd [] h hob hd
theorem rG (h:run fV n 300 [] todo env st ids [] = .at k env' st' ids' ob) (hd:G Tryz.prog n F Q k env' st' ids') (hob:AA ob:=by simp [An]):DGo Tryz.prog n F Q todo env st ids:=sd [] h hob hd
theorem sg (path:List Pt) (h:run fV n 300 path todo env st ids [] = .at k env' st' ids' ob) (hob:AA ob) (hd:G Tryz.prog n F Q k env' st' ids'):G Tryz.prog n F Q todo env st ids:=Ks Hb EV 300 path h hob hd
theorem Ew (h:run fV n 300 [] todo env st ids [] = .at k env' st' ids' ob) (hd:G Tryz.prog n F Q k env' st' ids') (hob:AA ob:=by simp):G Tryz.prog n F Q todo env st ids:=sg [] h hob hd
theorem sgqc (h:run fV n 300 [] todo env st ids [] = .at k env' st' ids' ob) (hd:G Tryz.prog n F Q k env' st' ids') (hob:AA ob:=by simp [An]):G Tryz.prog n F Q todo env st ids:=sg [] h hob hd
theorem si {es:List (List V)} {m:Int} {sz:Nat} {e:TypeId} {g:Option (Bool×Bool)} {ob:List Prop} {t:Nat} {todo':List DI} {c:List V} (h:P7 fV n env todo=some ⟨es,m,sz,e,g,ob,some t,todo'⟩)
  (hc:An g->0<=m/\es[m.toNat]?=some c/\c.length=sz) (hob:AA ob) (hk:G Tryz.prog n F Q todo' ((t,gD g (.ip e c 0))::env) st ids):G Tryz.prog n F Q todo env st ids:=Gg Hb h hc hob hk
end
structure Has where
 n:Bool
 text:Bool
 pats:Bool
 kids:Int
 is:Bool
def BM (op:Int) (k p:Nat):Has :=
 if op=1\/op=2 then ⟨true,false,false,0,true⟩
 else if op=3\/op=21\/op=25\/op=28 then ⟨false,false,false,0,true⟩
 else if op=4 then ⟨false,true,false,0,true⟩
 else if op=5\/op=27 then ⟨false,true,false,1,true⟩
 else if op=7 then ⟨false,true,false,2,true⟩
 else if op=8 then ⟨false,false,false,3,true⟩
 else if op=14 then ⟨false,true,false,(if (3:Int)<k then 3 else k),true⟩
 else if op=15 then ⟨false,false,true,(IntKind.i64.wrap (1+(p:Int))),true⟩
 else if op=16\/op=17\/op=19\/op=20\/op=23\/op=26 then ⟨false,false,false,1,true⟩
 else if op=24 then ⟨true,false,false,1,true⟩
 else if op=6\/op=9\/op=10\/op=11\/op=12\/op=13\/op=18\/op=22 then ⟨false,false,false,2,true⟩
 else ⟨false,false,false,0,false⟩
def DW (h:Has):List V:=[.bool h.n,.bool h.text,.bool h.pats,.int .i64 h.kids]
theorem VL (op n:Int) (x:Str) (ks:List Tm) (ps:List Ty):Ak Tryz.prog 212 [.agg (CO (.mk op n x ks ps))] (.tup [.agg (DW (BM op ks.length ps.length)),.bool (BM op ks.length ps.length).is]):=by
 refine AS λhv=>?_;simp [Cx,EM,CO,maxLen] at hv;refine Af Hb Tryz.func212 (by decide +kernel) rfl [1,2,3] rfl rfl ?_;by_cases h1:op=1
 ·subst h1;refine sg [.a,.a] rfl (by simp) ?_;refine Aa rfl rfl ?_;simp [BM,DW]
 by_cases h2:op=2
 ·subst h2;refine sg [.a,.a] rfl (by simp) ?_;refine Aa rfl rfl ?_;simp [BM,DW]
 by_cases h3:op=3
 ·subst h3;refine sg [.a,.a,.a,.a] rfl (by simp) ?_;refine Aa rfl rfl ?_;simp [BM,DW]
 by_cases h21:op=21
 ·subst h21;refine sg [.a,.a,.a,.a,.a] rfl (by simp) ?_;refine Aa rfl rfl ?_;simp [BM,DW]
 by_cases h25:op=25
 ·subst h25;refine sg [.a,.a,.a,.a,.a,.a] rfl (by simp) ?_;refine Aa rfl rfl ?_;simp [BM,DW]
 by_cases h28:op=28
 ·subst h28;refine sg [.a,.a,.a,.a,.a,.a] rfl (by simp) ?_;refine Aa rfl rfl ?_;simp [BM,DW]
 by_cases h4:op=4
 ·subst h4;refine sg [.a,.a,.a,.a,.a,.a,.a] rfl (by simp) ?_;refine Aa rfl rfl ?_;simp [BM,DW]
 by_cases h5:op=5
 ·subst h5;refine sg [.a,.a,.a,.a,.a,.a,.a,.a,.a] rfl (by simp) ?_;refine Aa rfl rfl ?_;simp [BM,DW]
 by_cases h27:op=27
 ·subst h27;refine sg [.a,.a,.a,.a,.a,.a,.a,.a,.a] rfl (by simp) ?_;refine Aa rfl rfl ?_;simp [BM,DW]
 by_cases h7:op=7
 ·subst h7;refine sg [.a,.a,.a,.a,.a,.a,.a,.a,.a,.a] rfl (by simp) ?_;refine Aa rfl rfl ?_;simp [BM,DW]
 by_cases h8:op=8
 ·subst h8;refine sg [.a,.a,.a,.a,.a,.a,.a,.a,.a,.a,.a] rfl (by simp) ?_;refine Aa rfl rfl ?_;simp [BM,DW]
 by_cases h14:op=14
 ·subst h14;refine sg [.a,.a,.a,.a,.a,.a,.a,.a,.a,.a,.a,.a] rfl (by simp) ?_;refine Aa rfl rfl ?_;simp [BM,DW]
 by_cases h15:op=15
 ·subst h15;refine sg [.a,.a,.a,.a,.a,.a,.a,.a,.a,.a,.a,.a,.a] rfl (by simp) ?_;refine Aa rfl rfl ?_;simp [BM,DW]
 by_cases h16:op=16
 ·subst h16;refine sg [.a,.a,.a,.a,.a,.a,.a,.a,.a,.a,.a,.a,.a,.a,.a] rfl (by simp) ?_;refine Aa rfl rfl ?_;simp [BM,DW]
 by_cases h17:op=17
 ·subst h17;refine sg [.a,.a,.a,.a,.a,.a,.a,.a,.a,.a,.a,.a,.a,.a,.a,.a] rfl (by simp) ?_;refine Aa rfl rfl ?_;simp [BM,DW]
 by_cases h19:op=19
 ·subst h19;refine sg [.a,.a,.a,.a,.a,.a,.a,.a,.a,.a,.a,.a,.a,.a,.a,.a,.a] rfl (by simp) ?_;refine Aa rfl rfl ?_;simp [BM,DW]
 by_cases h20:op=20
 ·subst h20;refine sg [.a,.a,.a,.a,.a,.a,.a,.a,.a,.a,.a,.a,.a,.a,.a,.a,.a,.a] rfl (by simp) ?_;refine Aa rfl rfl ?_;simp [BM,DW]
 by_cases h23:op=23
 ·subst h23;refine sg [.a,.a,.a,.a,.a,.a,.a,.a,.a,.a,.a,.a,.a,.a,.a,.a,.a,.a,.a] rfl (by simp) ?_;refine Aa rfl rfl ?_;simp [BM,DW]
 by_cases h26:op=26
 ·subst h26;refine sg [.a,.a,.a,.a,.a,.a,.a,.a,.a,.a,.a,.a,.a,.a,.a,.a,.a,.a,.a] rfl (by simp) ?_;refine Aa rfl rfl ?_;simp [BM,DW]
 by_cases h24:op=24
 ·subst h24;refine sg [.a,.a,.a,.a,.a,.a,.a,.a,.a,.a,.a,.a,.a,.a,.a,.a,.a,.a,.a,.a] rfl (by simp) ?_;refine Aa rfl rfl ?_;simp [BM,DW]
 by_cases h6:op=6
 ·subst h6;refine sg [.a,.a,.a,.a,.a,.a,.a,.a,.a,.a,.a,.a,.a,.a,.a,.a,.a,.a,.a,.a,.a,.a] rfl (by simp) ?_;refine Aa rfl rfl ?_;simp [BM,DW]
 by_cases h9:op=9
 ·subst h9;refine sg [.a,.a,.a,.a,.a,.a,.a,.a,.a,.a,.a,.a,.a,.a,.a,.a,.a,.a,.a,.a,.a,.a,.a] rfl (by simp) ?_;refine Aa rfl rfl ?_;simp [BM,DW]
 by_cases h10:op=10
 ·subst h10;refine sg [.a,.a,.a,.a,.a,.a,.a,.a,.a,.a,.a,.a,.a,.a,.a,.a,.a,.a,.a,.a,.a,.a,.a,.a] rfl (by simp) ?_;refine Aa rfl rfl ?_;simp [BM,DW]
 by_cases h11:op=11
 ·subst h11;refine sg [.a,.a,.a,.a,.a,.a,.a,.a,.a,.a,.a,.a,.a,.a,.a,.a,.a,.a,.a,.a,.a,.a,.a,.a,.a] rfl (by simp) ?_;refine Aa rfl rfl ?_;simp [BM,DW]
 by_cases h12:op=12
 ·subst h12;refine sg [.a,.a,.a,.a,.a,.a,.a,.a,.a,.a,.a,.a,.a,.a,.a,.a,.a,.a,.a,.a,.a,.a,.a,.a,.a,.a] rfl (by simp) ?_;refine Aa rfl rfl ?_;simp [BM,DW]
 by_cases h13:op=13
 ·subst h13;refine sg [.a,.a,.a,.a,.a,.a,.a,.a,.a,.a,.a,.a,.a,.a,.a,.a,.a,.a,.a,.a,.a,.a,.a,.a,.a,.a,.a] rfl (by simp) ?_;refine Aa rfl rfl ?_;simp [BM,DW]
 by_cases h18:op=18
 ·subst h18;refine sg [.a,.a,.a,.a,.a,.a,.a,.a,.a,.a,.a,.a,.a,.a,.a,.a,.a,.a,.a,.a,.a,.a,.a,.a,.a,.a,.a,.a] rfl (by simp) ?_;refine Aa rfl rfl ?_;simp [BM,DW]
 by_cases h22:op=22
 ·subst h22;refine sg [.a,.a,.a,.a,.a,.a,.a,.a,.a,.a,.a,.a,.a,.a,.a,.a,.a,.a,.a,.a,.a,.a,.a,.a,.a,.a,.a,.a] rfl (by simp) ?_;refine Aa rfl rfl ?_;simp [BM,DW]
 refine sg [.f,.f,.f,.f,.f,.f,.f,.f,.f,.f,.f,.f,.f,.f,.f,.f,.f,.f,.f,.f,.f,.f,.f,.f,.f,.f,.f,.f] rfl (by simp [h1,h2,h3,h21,h25,h28,h4,h5,h27,h7,h8,h14,h15,h16,h17,h19,h20,h23,h26,h24,h6,h9,h10,h11,h12,h13,h18,h22]) ?_;refine Aa rfl rfl ?_;simp [BM,DW,h1,h2,h3,h21,h25,h28,h4,h5,h27,h7,h8,h14,h15,h16,h17,h19,h20,h23,h26,h24,h6,h9,h10,h11,h12,h13,h18,h22]
end Go.Hk
