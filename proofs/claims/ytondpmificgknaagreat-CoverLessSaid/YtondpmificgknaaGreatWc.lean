/- Contracts of term: what nodes have. (And what it stands on.) -/
import Derived.Test.YtondpmificgknaaGreatWb
import Derived.Laws.StructEq
import Derived.MapKept
import Derived.Test.YtondpmificgknaaGreatProg
import Derived.WalkKit
import Derived.RowKit3
import Derived.Laws.NewBlocks
import Derived.Defers
import Derived.Recover
set_option linter.unusedSimpArgs false
set_option linter.unusedVariables false

set_option maxRecDepth 100000
namespace Go.Hk
theorem NB {α:Type} {sz f:Nat} {ys:List α}:∀(es:List (List α)) (k:Nat) (c:List α),(∀e∈es,e.length=sz)->es[k]?=some c->f+ys.length<=sz ->
  (es.set k (c.take f++ys++c.drop (f+ys.length))).flatten=es.flatten.take (k*sz+f)++ys++es.flatten.drop (k*sz+f+ys.length)
 | [],_,_,_,h,_=>by simp at h
 | e::r,0,c,hs,h,hf=>by
  simp at h;subst h;have he:=hs e (by simp);simp only [List.set_cons_zero,List.flatten_cons,Nat.zero_mul,Nat.zero_add];rw [List.take_append_of_le_length (by omega),List.drop_append_of_le_length (by omega)];simp
 | e::r,k+1,c,hs,h,hf=>by
  have he:=hs e (by simp);have ih:=NB r k c (λe h=>hs e (by simp [h])) (by simpa using h) hf;simp only [List.set_cons_succ,List.flatten_cons,ih];have e1:(k+1)*sz+f=e.length+(k*sz+f):=by rw [he,Nat.succ_mul];omega
  rw [e1,Nat.add_assoc e.length,List.take_length_add_append,List.drop_length_add_append];simp
theorem RepVL.splice {I:Imm} {vs ns:List Value} {xs ys:List V} (h:RepVL I vs xs) (k:RepVL I ns ys) (off:Nat):RepVL I (vs.take off++ns++vs.drop (off+ns.length)) (xs.take off++ys++xs.drop (off+ys.length)):=by
 have app:∀{a b:List Value} {x y:List V},RepVL I a x->RepVL I b y->RepVL I (a++b) (x++y):=λ{a b x y} p q =>
  ⟨by simp [p.1,q.1],λi v z h1 h2=>by
   rw [List.getElem?_append] at h1 h2;by_cases hi:i<a.length
   ·rw [if_pos hi] at h1;rw [if_pos (by rw [<- p.1];exact hi)] at h2;exact p.2 i v z h1 h2
   ·rw [if_neg hi] at h1;rw [if_neg (by rw [<- p.1];exact hi),<- p.1] at h2;exact q.2 _ v z h1 h2⟩
 refine app (app ⟨by simp [h.1],λi v z h1 h2=>?_⟩ k) ⟨by simp [h.1,k.1],λi v z h1 h2=>?_⟩
 ·rw [List.getElem?_take] at h1 h2;by_cases hi:i<off
  ·rw [if_pos hi] at h1 h2;exact h.2 i v z h1 h2
  ·rw [if_neg hi] at h1;cases h1
 ·rw [List.getElem?_drop] at h1 h2;rw [k.1] at h1;exact h.2 _ v z h1 h2
structure POi where
 id:Nat
 es:List (List V)
 m:Int
 sz:Nat
 g:Option (Bool×Bool)
 ob:List Prop
 t:Nat
 todo:List DI
def lA (tt:TT) (n:Nat) (env:Env) (st:St) (todo:List DI):Option POi :=
 match AS todo ([],[]) with
 | some (all,o,_)=>match o.op,BV all env o with
  | .indexAddr t x i,some g=>match lk tt t,Ke (Ag g) env x,Ke (Ag g) env i with
   | some { sh:=.sl e,.. },some (.own id _,o1),some (.imm (.int _ m),o2)=>match lk tt e,lk st id,o.dst,B1 n o.dst,AS todo ([id],[]) with
    | some ti,some (some (.row _ sz es)),some t',true,some (_,_,todo')=>match Nat.beq sz ti.size with
     | true=>some ⟨id,es,m,sz,g,HG o1 o2,t',todo'⟩
     | false=>none
    | _,_,_,_,_=>none
   | _,_,_=>none
  | _,_=>none
 | none=>none
structure POl where
 id:Nat
 es:List (List V)
 k:Nat
 f:Nat
 sz:Nat
 i:TyI
 g:Option (Bool×Bool)
 ob:List Prop
 t:Nat
 todo:List DI
def dZ (tt:TT) (n:Nat) (env:Env) (st:St) (todo:List DI):Option POl :=
 match AS todo ([],[]) with
 | some (all,o,_)=>match o.op,BV all env o with
  | .load t x,some g=>match lk tt t,Ke (Ag g) env x with
   | some i,some (.elp id k sz f,o1)=>match lk st id,o.dst,B1 n o.dst,AS todo ([id],[]) with
    | some (some (.row _ sz' es)),some t',true,some (_,_,todo')=>match Nat.beq sz sz' with
     | true=>some ⟨id,es,k,f,sz,i,g,o1,t',todo'⟩
     | false=>none
    | _,_,_,_=>none
   | _,_=>none
  | _,_=>none
 | none=>none
structure POs where
 id:Nat
 e:TypeId
 es:List (List V)
 k:Nat
 f:Nat
 sz:Nat
 ys:List V
 n:Nat
 ob:List Prop
 todo:List DI
def Yl (tt:TT) (env:Env) (st:St) (todo:List DI):Option POs :=
 match AS todo ([],[]) with
 | some (_,o,_)=>match o.guard,o.dst,o.op with
  | none,none,.store t p x=>match lk tt t,CQ env p,CQ env x with
   | some i,some (.elp id k sz f),some dx=>match lk st id,AS todo ([id],[id]),elemOf i.size dx with
    | some (some (.row e sz' es)),some (_,_,todo'),some (ys,ob)=>match Nat.beq sz sz' with
     | true=>some ⟨id,e,es,k,f,sz,ys,i.size,ob,todo'⟩
     | false=>none
    | _,_,_=>none
   | _,_,_=>none
  | _,_,_=>none
 | none=>none
section
variable {P:Program} {n:Nat} {F:List Nat} {Q:DQ} {tt:TT} {env env':Env} {st st':St} {ids ids':List Nat} {k todo todo':List DI} {I:Imm} {μ:Mu} {w:World} {a:Act} {Pn:V->Prop} {d:D} {cx:Prop} {ob:List Prop}
theorem GA {f f':List Nat×List Nat} {all all':List Oper} {o o':Oper} (h:AS todo f=some (all,o,k)) (h':AS todo f'=some (all',o',todo')):all'=all/\o'=o:=by
 rcases HQ h with ⟨r,q,rfl,_⟩ | ⟨r,fs,q,rfl,_⟩
 ·simp [AS] at h';exact ⟨h'.1.symm,h'.2.1.symm⟩
 ·simp [AS] at h';exact ⟨h'.1.symm,h'.2.1.symm⟩
theorem WA {id:Nat} {e:TypeId} {sz:Nat} {es:List (List V)} (hst:StRep I μ st ids w) (hl:Aq st id (.row e sz es)) (hne:es≠[]) :
  ∃b cap cur,μ id=some (.slice (some ⟨b,0,none⟩) es.length cap)/\w.heap[b]?=some (.cells cur e (0,0))/\es.length<=cap/\cap<=maxLen/\cur.size=cap*sz /\
   RepVL I (cur.toList.take (es.length*sz)) es.flatten/\(∀c∈es,c.length=sz)/\(∀c∈es,∀x∈c,V.one x=true)/\0<sz:=by
 obtain ⟨g,hg,xs,⟨_,hown⟩,hrep,hsz,hone,hp⟩:=hst.blk id _ hl;rcases hown with ⟨_,h0⟩ | ⟨b,cap,cur,rfl,_,h2,h3,h4,h5,h6⟩
 ·exact absurd (List.eq_nil_of_length_eq_zero h0) hne
 ·rw [<- h6] at hrep;exact ⟨b,cap,cur,hg,h2,h3,h4,h5,hrep,hsz,hone,hp⟩
theorem GI (htt:TTok P tt) {c:POi} (h:lA tt n env st todo=some c) (hc:Ag c.g->0<=c.m/\c.m<c.es.length) (hob:A9 c.ob)
  (hk:G P n F Q c.todo ((c.t,gD c.g (.elp c.id c.m.toNat c.sz 0))::env) st ids):G P n F Q todo env st ids:=by
 unfold lA at h
 split at h
 ·rename_i all o todo0 h0
  split at h
  ·rename_i t x i g hop hg
   split at h
   ·rename_i e _ _ _ _ id ln o1 kk m o2 ht hx hi
    split at h
    ·rename_i ti e' sz es t' all' o' todo' hti hl hdst hd h1
     split at h
     ·rename_i hsz;cases h;obtain ⟨rfl,rfl⟩:=GA h0 h1;have hk:G P n F Q todo' (Bz o'.dst (gD g (.elp id m.toNat sz 0)) env) st ids:=by rw [hdst];exact hk
      refine Bq (fr:=[]) (wr:=[]) (rd:=[id]) h1 (C8 hg λI μ st1 ids1 a w hag hst hops hcx=>?_) (by rw [hdst] at hd ⊢;exact hd) (λc hc=>by rw [hop] at hc;cases hc) hk;rw [hop] at hops;obtain ⟨ho1,ho2⟩:=Ba hob;have rx:=Cw hx ho1 hcx (hops x (by simp [Op.operands]));have ri:=(Cw hi ho2 hcx (hops i (by simp [Op.operands]))).immInv.intInv;obtain ⟨c0,c1⟩:=hc hcx;simp only at c0 c1;have hl1:Aq st1 id (.row e' sz es):=by unfold Aq;rw [hag id (by simp)];exact hl
      obtain ⟨b,cap,cur,hmu,hheap,hcap,hcm,hcs,hrep,hlen,hone,hp⟩:=WA hst hl1 (by rintro rfl;simp at c1;omega);have hs:=Nat.eq_of_beq_eq_true hsz;subst hs;have hu:P.underlying t=some (.slice e):=htt.sh ht;simp only [execOp,hop,ri];generalize hv:a.eval x=v at rx;cases rx with
      | own _ _ ad cp hm =>
       rw [hm] at hmu;cases hmu;have hr:=MP (w:=w) hu (htt e ti hti) (b:=b) (off:=0) (len:=es.length) (cap:=cap) (kk:=kk) c0 (by omega);have hrun:(do pure (.value (<- Instr.indexAt t (.slice (some ⟨b,0,none⟩) es.length cap) (.int kk m))):Sem Next).run P w = .ok (.value (.pointer (some ⟨b,0+m.toNat*ti.size,none⟩))) w:=At hr;rw [hrun,Nat.zero_add];exact ⟨I,μ,hst,.elp b id _ cap m.toNat ti.size 0 hm,Mu.le_refl μ,Ext.refl _ _ _ _⟩
     ·cases h
    ·cases h
   ·cases h
  ·cases h
 ·cases h
theorem OL (htt:TTok P tt) {c:POl} {e:List V} {d:D} (h:dZ tt n env st todo=some c) (hc:Ag c.g->c.es[c.k]?=some e) (hd:L6 c.i (Nat.beq c.sz c.i.size) e c.f=some d) (hob:A9 c.ob)
  (hk:G P n F Q c.todo ((c.t,gD c.g d)::env) st ids):G P n F Q todo env st ids:=by
 unfold dZ at h
 split at h
 ·rename_i all o todo0 h0
  split at h
  ·rename_i t x g hop hg
   split at h
   ·rename_i i id kk sz f o1 ht hx
    split at h
    ·rename_i e' sz' es t' all' o' todo' hl hdst hd' h1
     split at h
     ·rename_i hsz;cases h;obtain ⟨rfl,rfl⟩:=GA h0 h1;have hk:G P n F Q todo' (Bz o'.dst (gD g d) env) st ids:=by rw [hdst];exact hk
      refine Bq (fr:=[]) (wr:=[]) (rd:=[id]) h1 (C8 hg λI μ st1 ids1 a w hag hst hops hcx=>?_) (by rw [hdst] at hd' ⊢;exact hd') (λc hc=>by rw [hop] at hc;cases hc) hk;rw [hop] at hops;have rx:=Cw hx hob hcx (hops x (by simp [Op.operands]));have c1:=hc hcx;simp only at c1;have hs:=Nat.eq_of_beq_eq_true hsz;subst hs;have hl1:Aq st1 id (.row e' sz es):=by unfold Aq;rw [hag id (by simp)];exact hl
      obtain ⟨b,cap,cur,hmu,hheap,hcap,hcm,hcs,hrep,hlen,hone,hp⟩:=WA hst hl1 (by rintro rfl;simp at c1);have he:=hlen e (List.mem_of_getElem? c1);simp only [execOp,hop];generalize hv:a.eval x=v at rx;cases rx with
      | elp _ _ ln cp _ _ _ hm =>
       rw [hm] at hmu;cases hmu;have hcell:∀j y,e[j]?=some y->∃u,cur[kk*sz+j]?=some u/\RepV I u y/\u.oneCell'=true:=by
        intro j y hj;have h1:=BY hlen kk e j y c1 hj;have hlt:kk*sz+j<(cur.toList.take (es.length*sz)).length:=by rw [hrep.1];exact (List.getElem?_eq_some_iff.1 h1).1
        have h2:=List.getElem?_eq_getElem hlt;have h3:=hrep.2 _ _ _ h2 h1;refine ⟨_,?_,h3,h3.one (hone e (List.mem_of_getElem? c1) y (List.mem_of_getElem? hj))⟩;rw [List.getElem?_take] at h2
        split at h2
        ·simp
        ·cases h2
       obtain ⟨u,q1,q2⟩:=L5 (P:=P) (w:=w) (I:=I) (μ:=μ) (htt t i ht) (b:=b) (o:=kk*sz) (off:=f) (xs:=e) (vs:=λj=>(cur[kk*sz+j]?).getD undef) (same:=Nat.beq sz i.size)
        (λj y hj=>by
         obtain ⟨u,k1,k2,k3⟩:=hcell j y hj;refine ⟨?_,by simp [k1,k3]⟩;rw [Dk hheap (kk*sz+j) u (by simpa using k1)];simp [k1])
        (λj y hj=>by
         obtain ⟨u,k1,k2,k3⟩:=hcell j y hj;simpa [k1] using k2)
        (λ_ hs _=>by rw [he];exact Nat.eq_of_beq_eq_true hs) hd
       have hrun:(do pure (.value (<- Instr.loadAt t (.pointer (some ⟨b,kk*sz+f,none⟩)))):Sem Next).run P w = .ok (.value u) w:=At q1;rw [hrun];exact ⟨I,μ,hst,q2,Mu.le_refl μ,Ext.refl _ _ _ _⟩
     ·cases h
    ·cases h
   ·cases h
  ·cases h
 ·cases h
theorem Qz (htt:TTok P tt) {c:POs} {e e':List V} (h:Yl tt env st todo=some c) (hc:c.es[c.k]?=some e) (hf:c.f+c.n<=c.sz) (he':e'=e.take c.f++c.ys++e.drop (c.f+c.n)) (hob:A9 c.ob)
  (hk:G P n F Q c.todo env ((c.id,some (.row c.e c.sz (c.es.set c.k e')))::st) ids):G P n F Q todo env st ids:=by
 unfold Yl at h
 split at h
 ·rename_i all o todo0 h0
  split at h
  ·rename_i t p x hgd hdst hop
   split at h
   ·rename_i i id kk sz f dx ht hp hx
    split at h
    ·rename_i ty sz' es all' o' todo' ys ob hl h1 hel
     split at h
     ·rename_i hsz;cases h;obtain ⟨rfl,rfl⟩:=GA h0 h1;have hs:=Nat.eq_of_beq_eq_true hsz;subst hs;simp only at hc hf he' hob hk;have hk:G P n F Q todo' (Bz o'.dst .undef env) ([(id,some (.row ty sz (es.set kk e')))]++st) ids:=by rw [hdst];exact hk
      refine Bq (fr:=[]) (wr:=[(id,some (.row ty sz (es.set kk e')))]) (rd:=[id]) h1 ?_ (by simp [B1,hdst]) (λc hc=>by rw [hop] at hc;cases hc) hk;intro I μ st1 ids1 a w hag hst hon;refine ⟨λ_=>?_,λhw=>by rw [A0 hgd] at hw;cases hw⟩;have hops:=AJ hon;rw [hop] at hops;have rp:=hops p (by simp [Op.operands]) _ hp;obtain ⟨r1,r2,r3,r4⟩:=Q7 hel (hops x (by simp [Op.operands]) _ hx) hob;have hl1:Aq st1 id (.row ty sz es):=by unfold Aq;rw [hag id (by simp)];exact hl
      obtain ⟨b,cap,cur,hmu,hheap,hcap,hcm,hcs,hrep,hlen,hone,hpos⟩:=WA hst hl1 (by rintro rfl;simp at hc);have hkl:=(List.getElem?_eq_some_iff.1 hc).1;have hfit:kk*sz+f+i.size<=es.length*sz:=by
       have:(kk+1)*sz<=es.length*sz:=Nat.mul_le_mul_right _ hkl;rw [Nat.succ_mul] at this;omega
      have hcapz:es.length*sz<=cap*sz:=Nat.mul_le_mul_right _ hcap;generalize hv:a.eval p=v at rp;cases rp with
      | elp _ _ ln cp _ _ _ hm =>
       rw [hm] at hmu;cases hmu;have hvl:(a.eval x).cells.toList.length=i.size:=by simpa using r2
       have hrun:(execOp a.eval o').run P w = .ok .skip (w.setRow b (cur.toList.take (kk*sz+f)++(a.eval x).cells.toList++cur.toList.drop (kk*sz+f+(a.eval x).cells.toList.length)).toArray):=by
        simp only [execOp,hop,hv,Sem.run_bind,Ii (htt t i ht) hheap r2 r4 (show kk*sz+f+(a.eval x).cells.toList.length<=cur.size by rw [hvl];omega),Result.andThen_ok,Sem.run_pure]
       rw [hrun];have hcl:cur.toList.length=cap*sz:=by simpa using hcs
       have hnew:BlkRep I μ (w.setRow b (cur.toList.take (kk*sz+f)++(a.eval x).cells.toList++cur.toList.drop (kk*sz+f+(a.eval x).cells.toList.length)).toArray) (.slice (some ⟨b,0,none⟩) es.length cap) (.row ty sz (es.set kk e')):=by
        subst he';have hys:ys.length=i.size:=r3;have e1:=NB (ys:=ys) es kk e hlen hc (by rw [hys];exact hf);rw [hys] at e1;have e2:(cur.toList.take (kk*sz+f)++(a.eval x).cells.toList++cur.toList.drop (kk*sz+f+(a.eval x).cells.toList.length)).take (es.length*sz) =
          (cur.toList.take (es.length*sz)).take (kk*sz+f)++(a.eval x).cells.toList++(cur.toList.take (es.length*sz)).drop (kk*sz+f+(a.eval x).cells.toList.length):=by
         rw [hvl,List.append_assoc,List.take_append,List.take_append,List.take_take,List.take_take,List.length_take,hvl,List.append_assoc];rw [Nat.min_eq_left (by omega:kk*sz+f<=cur.toList.length),Nat.min_eq_right (by omega:kk*sz+f<=es.length*sz),Nat.min_eq_left (by omega:kk*sz+f<=es.length*sz)];rw [List.take_of_length_le (l:=(a.eval x).cells.toList) (by omega),List.drop_take];congr 3;omega
        have hR:=RepVL.splice hrep r1 (kk*sz+f);rw [hvl,hys] at hR;rw [hvl] at e2;have hls:(es.set kk (e.take f++ys++e.drop (f+i.size))).length=es.length:=by simp
        refine ⟨_,⟨?_,.inr ⟨b,cap,_,by rw [hls],Nat.zero_le _,setRow_heap w b cur _ ty _ hheap,by rw [hls];exact hcap,hcm,?_,rfl⟩⟩,?_,?_,?_,hpos⟩
        ·simp;omega
        ·simp;omega
        ·rw [hls,hvl,List.toList_toArray,e2];exact e1 ▸ hR
        ·intro c hc';rcases List.mem_or_eq_of_mem_set hc' with h | h
         ·exact hlen c h
         ·rw [h];have:=hlen e (List.mem_of_getElem? hc);simp [hys];omega
        ·intro c hc' y hy;rcases List.mem_or_eq_of_mem_set hc' with h | h
         ·exact hone c h y hy
         ·rw [h] at hy;have h5:=hone e (List.mem_of_getElem? hc);rcases List.mem_append.1 hy with hy | hy
          ·rcases List.mem_append.1 hy with hy | hy
           ·exact h5 y (List.mem_of_mem_take hy)
           ·obtain ⟨j,hj⟩:=List.mem_iff_getElem?.1 hy;have hjl:j<(a.eval x).cells.toList.length:=by rw [r1.1];exact (List.getElem?_eq_some_iff.1 hj).1
            exact (r1.2 j _ y (List.getElem?_eq_getElem hjl) hj).oneV (r4 _ (List.getElem_mem _))
          ·exact h5 y (List.mem_of_mem_drop hy)
       obtain ⟨q1,q2⟩:=hst.update (id:=id) (blk:=.row ty sz es) (g:=.slice (some ⟨b,0,none⟩) es.length cap) (b:=b) hl1 hm rfl (w':=w.setRow b _) (setRow_size w b _) rfl rfl rfl (λk hk=>setRow_other w b k _ hk) hnew;exact ⟨I,μ,q1,.undef _,Mu.le_refl μ,q2⟩
     ·cases h
    ·cases h
   ·cases h
  ·cases h
 ·cases h
end
end Go.Hk
namespace Go.Hk
def noMu:Mu:=λ_=>none
theorem jE (μ:Mu):noMu.le μ:=λ_ _ h=>by cases h
def CR (I:Imm) (w:World) (b off:Nat) (ds:List D):Prop :=
 ∃vs t k,w.heap[b]?=some (.cells vs t k)/\∀j d,ds[j]?=some d->∃c,vs[off+j]?=some c/\c.oneCell'=true/\RepD I noMu c d
structure PRi where
 a:Addr
 len:Nat
 m:Int
 sz:Nat
 g:Option (Bool×Bool)
 ob:List Prop
 t:Nat
 todo:List DI
def kX (tt:TT) (n:Nat) (env:Env) (todo:List DI):Option PRi :=
 match AS todo ([],[]) with
 | some (all,o,todo')=>match o.op,BV all env o with
  | .indexAddr t x i,some g=>match lk tt t,Ke (Ag g) env x,Ke (Ag g) env i with
   | some { sh:=.sl e,.. },some (.raw (.slice (some a) len _),o1),some (.imm (.int _ m),o2)=>match lk tt e,o.dst,B1 n o.dst with
    | some ti,some t',true=>some ⟨a,len,m,ti.size,g,HG o1 o2,t',todo'⟩
    | _,_,_=>none
   | _,_,_=>none
  | _,_=>none
 | none=>none
structure PRl where
 b:Nat
 off:Nat
 i:TyI
 g:Option (Bool×Bool)
 ob:List Prop
 t:Nat
 todo:List DI
def dY (tt:TT) (n:Nat) (env:Env) (id:Nat) (todo:List DI):Option PRl :=
 match AS todo ([id],[]) with
 | some (all,o,todo')=>match o.op,BV all env o with
  | .load t x,some g=>match lk tt t,Ke (Ag g) env x with
   | some i,some (.raw (.pointer (some ⟨b,off,none⟩)),o1)=>match o.dst,B1 n o.dst with
    | some t',true=>some ⟨b,off,i,g,o1,t',todo'⟩
    | _,_=>none
   | _,_=>none
  | _,_=>none
 | none=>none
structure PRs where
 b:Nat
 off:Nat
 ds:List D
 todo:List DI
def Yk (tt:TT) (env:Env) (id:Nat) (todo:List DI):Option PRs :=
 match AS todo ([id],[id]) with
 | some (_,o,todo')=>match o.guard,o.dst,o.op with
  | none,none,.store t p x=>match lk tt t,CQ env p,CQ env x with
   | some i,some (.raw (.pointer (some ⟨b,off,none⟩))),some dx=>match Lg dx with
    | some ds=>match Nat.beq ds.length i.size,Iv ds with
     | true,[]=>some ⟨b,off,ds,todo'⟩
     | _,_=>none
    | none=>none
   | _,_,_=>none
  | _,_,_=>none
 | none=>none
section
variable {P:Program} {n:Nat} {F:List Nat} {Q:DQ} {tt:TT} {env env':Env} {st st':St} {ids ids':List Nat} {k todo todo':List DI} {I:Imm} {μ:Mu} {w:World} {a:Act} {Pn:V->Prop} {d:D} {cx:Prop} {ob:List Prop}
theorem RepD.rawInv {v u:Value} (h:RepD I μ v (.raw u)):v=u:=by cases h;rfl
theorem LJ (htt:TTok P tt) {c:PRi} (h:kX tt n env todo=some c) (hs:c.a.spot=none) (hc:Ag c.g->0<=c.m/\c.m<c.len) (hob:A9 c.ob)
  (hk:G P n F Q c.todo ((c.t,gD c.g (.raw (.pointer (some ⟨c.a.block,c.a.off+c.m.toNat*c.sz,none⟩))))::env) st ids):G P n F Q todo env st ids:=by
 unfold kX at h
 split at h
 ·rename_i all o todo' h1
  split at h
  ·rename_i t x i g hop hg
   split at h
   ·rename_i e _ _ _ _ ad len cap o1 kk m o2 ht hx hi
    split at h
    ·rename_i ti t' hti hdst hd;cases h;obtain ⟨b,off,spot⟩:=ad;simp only at hs;subst hs;have hk:G P n F Q todo' (Bz o.dst (gD g (.raw (.pointer (some ⟨b,off+m.toNat*ti.size,none⟩)))) env) st ids:=by rw [hdst];exact hk
     refine Bq (fr:=[]) (wr:=[]) (rd:=[]) h1 (C8 hg λI μ st1 ids1 a w _ hst hops hcx=>?_) (by rw [hdst] at hd ⊢;exact hd) (λc hc=>by rw [hop] at hc;cases hc) hk;rw [hop] at hops;obtain ⟨ho1,ho2⟩:=Ba hob;have rx:=(Cw hx ho1 hcx (hops x (by simp [Op.operands]))).rawInv;have ri:=(Cw hi ho2 hcx (hops i (by simp [Op.operands]))).immInv.intInv;obtain ⟨c0,c1⟩:=hc hcx;have hu:P.underlying t=some (.slice e):=htt.sh ht;simp only [execOp,hop,ri,rx];have hr:=MP (w:=w) hu (htt e ti hti) (b:=b) (off:=off) (len:=len) (cap:=cap) (kk:=kk) c0 c1
     have hrun:(do pure (.value (<- Instr.indexAt t (.slice (some ⟨b,off,none⟩) len cap) (.int kk m))):Sem Next).run P w = .ok (.value (.pointer (some ⟨b,off+m.toNat*ti.size,none⟩))) w:=At hr;rw [hrun];exact ⟨I,μ,hst,.raw _ rfl,Mu.le_refl μ,Ext.refl _ _ _ _⟩
    ·cases h
   ·cases h
  ·cases h
 ·cases h
theorem jH {t:TypeId} {i:TyI} (hi:TyOk P t i) {b off:Nat} {ds:List D} {d:D} (h:CR I w b off ds) (hl:ds.length=i.size) (hd:GC i true ds 0=some d) (μ:Mu) :
  ∃v,(Instr.loadAt t (.pointer (some ⟨b,off,none⟩))).run P w = .ok v w/\RepD I μ v d:=by
 obtain ⟨vs,bt,kk,hheap,hcs⟩:=h;have hcell:∀(j:Nat),j<ds.length->∃c d,ds[j]?=some d/\vs[off+j]?=some c/\c.oneCell'=true/\RepD I μ c d:=λj hj=>by
  obtain ⟨c,h1,h2,h3⟩:=hcs j _ (List.getElem?_eq_getElem hj);exact ⟨c,_,List.getElem?_eq_getElem hj,h1,h2,h3.mono (Imm.le_refl I) (jE μ)⟩
 have hw:∀j,j<ds.length->w.cell? ⟨b,off+j,none⟩=some ((vs[off+j]?).getD undef):=λj hj=>by
  obtain ⟨c,d,_,h2,_⟩:=hcell j hj;rw [Dk hheap (off+j) c (by simpa using h2)];simp [h2]
 cases ha:i.agg with
 | true =>
  simp only [GC,ha] at hd;cases hd;have hr:=JM hi b off (λj=>(vs[off+j]?).getD undef) (w:=w) (λj hj=>hw j (by omega)) (λhf=>by rw [ha] at hf;cases hf);rw [ha] at hr;simp only [if_true] at hr;refine ⟨_,hr,?_⟩;have:=HS (I:=I) (μ:=μ) (vs:=(List.range i.size).map λj=>(vs[off+j]?).getD undef) (ds:=ds) ⟨by simp [hl],λj v d hv hd=>?_⟩ (λc hc=>?_)
  ·simpa using this
  ·rw [List.getElem?_map] at hv;obtain ⟨c,d',h1,h2,_,h4⟩:=hcell j (List.getElem?_eq_some_iff.1 hd).1;rw [h1] at hd;cases hd;cases hj:(List.range i.size)[j]? with
   | none=>rw [hj] at hv;cases hv
   | some q =>
    rw [hj] at hv;have:q=j:=by
     obtain ⟨h6,h7⟩:=List.getElem?_eq_some_iff.1 hj;simpa using h7.symm
    subst this;cases hv;simpa [h2] using h4
  ·obtain ⟨j,hj,rfl⟩:=List.mem_map.1 hc;obtain ⟨c,d',_,h2,h3,_⟩:=hcell j (by rw [hl];simpa using hj);simpa [h2] using h3
 | false =>
  simp only [GC,ha] at hd;have hlt:0<ds.length:=by
   cases ds with
   | nil=>simp [KX] at hd
   | cons=>simp
  have hr:=JM hi b off (λj=>(vs[off+j]?).getD undef) (w:=w) (λj hj=>hw j (by omega)) (λ_=>hw 0 hlt);rw [ha] at hr;simp only [Bool.false_eq_true,if_false] at hr;obtain ⟨c,d',h1,h2,_,h4⟩:=hcell 0 hlt;rw [Fg,h1] at hd;cases hd;rw [Nat.add_zero] at h2;exact ⟨_,hr,by simpa [h2] using h4⟩
theorem Br (htt:TTok P tt) (id:Nat) {A:Asn} {c:PRl} (ds:List D) {d:D} (h:dY tt n env id todo=some c) (hl:lk st id=some (some (.hp A)))
  (hA:Ag c.g->∀vs I w bs,A.P vs I w bs->CR I w c.b c.off ds) (hlen:ds.length=c.i.size) (hd:GC c.i true ds 0=some d) (hob:A9 c.ob)
  (hk:G P n F Q c.todo ((c.t,gD c.g d)::env) st ids):G P n F Q todo env st ids:=by
 unfold dY at h
 split at h
 ·rename_i all o todo' h1
  split at h
  ·rename_i t x g hop hg
   split at h
   ·rename_i i b off o1 ht hx
    split at h
    ·rename_i t' hdst hd';cases h;have hk:G P n F Q todo' (Bz o.dst (gD g d) env) st ids:=by rw [hdst];exact hk
     refine Bq (fr:=[]) (wr:=[]) (rd:=[id]) h1 (C8 hg λI μ st1 ids1 a w hag hst hops hcx=>?_) (by rw [hdst] at hd' ⊢;exact hd') (λc hc=>by rw [hop] at hc;cases hc) hk;rw [hop] at hops;have rx:=(Cw hx hob hcx (hops x (by simp [Op.operands]))).rawInv;have hl1:Aq st1 id (.hp A):=by unfold Aq;rw [hag id (by simp)];exact hl
     obtain ⟨gg,hg',us,bs,e1,e2⟩:=hst.blk id _ hl1;obtain ⟨v,q1,q2⟩:=jH (P:=P) (htt t i ht) (hA hcx us I w bs e2) hlen hd μ;simp only [execOp,hop,rx];have hrun:(do pure (.value (<- Instr.loadAt t (.pointer (some ⟨b,off,none⟩)))):Sem Next).run P w = .ok (.value v) w:=At q1;rw [hrun];exact ⟨I,μ,hst,q2,Mu.le_refl μ,Ext.refl _ _ _ _⟩
    ·cases h
   ·cases h
  ·cases h
 ·cases h
def Mh (A A':Asn) (b off:Nat) (ds:List D):Prop:=∀us I w bs,A.P us I w bs->b∈bs/\∃vs t,w.heap[b]?=some (.cells vs t (0,0))/\off+ds.length<=vs.size /\
 ∀cs,RepL I noMu cs ds->(∀c∈cs,c.oneCell'=true)->A'.P us I (w.setRow b (vs.toList.take off++cs++vs.toList.drop (off+ds.length)).toArray) bs
theorem Qy (htt:TTok P tt) (id:Nat) {A:Asn} (A':Asn) {c:PRs} (h:Yk tt env id todo=some c) (hl:lk st id=some (some (.hp A))) (hA:Mh A A' c.b c.off c.ds)
  (hk:G P n F Q c.todo env ((id,some (.hp A'))::st) ids):G P n F Q todo env st ids:=by
 unfold Yk at h
 split at h
 ·rename_i all o todo' h1
  split at h
  ·rename_i t p x hgd hdst hop
   split at h
   ·rename_i i b off dx ht hp hx
    split at h
    ·rename_i ds hds
     split at h
     ·rename_i hsz hnm;cases h;simp only at hA hk;have hk:G P n F Q todo' (Bz o.dst .undef env) ([(id,some (.hp A'))]++st) ids:=by rw [hdst];exact hk
      refine Bq (fr:=[]) (wr:=[(id,some (.hp A'))]) (rd:=[id]) h1 ?_ (by simp [B1,hdst]) (λc hc=>by rw [hop] at hc;cases hc) hk;intro I μ st1 ids1 a w hag hst hon;refine ⟨λ_=>?_,λhw=>by rw [A0 hgd] at hw;cases hw⟩;have hops:=AJ hon;rw [hop] at hops;have rp:=(hops p (by simp [Op.operands]) _ hp).rawInv;obtain ⟨r1,r2⟩:=IR hds (hops x (by simp [Op.operands]) _ hx);have hl1:Aq st1 id (.hp A):=by unfold Aq;rw [hag id (by simp)];exact hl
      obtain ⟨gg,hg',us,bs,e1,e2⟩:=hst.blk id _ hl1;obtain ⟨k1,vs,bt,k2,k3,k4⟩:=hA us I w bs e2;have hvl:(a.eval x).cells.toList.length=ds.length:=r1.1;have hs:=Nat.eq_of_beq_eq_true hsz;have hrun:(execOp a.eval o).run P w = .ok .skip (w.setRow b (vs.toList.take off++(a.eval x).cells.toList++vs.toList.drop (off+(a.eval x).cells.toList.length)).toArray):=by
       simp only [execOp,hop,rp,Sem.run_bind,Ii (htt t i ht) k2 (by rw [<- hs,<- hvl];simp) r2 (show off+(a.eval x).cells.toList.length<=vs.size by rw [hvl];exact k3),Result.andThen_ok,Sem.run_pure]
      rw [hrun,hvl];have hR:RepL I noMu (a.eval x).cells.toList ds:=r1.sub λj hj=>by rw [hnm] at hj;cases hj
      have hnew:BlkRep I μ (w.setRow b (vs.toList.take off++(a.eval x).cells.toList++vs.toList.drop (off+ds.length)).toArray) gg (.hp A'):=⟨us,bs,e1,k4 _ hR r2⟩
      obtain ⟨q1,q2⟩:=hst.update (id:=id) (blk:=.hp A) (g:=gg) (b:=b) hl1 hg' (by rw [e1];exact AL.2 k1) (w':=w.setRow b _) (setRow_size w b _) rfl rfl rfl (λk hk=>setRow_other w b k _ hk) hnew;exact ⟨I,μ,q1,.undef _,Mu.le_refl μ,q2⟩
     ·cases h
    ·cases h
   ·cases h
  ·cases h
 ·cases h
end
end Go.Hk
namespace Go.Hk
def PU:List (Nat×Value×Blk)->St
 | []=>[]
 | (i,_,b)::r=>(i,some b)::PU r
def NH:List (Nat×Value×Blk)->List Nat
 | []=>[]
 | (i,_,_)::r=>i::NH r
def E7 (new:List (Nat×Value×Blk)) (μ:Mu):Mu:=λi=>match lk new i with
 | some p=>some p.1
 | none=>μ i
def Yr (R:List Nat) (μ:Mu) (st:St) (b:Nat):Prop:=∃r blk g,r∈R/\Aq st r blk/\μ r=some g/\CY g b
section
variable {P:Program} {n:Nat} {F:List Nat} {Q:DQ} {tt:TT} {env env':Env} {st st':St} {ids ids':List Nat} {todo:List DI} {I J:Imm} {μ:Mu} {w:World} {a:Act} {d:D}
theorem WU {new:List (Nat×Value×Blk)} {i:Nat} {b:Blk} {st:St}:Aq (PU new++st) i b->(∃g,(i,g,b)∈new/\lk new i=some (g,b))\/(lk new i=none/\Aq st i b):=by
 induction new with
 | nil=>intro h;exact .inr ⟨rfl,h⟩
 | cons p r ih =>
  obtain ⟨k,g,x⟩:=p;intro h;simp only [PU,List.cons_append] at h;rcases Av.1 h with ⟨rfl,rfl⟩ | ⟨h1,h2⟩
  ·exact .inl ⟨g,by simp,Ap _ _ _⟩
  ·rw [Au _ _ (λe=>h1 e.symm)];rcases ih h2 with ⟨g',q1,q2⟩ | h
   ·exact .inl ⟨g',by simp [q1],q2⟩
   ·exact .inr h
theorem UX {new:List (Nat×Value×Blk)} {i:Nat}:lk new i=none↔i∉NH new:=by
 induction new with
 | nil=>simp [lk,NH]
 | cons p r ih =>
  obtain ⟨k,g,x⟩:=p;by_cases h:k=i
  ·subst h;rw [Ap];simp [NH]
  ·rw [Au _ _ h,ih];simp [NH];exact λ_ e=>h e.symm
theorem StRep.relay {R:List Nat} {new:List (Nat×Value×Blk)} (hst:StRep I μ st (NH new++ids') w)
  (hown:∀p∈new,∀b,CY p.2.1 b->Yr R μ st b) (hdisj:∀p∈new,∀q∈new,∀b,CY p.2.1 b->CY q.2.1 b->p.1=q.1)
  (hI:I.le J) (hJ:J.ok w) (hold:∀b o,J b=some o->I b=some o\/(Yr R μ st b/\∀p∈new,¬CY p.2.1 b))
  (hrep:μ.le (E7 new μ)->∀p∈new,BlkRep J (E7 new μ) w p.2.1 p.2.2) :
  μ.le (E7 new μ)/\StRep J (E7 new μ) (PU new++(BZ R++st)) ids' w/\Ext I μ st w J (E7 new μ) (PU new++(BZ R++st)) w:=by
 have hnd:=List.nodup_append.1 hst.nodup;have hle:μ.le (E7 new μ):=λi v h=>by
  have:i∉NH new:=λhi=>by rw [hst.idsFree i (by simp [hi])] at h;cases h
  simp [E7,UX.2 this,h]
 have hcase:∀{i b},Aq (PU new++(BZ R++st)) i b->(∃g,(i,g,b)∈new/\E7 new μ i=some g)\/(i∉R/\Aq st i b/\E7 new μ i=μ i):=by
  intro i b h;rcases WU h with ⟨g,q1,q2⟩ | ⟨q1,q2⟩
  ·exact .inl ⟨g,q1,by simp [E7,q2]⟩
  ·obtain ⟨h3,h4⟩:=KO q2;exact .inr ⟨h3,h4,by simp [E7,q1]⟩
 have hold':∀{b},Bv μ st b->(∀r∈R,∀blk g,Aq st r blk->μ r=some g->¬CY g b)->J b=none:=by
  intro b ⟨i,blk,g,q1,q2,q3⟩ hR;have hI0:=(hst.apart i blk g b q1 q2 q3).1;cases hJb:J b with
  | none=>rfl
  | some o =>
   rcases hold b o hJb with h | ⟨⟨r,blk',g',k1,k2,k3,k4⟩,_⟩
   ·rw [hI0] at h;cases h
   ·exact absurd k4 (hR r k1 blk' g' k2 k3)
 have hE:Ext I μ st w J (E7 new μ) (PU new++(BZ R++st)) w :=
  {imm:=hI,os:=rfl,tape:=rfl,output:=rfl,size:=Nat.le_refl _,block:=λ_ _ _=>rfl
   fresh:=λb _ ⟨i,blk,g,q1,q2,q3⟩=>by
    rcases hcase q1 with ⟨g',k1,k2⟩ | ⟨_,k2,k3⟩
    ·rw [k2] at q2;cases q2;obtain ⟨r,blk',g',_,a2,a3,a4⟩:=hown _ k1 b q3;exact ⟨r,blk',g',a2,a3,a4⟩
    ·exact ⟨i,blk,g,k2,by rw [<- k3];exact q2,q3⟩
   old:=λb _ ho=>by
    cases hJb:J b with
    | none =>
     cases hIb:I b with
     | none=>rfl
     | some o=>rw [hI b o hIb] at hJb;cases hJb
    | some o =>
     rcases hold b o hJb with h | ⟨⟨r,blk,g,_,k2,k3,k4⟩,_⟩
     ·exact h.symm
     ·exact absurd ⟨r,blk,g,k2,k3,k4⟩ ho }
 refine ⟨hle,{ imm:=hJ,blk:=λi b hl=>?_,apart:=λi b g k hl hg hk=>?_,inj:=λi j bi bj gi gj k hi hj hgi hgj hki hkj=>?_,nodup:=hnd.2.1,idsFree:=λi hi=>?_ },hE⟩
 ·rcases hcase hl with ⟨g,k1,k2⟩ | ⟨_,k2,k3⟩
  ·exact ⟨g,k2,hrep hle _ k1⟩
  ·obtain ⟨g,q1,q2⟩:=hst.blk i b k2;exact ⟨g,by rw [k3];exact q1,q2.mono hI hle⟩
 ·rcases hcase hl with ⟨g',k1,k2⟩ | ⟨kR,k2,k3⟩
  ·rw [k2] at hg;cases hg;obtain ⟨r,blk',g',a1,a2,a3,a4⟩:=hown _ k1 k hk;obtain ⟨z1,z2⟩:=hst.apart r blk' g' k a2 a3 a4;refine ⟨?_,z2⟩;cases hJb:J k with
   | none=>rfl
   | some o =>
    rcases hold k o hJb with h | ⟨_,h⟩
    ·rw [z1] at h;cases h
    ·exact absurd hk (h _ k1)
  ·rw [k3] at hg;obtain ⟨z1,z2⟩:=hst.apart i b g k k2 hg hk;refine ⟨hold' ⟨i,b,g,k2,hg,hk⟩ λr hr blk' g' h1 h2 h3=>?_,z2⟩;exact kR (by rw [hst.inj i r b blk' g g' k k2 h1 hg h2 hk h3];exact hr)
 ·rcases hcase hi with ⟨g1,k1,k2⟩ | ⟨kR,k2,k3⟩
  ·rw [k2] at hgi;cases hgi;rcases hcase hj with ⟨g2,l1,l2⟩ | ⟨lR,l2,l3⟩
   ·rw [l2] at hgj;cases hgj;exact hdisj _ k1 _ l1 k hki hkj
   ·rw [l3] at hgj;obtain ⟨r,blk',g',a1,a2,a3,a4⟩:=hown _ k1 k hki;exact absurd (by rw [hst.inj j r bj blk' gj g' k l2 a2 hgj a3 hkj a4];exact a1) lR
  ·rw [k3] at hgi;rcases hcase hj with ⟨g2,l1,l2⟩ | ⟨lR,l2,l3⟩
   ·rw [l2] at hgj;cases hgj;obtain ⟨r,blk',g',a1,a2,a3,a4⟩:=hown _ l1 k hkj;exact absurd (by rw [hst.inj i r bi blk' gi g' k k2 a2 hgi a3 hki a4];exact a1) kR
   ·rw [l3] at hgj;exact hst.inj i j bi bj gi gj k k2 l2 hgi hgj hki hkj
 ·have:i∉NH new:=λh=>hnd.2.2 i h i hi rfl;simp only [E7,UX.2 this];exact hst.idsFree i (by simp [hi])
theorem Ds (h:∀I μ a w,Conc n I μ env st ids a w->∃J ν env' st' ids',StRep J ν st' ids' w/\(∀t d,lk env' t=some d->RepD J ν (a.tmps.getD t undef) d)/\Ext I μ st w J ν st' w/\Pin F μ ν/\DGo P n F Q todo env' st' ids') :
  DGo P n F Q todo env st ids:=by
 intro b cs I μ a w items hd hc;obtain ⟨J,ν,env',st',ids',h1,h2,h3,h4,h5⟩:=h I μ a w hc;exact (h5 b cs J ν a w items hd { h1 with size:=hc.size,env:=h2,defers:=hc.defers.ext h3 }).mono λe a' w' hp=>hp.back h4 h3
theorem JW {α:Type} (id j:Nat) {A:Asn} (B:α->Asn) (hl:lk st id=some (some (.hp A))) (hA:∀vs I w bs,A.P vs I w bs->∃x bs',(∀b∈bs',b∈bs)/\(B x).P [] I w bs')
  (h:∀x,DGo P n F Q todo env ((j,some (.hp (B x)))::(id,none)::st) ids'):DGo P n F Q todo env st (j::ids'):=by
 refine Ds λI μ a w hc=>?_;obtain ⟨g,hg,vs,bs,rfl,hP⟩:=hc.blk id _ hl;obtain ⟨x,bs',h1,h2⟩:=hA vs I w bs hP;obtain ⟨q1,q2,q3⟩:=StRep.relay (R:=[id]) (new:=[(j,MQ [] bs',.hp (B x))]) (ids':=ids') hc.toStRep
  (λp hp b hb=>by
   rw [List.mem_singleton.1 hp] at hb;exact ⟨id,_,_,by simp,hl,hg,AL.2 (h1 b (AL.1 hb))⟩)
  (λp hp q hq b _ _=>by rw [List.mem_singleton.1 hp,List.mem_singleton.1 hq]) (Imm.le_refl I) hc.imm (λb o h=>.inl h)
  (λ_ p hp=>by rw [List.mem_singleton.1 hp];exact ⟨[],bs',rfl,h2⟩)
 exact ⟨I,_,env,_,ids',q2,λt d hd=>(hc.env t d hd).mono (Imm.le_refl I) q1,q3,.of_le q1,h x⟩
theorem IC {α:Type} (id i j:Nat) {A:Asn} (B C:α->Asn) (hl:lk st id=some (some (.hp A)))
  (hA:∀vs I w bs,A.P vs I w bs->∃x b1 b2,(∀b∈b1,b∈bs)/\(∀b∈b2,b∈bs)/\(∀b∈b1,b∉b2)/\(B x).P [] I w b1/\(C x).P [] I w b2)
  (h:∀x,DGo P n F Q todo env ((i,some (.hp (B x)))::(j,some (.hp (C x)))::(id,none)::st) ids'):DGo P n F Q todo env st (i::j::ids'):=by
 refine Ds λI μ a w hc=>?_;obtain ⟨g,hg,vs,bs,rfl,hP⟩:=hc.blk id _ hl;obtain ⟨x,b1,b2,k1,k2,k3,k4,k5⟩:=hA vs I w bs hP;obtain ⟨q1,q2,q3⟩:=StRep.relay (R:=[id]) (new:=[(i,MQ [] b1,.hp (B x)),(j,MQ [] b2,.hp (C x))]) (ids':=ids') hc.toStRep
  (λp hp b hb=>by
   simp only [List.mem_cons,List.not_mem_nil,or_false] at hp;rcases hp with rfl | rfl
   ·exact ⟨id,_,_,by simp,hl,hg,AL.2 (k1 b (AL.1 hb))⟩
   ·exact ⟨id,_,_,by simp,hl,hg,AL.2 (k2 b (AL.1 hb))⟩)
  (λp hp q hq b e1 e2=>by
   simp only [List.mem_cons,List.not_mem_nil,or_false] at hp hq;rcases hp with rfl | rfl <;> rcases hq with rfl | rfl <;> first
    | rfl
    | exact absurd (AL.1 e2) (k3 b (AL.1 e1))
    | exact absurd (AL.1 e1) (k3 b (AL.1 e2))) (Imm.le_refl I) hc.imm (λb o h=>.inl h)
  (λ_ p hp=>by
   simp only [List.mem_cons,List.not_mem_nil,or_false] at hp;rcases hp with rfl | rfl
   ·exact ⟨[],b1,rfl,k4⟩
   ·exact ⟨[],b2,rfl,k5⟩)
 exact ⟨I,_,env,_,ids',q2,λt d hd=>(hc.env t d hd).mono (Imm.le_refl I) q1,q3,.of_le q1,h x⟩
theorem Gf {α:Type} (i j id:Nat) {A B:Asn} (C:α->Asn) (hi:lk st i=some (some (.hp A))) (hj:lk st j=some (some (.hp B))) (hne:i≠j)
  (hA:∀vs us I w b1 b2,A.P vs I w b1->B.P us I w b2->(∀b∈b1,b∉b2)->∃x bs,(∀b∈bs,b∈b1\/b∈b2)/\(C x).P [] I w bs)
  (h:∀x,DGo P n F Q todo env ((id,some (.hp (C x)))::(i,none)::(j,none)::st) ids'):DGo P n F Q todo env st (id::ids'):=by
 refine Ds λI μ a w hc=>?_;obtain ⟨g1,hg1,vs,b1,rfl,hP1⟩:=hc.blk i _ hi;obtain ⟨g2,hg2,us,b2,rfl,hP2⟩:=hc.blk j _ hj;obtain ⟨x,bs,k1,k2⟩:=hA vs us I w b1 b2 hP1 hP2 λb h1 h2=>hne (hc.inj i j _ _ _ _ b hi hj hg1 hg2 (AL.2 h1) (AL.2 h2));obtain ⟨q1,q2,q3⟩:=StRep.relay (R:=[i,j]) (new:=[(id,MQ [] bs,.hp (C x))]) (ids':=ids') hc.toStRep
  (λp hp b hb=>by
   rw [List.mem_singleton.1 hp] at hb;rcases k1 b (AL.1 hb) with h | h
   ·exact ⟨i,_,_,by simp,hi,hg1,AL.2 h⟩
   ·exact ⟨j,_,_,by simp,hj,hg2,AL.2 h⟩)
  (λp hp q hq b _ _=>by rw [List.mem_singleton.1 hp,List.mem_singleton.1 hq]) (Imm.le_refl I) hc.imm (λb o h=>.inl h)
  (λ_ p hp=>by rw [List.mem_singleton.1 hp];exact ⟨[],bs,rfl,k2⟩)
 exact ⟨I,_,env,_,ids',q2,λt d hd=>(hc.env t d hd).mono (Imm.le_refl I) q1,q3,.of_le q1,h x⟩
mutual
def WQ (id:Nat) (vs:List Value):D->D
 | .hv i k=>match Nat.beq i id,KX vs k with
  | true,some v=>.raw v
  | _,_=>.hv i k
 | .agg cs=>.agg (WP id vs cs)
 | .tup cs=>.tup (WP id vs cs)
 | d=>d
def WP (id:Nat) (vs:List Value):List D->List D
 | []=>[]
 | d::r=>WQ id vs d::WP id vs r
end
def ZE (id:Nat) (vs:List Value):Env->Env
 | []=>[]
 | (t,d)::r=>(t,WQ id vs d)::ZE id vs r
def nW (id:Nat) (vs:List Value):Blk->Blk
 | .cells t sz cs=>.cells t sz (WP id vs cs)
 | b=>b
def Ro (id:Nat) (vs:List Value):St->St
 | []=>[]
 | (i,some b)::r=>(i,some (nW id vs b))::Ro id vs r
 | (i,none)::r=>(i,none)::Ro id vs r
theorem Io (id:Nat) (vs:List Value):∀l:List D,WP id vs l=l.map (WQ id vs)
 | []=>rfl
 | d::r=>by simp [WP,Io id vs r]
theorem RepD.opn {id:Nat} {vs:List Value} {bs:List Nat} (hm:μ id=some (MQ vs bs)) {v:Value} (h:RepD I μ v d):RepD I μ v (WQ id vs d):=by
 have at_:∀{l:List D} {i:Nat} {x:D},(WP id vs l)[i]?=some x->∃y,l[i]?=some y/\x=WQ id vs y:=by
  intro l i x hx;rw [Io,List.getElem?_map] at hx;cases hl:l[i]? with
  | none=>rw [hl] at hx;cases hx
  | some y=>rw [hl] at hx;cases hx;exact ⟨y,rfl,rfl⟩
 induction h with
 | hv v i k us cs h hi h1 =>
  simp only [WQ]
  split
  ·rename_i u he hu;rw [Nat.eq_of_beq_eq_true he,hm] at h;have hvs:vs=us/\bs=cs:=by
    simp only [MQ,Option.some.injEq,Value.tuple.injEq,Array.mk.injEq,List.cons.injEq,Value.agg.injEq,and_true] at h;refine ⟨by simpa using h.1,?_⟩;have h2:=congrArg Array.toList h.2;simp only [Tx] at h2;exact (List.map_inj_right (λx y e=>by simpa using e)).1 h2
   rw [Fg,hvs.1,hi] at hu;cases hu;exact .raw _ h1
  ·exact .hv v i k us cs h hi h1
 | agg cs ds hl h1 _ ih =>
  refine .agg cs _ (by rw [Io,List.length_map,hl]) h1 λi c x hc hx=>?_;obtain ⟨y,hy,rfl⟩:=at_ hx;exact ih i c y hc hy
 | tup cs ds hl _ ih =>
  refine .tup cs _ (by rw [Io,List.length_map,hl]) λi c x hc hx=>?_;obtain ⟨y,hy,rfl⟩:=at_ hx;exact ih i c y hc hy
 | undef v=>exact .undef v
 | imm v x hx=>exact .imm v x hx
 | nils=>exact .nils
 | ref b id off hm=>exact .ref b id off hm
 | ip b o t cs off vs hcell hrep=>exact .ip b o t cs off vs hcell hrep
 | own i len a cap hm=>exact .own i len a cap hm
 | elp b i len cap k sz f hm=>exact .elp b i len cap k sz f hm
 | mapr i b hm=>exact .mapr i b hm
 | iter i b hm=>exact .iter i b hm
 | fn f first cap df dc hf hc h1 h2 _ _=>exact .fn f first cap df dc hf hc h1 h2
 | iface t v d h _=>exact .iface t v d h
 | guard c want v d h hu _=>exact .guard c want v d h hu
 | clip a len es hr=>exact .clip a len es hr
 | slc b i off len cap hm hl hx=>exact .slc b i off len cap hm hl hx
 | yld b i hm=>exact .yld b i hm
 | raw v h=>exact .raw v h
theorem Yt {id:Nat} {vs:List Value}:∀{env:Env} {t:Nat} {d:D},lk (ZE id vs env) t=some d->∃d0,lk env t=some d0/\d=WQ id vs d0
 | [],t,d,h=>by simp [ZE,lk] at h
 | (s,x)::r,t,d,h=>by
  simp only [ZE] at h;by_cases hs:s=t
  ·subst hs;rw [Ap] at h ⊢;cases h;exact ⟨x,rfl,rfl⟩
  ·rw [Au _ _ hs] at h ⊢;exact Yt h
theorem MB {id:Nat} {vs:List Value} {i:Nat} {b:Blk}:∀{st:St},Aq (Ro id vs st) i b->∃b0,Aq st i b0/\b=nW id vs b0
 | [],h=>by simp [Ro,Aq,lk] at h
 | (k,some x)::r,h=>by
  simp only [Ro] at h;rcases Av.1 h with ⟨h1,h2⟩ | ⟨h1,h2⟩
  ·exact ⟨x,by unfold Aq;rw [h1,Ap],h2⟩
  ·obtain ⟨b0,q1,q2⟩:=MB h2;exact ⟨b0,Av.2 (.inr ⟨h1,q1⟩),q2⟩
 | (k,none)::r,h=>by
  simp only [Ro] at h;obtain ⟨h1,h2⟩:=B0.1 h;obtain ⟨b0,q1,q2⟩:=MB h2;exact ⟨b0,B0.2 ⟨h1,q1⟩,q2⟩
theorem StRep.retell {st1:St} (hst:StRep I μ st ids w) (h:∀i b,Aq st1 i b->∃b0,Aq st i b0/\∀g,BlkRep I μ w g b0->BlkRep I μ w g b):StRep I μ st1 ids w/\Ext I μ st w I μ st1 w:=by
 refine ⟨{ imm:=hst.imm,blk:=λi b hl=>?_,apart:=λi b g k hl hg hk=>?_,inj:=λi j bi bj gi gj k hi hj=>?_,nodup:=hst.nodup,idsFree:=hst.idsFree },?_⟩
 ·obtain ⟨b0,h1,h2⟩:=h i b hl;obtain ⟨g,hg,hr⟩:=hst.blk i b0 h1;exact ⟨g,hg,h2 g hr⟩
 ·obtain ⟨b0,h1,_⟩:=h i b hl;exact hst.apart i b0 g k h1 hg hk
 ·obtain ⟨b0,h1,_⟩:=h i bi hi;obtain ⟨b1,h2,_⟩:=h j bj hj;exact hst.inj i j b0 b1 gi gj k h1 h2
 ·exact { imm:=Imm.le_refl I,os:=rfl,tape:=rfl,output:=rfl,size:=Nat.le_refl _,block:=λ_ _ _=>rfl,old:=λ_ _ _=>rfl
          fresh:=λb _ ⟨i,bi,g,h1,h2⟩=>let ⟨b0,q,_⟩:=h i bi h1;⟨i,b0,g,q,h2⟩ }
theorem Jy {α:Type} (id j:Nat) {A:Asn} (val:α->List Value) (B:α->Asn) (hl:lk st id=some (some (.hp A)))
  (hA:∀vs I w bs,A.P vs I w bs->∃x,vs=val x/\(B x).P [] I w bs)
  (h:∀x,DGo P n F Q todo (ZE id (val x) env) ((j,some (.hp (B x)))::(id,none)::Ro id (val x) st) ids'):DGo P n F Q todo env st (j::ids'):=by
 refine Ds λI μ a w hc=>?_;obtain ⟨g,hg,vs,bs,rfl,hP⟩:=hc.blk id _ hl;obtain ⟨x,rfl,h2⟩:=hA vs I w bs hP;obtain ⟨p1,p2⟩:=hc.toStRep.retell (st1:=Ro id (val x) st) (λi b hlb=>by
  obtain ⟨b0,q1,rfl⟩:=MB hlb;refine ⟨b0,q1,λgb hb=>?_⟩;cases b0 with
  | cells t sz cs =>
   obtain ⟨hs,b,us,e1,e2,e3,e4⟩:=hb;exact ⟨by rw [Io,List.length_map,hs],b,us,e1,e2,⟨by rw [Io,List.length_map,e3.1],λi v y hv hy=>by
    rw [Io,List.getElem?_map] at hy;cases hc':cs[i]? with
    | none=>rw [hc'] at hy;cases hy
    | some z=>rw [hc'] at hy;cases hy;exact (e3.2 i v z hv hc').opn hg⟩,e4⟩
  | _=>exact hb)
 have hl':Aq (Ro id (val x) st) id (.hp A):=by
  have:∀{st:St},Aq st id (.hp A)->Aq (Ro id (val x) st) id (.hp A):=by
   intro st
   induction st with
   | nil=>intro h;simp [Aq,lk] at h
   | cons p r ih =>
    obtain ⟨k,y⟩:=p;intro h;cases y with
    | none=>obtain ⟨h1,h2⟩:=B0.1 h;exact B0.2 ⟨h1,ih h2⟩
    | some y =>
     rcases Av.1 h with ⟨h1,h2⟩ | ⟨h1,h2⟩
     ·exact Av.2 (.inl ⟨h1,by rw [<- h2];rfl⟩)
     ·exact Av.2 (.inr ⟨h1,ih h2⟩)
  exact this hl
 obtain ⟨q1,q2,q3⟩:=StRep.relay (R:=[id]) (new:=[(j,MQ [] bs,.hp (B x))]) (ids':=ids') p1
  (λp hp b hb=>by
   rw [List.mem_singleton.1 hp] at hb;exact ⟨id,_,_,by simp,hl',hg,AL.2 (AL.1 hb)⟩)
  (λp hp q hq b _ _=>by rw [List.mem_singleton.1 hp,List.mem_singleton.1 hq]) (Imm.le_refl I) hc.imm (λb o h=>.inl h)
  (λ_ p hp=>by rw [List.mem_singleton.1 hp];exact ⟨[],bs,rfl,h2⟩)
 refine ⟨I,_,ZE id (val x) env,_,ids',q2,λt d hd=>?_,p2.trans q3,.of_le q1,h x⟩;obtain ⟨d0,h0,rfl⟩:=Yt hd;exact ((hc.env t d0 h0).opn hg).mono (Imm.le_refl I) q1
def Imm.plus (I:Imm) (bs:List Nat) (w:World):Imm:=λb=>if EA bs b=true then w.heap[b]? else I b
end
end Go.Hk
namespace Go.Hk
def R2 (e:TypeId) (sz:Nat) (es:List (List V)) (v:Value):Asn where
 P:=λ_ I w bs=>(v = .slice none 0 0/\es=[]/\bs=[])\/∃b cap cur,v = .slice (some ⟨b,0,none⟩) es.length cap/\bs=[b]/\w.heap[b]?=some (.cells cur e (0,0))/\es.length<=cap/\cap<=maxLen /\
  cur.size=cap*sz/\RepVL I (cur.toList.take (es.length*sz)) es.flatten/\(∀c∈es,c.length=sz)/\(∀c∈es,∀x∈c,V.one x=true)/\0<sz
 mono:=λh hp=>by
  rcases hp with hp | ⟨b,cap,cur,h1,h2,h3,h4,h5,h6,h7,h8⟩
  ·exact .inl hp
  ·exact .inr ⟨b,cap,cur,h1,h2,h3,h4,h5,h6,h7.mono h,h8⟩
 loc:=λh hp=>by
  rcases hp with hp | ⟨b,cap,cur,h1,h2,h3,h4⟩
  ·exact .inl hp
  ·exact .inr ⟨b,cap,cur,h1,h2,(h b (by simp [h2])).trans h3,h4⟩
mutual
def WN (id:Nat) (v:Value):D->D
 | .own i n=>bif Nat.beq i id then .raw v else .own i n
 | .agg cs=>.agg (WM id v cs)
 | .tup cs=>.tup (WM id v cs)
 | d=>d
def WM (id:Nat) (v:Value):List D->List D
 | []=>[]
 | d::r=>WN id v d::WM id v r
end
def ZC (id:Nat) (v:Value):Env->Env
 | []=>[]
 | (t,d)::r=>(t,WN id v d)::ZC id v r
def eJ (id:Nat) (v:Value):Blk->Blk
 | .cells t sz cs=>.cells t sz (WM id v cs)
 | b=>b
def PG (id:Nat) (v:Value):St->St
 | []=>[]
 | (i,some b)::r=>(i,some (eJ id v b))::PG id v r
 | (i,none)::r=>(i,none)::PG id v r
theorem In (id:Nat) (v:Value):∀l:List D,WM id v l=l.map (WN id v)
 | []=>rfl
 | d::r=>by simp [WM,In id v r]
section
variable {P:Program} {n:Nat} {F:List Nat} {Q:DQ} {tt:TT} {env env':Env} {st st':St} {ids ids':List Nat} {todo:List DI} {I J:Imm} {μ:Mu} {w:World} {a:Act} {d:D}
theorem RepD.owd {id:Nat} {u:Value} (hm:μ id=some u) (hu:u.oneCell'=true) {v:Value} (h:RepD I μ v d):RepD I μ v (WN id u d):=by
 have at_:∀{l:List D} {i:Nat} {x:D},(WM id u l)[i]?=some x->∃y,l[i]?=some y/\x=WN id u y:=by
  intro l i x hx;rw [In,List.getElem?_map] at hx;cases hl:l[i]? with
  | none=>rw [hl] at hx;cases hx
  | some y=>rw [hl] at hx;cases hx;exact ⟨y,rfl,rfl⟩
 induction h with
 | own i len a cap h =>
  simp only [WN];cases hb:Nat.beq i id with
  | false=>exact .own i len a cap h
  | true =>
   rw [Nat.eq_of_beq_eq_true hb,hm] at h;cases h;exact .raw _ hu
 | agg cs ds hl h1 _ ih =>
  refine .agg cs _ (by rw [In,List.length_map,hl]) h1 λi c x hc hx=>?_;obtain ⟨y,hy,rfl⟩:=at_ hx;exact ih i c y hc hy
 | tup cs ds hl _ ih =>
  refine .tup cs _ (by rw [In,List.length_map,hl]) λi c x hc hx=>?_;obtain ⟨y,hy,rfl⟩:=at_ hx;exact ih i c y hc hy
 | undef v=>exact .undef v
 | imm v x hx=>exact .imm v x hx
 | nils=>exact .nils
 | ref b id off hm=>exact .ref b id off hm
 | ip b o t cs off vs hcell hrep=>exact .ip b o t cs off vs hcell hrep
 | elp b i len cap k sz f hm=>exact .elp b i len cap k sz f hm
 | mapr i b hm=>exact .mapr i b hm
 | iter i b hm=>exact .iter i b hm
 | fn f first cap df dc hf hc h1 h2 _ _=>exact .fn f first cap df dc hf hc h1 h2
 | iface t v d h _=>exact .iface t v d h
 | guard c want v d h hu _=>exact .guard c want v d h hu
 | clip a len es hr=>exact .clip a len es hr
 | slc b i off len cap hm hl hx=>exact .slc b i off len cap hm hl hx
 | yld b i hm=>exact .yld b i hm
 | raw v h=>exact .raw v h
 | hv v i k us cs h hi h1=>exact .hv v i k us cs h hi h1
theorem Ys {id:Nat} {v:Value}:∀{env:Env} {t:Nat} {d:D},lk (ZC id v env) t=some d->∃d0,lk env t=some d0/\d=WN id v d0
 | [],t,d,h=>by simp [ZC,lk] at h
 | (s,x)::r,t,d,h=>by
  simp only [ZC] at h;by_cases hs:s=t
  ·subst hs;rw [Ap] at h ⊢;cases h;exact ⟨x,rfl,rfl⟩
  ·rw [Au _ _ hs] at h ⊢;exact Ys h
theorem MA {id:Nat} {v:Value} {i:Nat} {b:Blk}:∀{st:St},Aq (PG id v st) i b->∃b0,Aq st i b0/\b=eJ id v b0
 | [],h=>by simp [PG,Aq,lk] at h
 | (k,some x)::r,h=>by
  simp only [PG] at h;rcases Av.1 h with ⟨h1,h2⟩ | ⟨h1,h2⟩
  ·exact ⟨x,by unfold Aq;rw [h1,Ap],h2⟩
  ·obtain ⟨b0,q1,q2⟩:=MA h2;exact ⟨b0,Av.2 (.inr ⟨h1,q1⟩),q2⟩
 | (k,none)::r,h=>by
  simp only [PG] at h;obtain ⟨h1,h2⟩:=B0.1 h;obtain ⟨b0,q1,q2⟩:=MA h2;exact ⟨b0,B0.2 ⟨h1,q1⟩,q2⟩
theorem MM {id i:Nat} {v:Value} {b:Blk}:∀{st:St},Aq st i b->Aq (PG id v st) i (eJ id v b)
 | [],h=>by simp [Aq,lk] at h
 | (k,some x)::r,h=>by
  simp only [PG];rcases Av.1 h with ⟨h1,h2⟩ | ⟨h1,h2⟩
  ·exact Av.2 (.inl ⟨h1,by rw [h2]⟩)
  ·exact Av.2 (.inr ⟨h1,MM h2⟩)
 | (k,none)::r,h=>by
  simp only [PG];obtain ⟨h1,h2⟩:=B0.1 h;exact B0.2 ⟨h1,MM h2⟩
theorem IB (id j:Nat) {e:TypeId} {sz:Nat} {es:List (List V)} (hl:lk st id=some (some (.row e sz es)))
  (h:∀v,DGo P n F Q todo (ZC id v env) ((j,some (.hp (R2 e sz es v)))::(id,none)::PG id v st) ids'):DGo P n F Q todo env st (j::ids'):=by
 refine Ds λI μ a w hc=>?_;obtain ⟨g,hg,xs,⟨_,hown⟩,hrep,hsz,hone,hp⟩:=hc.blk id _ hl;have hg1:g.oneCell'=true:=by
  rcases hown with ⟨rfl,_⟩ | ⟨b,cap,cur,rfl,_⟩ <;> rfl
 obtain ⟨bs,hP,hbs⟩:∃bs,(R2 e sz es g).P [] I w bs/\∀b∈bs,CY g b:=by
  rcases hown with ⟨rfl,h0⟩ | ⟨b,cap,cur,rfl,_,h2,h3,h4,h5,h6⟩
  ·exact ⟨[],.inl ⟨rfl,List.eq_nil_of_length_eq_zero h0,rfl⟩,λb hb=>by cases hb⟩
  ·rw [<- h6] at hrep;exact ⟨[b],.inr ⟨b,cap,cur,rfl,rfl,h2,h3,h4,h5,hrep,hsz,hone,hp⟩,λb hb=>by rw [List.mem_singleton.1 hb];rfl⟩
 obtain ⟨p1,p2⟩:=hc.toStRep.retell (st1:=PG id g st) (λi b hlb=>by
  obtain ⟨b0,q1,rfl⟩:=MA hlb;refine ⟨b0,q1,λgb hb=>?_⟩;cases b0 with
  | cells t sz cs =>
   obtain ⟨hs,b,us,e1,e2,e3,e4⟩:=hb;exact ⟨by rw [In,List.length_map,hs],b,us,e1,e2,⟨by rw [In,List.length_map,e3.1],λi v y hv hy=>by
    rw [In,List.getElem?_map] at hy;cases hc':cs[i]? with
    | none=>rw [hc'] at hy;cases hy
    | some z=>rw [hc'] at hy;cases hy;exact (e3.2 i v z hv hc').owd hg hg1⟩,e4⟩
  | _=>exact hb)
 obtain ⟨q1,q2,q3⟩:=StRep.relay (R:=[id]) (new:=[(j,MQ [] bs,.hp (R2 e sz es g))]) (ids':=ids') p1
  (λp hp b hb=>by
   rw [List.mem_singleton.1 hp] at hb;exact ⟨id,_,_,by simp,MM hl,hg,hbs b (AL.1 hb)⟩)
  (λp hp q hq b _ _=>by rw [List.mem_singleton.1 hp,List.mem_singleton.1 hq]) (Imm.le_refl I) hc.imm (λb o h=>.inl h)
  (λ_ p hp=>by rw [List.mem_singleton.1 hp];exact ⟨[],bs,rfl,hP⟩)
 refine ⟨I,_,ZC id g env,_,ids',q2,λt d hd=>?_,p2.trans q3,.of_le q1,h g⟩;obtain ⟨d0,h0,rfl⟩:=Ys hd;exact ((hc.env t d0 h0).owd hg hg1).mono (Imm.le_refl I) q1
end
end Go.Hk
namespace Go.Hk
structure PA0 where
 dx:D
 dst:Option Nat
 todo:List DI
def lJ (tt:TT) (n:Nat) (env:Env) (todo:List DI):Option PA0 :=
 match AS todo ([],[]) with
 | some (_,o,todo')=>match o.guard,o.op with
  | none,.call { callee:=.builtin .append,args:=⟨[x,y]⟩,argTypes:=⟨[t,t']⟩ }=>match Nat.beq t t',lk tt t,CQ env x,CQ env y with
   | true,some { sh:=.sl e,.. },some (.clip es),some (.imm (.sl []))=>match lk tt e,B1 n o.dst with
    | some _,true=>some ⟨.clip es,o.dst,todo'⟩
    | _,_=>none
   | true,some { sh:=.sl e,.. },some (.imm (.sl es)),some (.imm (.sl []))=>match lk tt e,B1 n o.dst with
    | some _,true=>some ⟨.imm (.sl es),o.dst,todo'⟩
    | _,_=>none
   | _,_,_,_=>none
  | _,_=>none
 | none=>none
structure PEn where
 es:List (List V)
 eq:Bool
 dst:Option Nat
 todo:List DI
def nU (tt:TT) (n:Nat) (env:Env) (todo:List DI):Option PEn :=
 match AS todo ([],[]) with
 | some (_,o,todo')=>match o.guard,o.op with
  | none,.binOp .eql t x y _=>match lk tt t,CQ env x,CQ env y,B1 n o.dst with
   | some { sh:=.sl _,.. },some (.imm (.sl es)),some .nils,true=>some ⟨es,true,o.dst,todo'⟩
   | _,_,_,_=>none
  | none,.binOp .neq t x y _=>match lk tt t,CQ env x,CQ env y,B1 n o.dst with
   | some { sh:=.sl _,.. },some (.imm (.sl es)),some .nils,true=>some ⟨es,false,o.dst,todo'⟩
   | _,_,_,_=>none
  | _,_=>none
 | none=>none
section
variable {P:Program} {n:Nat} {F:List Nat} {Q:DQ} {tt:TT} {env env':Env} {st st':St} {ids ids':List Nat} {k todo todo':List DI} {I J:Imm} {μ:Mu} {w:World} {a:Act} {d:D}
theorem Uw {v:Value} {es:List (List V)} (h:RepV I v (.sl es)):∃ad len cap,v = .slice ad len cap/\len<=cap/\len=es.length:=by
 cases h with
 | slnil=>exact ⟨_,_,_,rfl,Nat.le_refl _,rfl⟩
 | sl0 ad=>exact ⟨_,_,_,rfl,Nat.le_refl _,rfl⟩
 | sl b o len cap sz _ vs hl hc=>exact ⟨_,_,_,rfl,hc,hl⟩
theorem aN (htt:TTok P tt) {c:PA0} (h:lJ tt n env todo=some c) (hk:G P n F Q c.todo (Bz c.dst c.dx env) st ids):G P n F Q todo env st ids:=by
 have key:∀{todo':List DI} {o:Oper} {all:List Oper} {x y:Operand} {t e:TypeId} {dx:D} {es:List (List V)} {ti:TyI},AS todo ([],[])=some (all,o,todo')->o.guard=none->o.op = .call { callee:=.builtin .append,args:=⟨[x,y]⟩,argTypes:=⟨[t,t]⟩ } ->
   P.underlying t=some (.slice e)->lk tt e=some ti->CQ env x=some dx->CQ env y=some (.imm (.sl []))->(∀I μ v,RepD I μ v dx->RepV I v (.sl es))->B1 n o.dst=true->G P n F Q todo' (Bz o.dst dx env) st ids->G P n F Q todo env st ids:=by
  intro todo' o all x y t e dx es ti h1 hg hop hu hi hx hy hd hdst hk;refine Bq (fr:=[]) (wr:=[]) (rd:=[]) h1 ?_ hdst (λc hc=>by rw [hop] at hc;cases hc) hk;intro I μ st1 ids1 a w hag hst hon;refine ⟨λ_=>?_,λhw=>by rw [A0 hg] at hw;cases hw⟩;have hops:=AJ hon;rw [hop] at hops;have rx:=hops x (by simp [Op.operands,Call.operands]) _ hx;have ry:=(hops y (by simp [Op.operands,Call.operands]) _ hy).immInv;obtain ⟨ad,len,cap,e1,e2,_⟩:=Uw (hd _ _ _ rx);obtain ⟨ady,ly,capy,e3,e4,e5⟩:=Uw ry;obtain ⟨inf,z,z1,z2,z3,z4,z5,z6⟩:=(htt e ti hi).info;simp only [List.length_nil] at e5;subst e5;have hr:(Builtin.append_ #[t,t] o.type #[a.eval x,a.eval y]).run P w = .ok (a.eval x) w:=by
   rw [e1,e3];cases ad <;> cases ady <;> simp [Builtin.append_,run_underlying hu,sizeOf,typeInfo,z1,Builtin.lenOf,e2,Builtin.firstCells,loadCells,loadCellsFrom,storeCells]
  have hrun:(execOp a.eval o).run P w = .ok (.value (a.eval x)) w:=by
   simp only [execOp,hop,resolve,invoke,builtin,Sem.run_bind,Sem.run_pure,Result.andThen_ok,List.map_toArray,List.map_cons,List.map_nil,hr]
  rw [hrun];exact ⟨I,μ,hst,rx,Mu.le_refl μ,Ext.refl _ _ _ _⟩
 unfold lJ at h
 split at h
 ·rename_i all o todo' h1
  split at h
  ·rename_i x y t t' hg hop
   split at h
   ·rename_i e _ _ _ _ es htt' ht hx hy;have:=Nat.eq_of_beq_eq_true htt';subst this
    split at h
    ·rename_i ti hi hd;cases h;exact key h1 hg hop (htt.sh ht) hi hx hy (λI μ v h=>by cases h;assumption) hd hk
    ·cases h
   ·rename_i e _ _ _ _ es htt' ht hx hy;have:=Nat.eq_of_beq_eq_true htt';subst this
    split at h
    ·rename_i ti hi hd;cases h;exact key h1 hg hop (htt.sh ht) hi hx hy (λI μ v h=>h.immInv) hd hk
    ·cases h
   ·cases h
  ·cases h
 ·cases h
theorem gC {α:Type} {all rest:List Oper} {o:Oper} (f:α->D) (good:α->Prop) (hnd:∀c,o.op ≠ .defer c) (hg:o.guard=none) (hn:∀t,o.dst=some t->t<n)
  (hy:∀I μ a w,StRep I μ st ids w->Dg I μ env a o.op->∃x v,good x/\(execOp a.eval o).run P w = .ok (.value v) w/\RepD I μ v (f x))
  (h:∀x,good x->DGo P n F Q (.ops all rest::k) (Bz o.dst (f x) env) st ids):DGo P n F Q (.ops all (o::rest)::k) env st ids:=by
 intro b cs I μ a w items hd hc;obtain ⟨j,is,rfl,hr,hk⟩:=ID hd;obtain ⟨hj,hr'⟩:=D5 hr;have hon:J9 (o.looksAt all.toArray) I μ env a:=λt _ d hl=>hc.env t d hl;obtain ⟨x,v,hx,hrun,hv⟩:=hy I μ a w hc.toStRep (AJ hon);obtain ⟨p1,p2,p3⟩:=Hh (n:=n) (w:=w) (dst:=o.dst) (λt d hl=>hc.env t d hl) hc.size hn hv;have:=h x hx b cs I μ (a.put o.dst v) w (.inRegion all.toArray (List.range' (j+1) rest.length)::is) ⟨⟨rfl,j+1,hr',rfl⟩,hk⟩
  {hc.toStRep with size:=p2,env:=by cases hdst:o.dst <;> simpa [Bz,hdst] using p1,defers:=by rw [p3];exact hc.defers }
 rw [p3] at this;have hlen:(o::rest).length=rest.length+1:=rfl;rw [hlen,List.range'_succ];refine FC hj (A0 hg) hnd ?_;unfold N0;rw [hrun];exact this
theorem Rw (m:Nat) {t e:TypeId} (hs:P.underlying t=some (.slice e)) (ad:Option Addr) (len cap:Nat):(Op.equalIn (m+1) t (.slice ad len cap) (.slice none 0 0)).run P w = .ok ad.isNone w:=by
 cases ad <;> simp [Op.equalIn,run_underlying hs]
theorem Oa {t e:TypeId} (hs:P.underlying t=some (.slice e)) (ad:Option Addr) (len cap:Nat):(Op.equal t (.slice ad len cap) (.slice none 0 0)).run P w = .ok ad.isNone w:=Rw 9999 hs ad len cap
theorem F7 {t e:TypeId} (hs:P.underlying t=some (.slice e)) (x y:Operand) (ad:Option Addr) (len cap:Nat) :
  (do eqGuard .eql t x y (.slice ad len cap) (.slice none 0 0);binOp .eql t (.slice ad len cap) (.slice none 0 0):Sem Value).run P w = .ok (.bool ad.isNone) w /\
  (do eqGuard .neq t x y (.slice ad len cap) (.slice none 0 0);binOp .neq t (.slice ad len cap) (.slice none 0 0):Sem Value).run P w = .ok (.bool (!ad.isNone)) w:=by
 constructor
 ·simp only [Sem.run_bind,CO .eql t x y (.slice ad len cap) (.slice none 0 0) (by simp) (by simp),Result.andThen_ok,binOp,Oa hs,Sem.run_pure]
 ·simp only [Sem.run_bind,CO .neq t x y (.slice ad len cap) (.slice none 0 0) (by simp) (by simp),Result.andThen_ok,binOp,Oa hs,Sem.run_pure]
theorem SP (htt:TTok P tt) {all rest:List Oper} {o:Oper} {c:PEn} (h:nU tt n env (.ops all (o::rest)::k)=some c) (hk:∀b:Bool,(c.es≠[]->b = !c.eq)->DGo P n F Q c.todo (Bz c.dst (.imm (.bool b)) env) st ids) :
  DGo P n F Q (.ops all (o::rest)::k) env st ids:=by
 unfold nU at h;simp only [AS] at h;have hnone:∀{I:Imm} {v:Value} {es:List (List V)},RepV I v (.sl es)->∃ad len cap,v = .slice ad len cap/\(es≠[]->ad.isNone=false):=by
  intro I v es h;cases h with
  | slnil=>exact ⟨_,_,_,rfl,λh=>absurd rfl h⟩
  | sl0 ad=>exact ⟨_,_,_,rfl,λ_=>rfl⟩
  | sl b o len cap sz _ vs hl hc=>exact ⟨_,_,_,rfl,λ_=>rfl⟩
 split at h
 ·rename_i t x y t' hg hop
  split at h
  ·rename_i e _ _ _ _ es ht hx hy hd;cases h;have hn:∀t,o.dst=some t->t<n:=λt ht=>by
    unfold B1 at hd;rw [ht] at hd;simpa [Nat.blt_eq] using hd
   refine gC (λb=>.imm (.bool b)) (λb=>es≠[]->b=false) (λc hc=>by rw [hop] at hc;cases hc) hg hn (λI μ a w hst hops=>?_) λb hb=>hk b hb;rw [hop] at hops;obtain ⟨ad,len,cap,e1,e2⟩:=hnone (hops x (by simp [Op.operands]) _ hx).immInv;have e3:a.eval y = .slice none 0 0:=by
    have:=hops y (by simp [Op.operands]) _ hy;generalize a.eval y=v at this;cases this;rfl
   refine ⟨ad.isNone,.bool ad.isNone,e2,?_,.imm _ _ (.bool _)⟩;simp only [execOp,hop,e1,e3];exact At (F7 (htt.sh ht) x y ad len cap).1
  ·cases h
 ·rename_i t x y t' hg hop
  split at h
  ·rename_i e _ _ _ _ es ht hx hy hd;cases h;have hn:∀t,o.dst=some t->t<n:=λt ht=>by
    unfold B1 at hd;rw [ht] at hd;simpa [Nat.blt_eq] using hd
   refine gC (λb=>.imm (.bool b)) (λb=>es≠[]->b=true) (λc hc=>by rw [hop] at hc;cases hc) hg hn (λI μ a w hst hops=>?_) λb hb=>hk b hb;rw [hop] at hops;obtain ⟨ad,len,cap,e1,e2⟩:=hnone (hops x (by simp [Op.operands]) _ hx).immInv;have e3:a.eval y = .slice none 0 0:=by
    have:=hops y (by simp [Op.operands]) _ hy;generalize a.eval y=v at this;cases this;rfl
   refine ⟨!ad.isNone,.bool (!ad.isNone),λh=>by rw [e2 h];rfl,?_,.imm _ _ (.bool _)⟩;simp only [execOp,hop,e1,e3];exact At (F7 (htt.sh ht) x y ad len cap).2
  ·cases h
 ·cases h
end
end Go.Hk
namespace Go.Hk
section
variable {P:Program} {n:Nat} {F:List Nat} {Q:DQ} {tt:TT} {env env':Env} {st st':St} {ids ids':List Nat} {k todo todo':List DI} {I J:Imm} {μ:Mu} {w:World} {a:Act} {d:D}
theorem BN {α:Type} (id:Nat) {A:Asn} (B:α->Asn) (hl:lk st id=some (some (.hp A))) (hA:∀vs I w bs,A.P vs I w bs->∃x,(B x).P vs I w bs)
  (h:∀x,DGo P n F Q todo env ((id,some (.hp (B x)))::st) ids):DGo P n F Q todo env st ids:=by
 refine Ds λI μ a w hc=>?_;obtain ⟨g,hg,vs,bs,rfl,hP⟩:=hc.blk id _ hl;obtain ⟨x,hx⟩:=hA vs I w bs hP;have hlive:∀i b,Aq ((id,some (.hp (B x)))::st) i b->(i=id/\b = .hp (B x))\/(i≠id/\Aq st i b):=λi b hl=>by
  rcases Av.1 hl with ⟨rfl,rfl⟩ | h
  ·exact .inl ⟨rfl,rfl⟩
  ·exact .inr h
 have hold:∀i b,Aq ((id,some (.hp (B x)))::st) i b->∃b0,Aq st i b0:=λi b hl=>by
  rcases hlive i b hl with ⟨rfl,_⟩ | ⟨_,h⟩
  ·exact ⟨_,‹lk st i=_›⟩
  ·exact ⟨_,h⟩
 refine ⟨I,μ,env,_,ids,{ imm:=hc.imm,blk:=λi b hlb=>?_,apart:=λi b g k hlb hg' hk=>?_,inj:=λi j bi bj gi gj k hi hj=>?_,nodup:=hc.nodup,idsFree:=hc.idsFree },λt d hd=>hc.env t d hd,?_,Pin.refl _ _,h x⟩
 ·rcases hlive i b hlb with ⟨rfl,rfl⟩ | ⟨_,h⟩
  ·exact ⟨_,hg,vs,bs,rfl,hx⟩
  ·exact hc.blk i b h
 ·obtain ⟨b0,h0⟩:=hold i b hlb;exact hc.apart i b0 g k h0 hg' hk
 ·obtain ⟨b0,h0⟩:=hold i bi hi;obtain ⟨b1,h1⟩:=hold j bj hj;exact hc.inj i j b0 b1 gi gj k h0 h1
 ·exact { imm:=Imm.le_refl I,os:=rfl,tape:=rfl,output:=rfl,size:=Nat.le_refl _,block:=λ_ _ _=>rfl,old:=λ_ _ _=>rfl
          fresh:=λb _ ⟨i,bi,g,h1,h2⟩=>let ⟨b0,q⟩:=hold i bi h1;⟨i,b0,g,q,h2⟩ }
end
end Go.Hk
namespace Go.Hk
section
variable {P:Program} {n:Nat} {F:List Nat} {Q:DQ} {tt:TT} {env env':Env} {st st':St} {ids ids':List Nat} {k todo todo':List DI} {I J:Imm} {μ:Mu} {w:World} {a:Act} {d:D}
end
end Go.Hk
namespace Go.Hk
def Rf (b:Nat) (t:TypeId) (ds:List D):Asn where
 P:=λ_ I w bs=>bs=[b]/\∃vs,w.heap[b]?=some (.cells vs t (0,0))/\RepL I noMu vs.toList ds/\∀v∈vs.toList,v.oneCell'=true
 mono:=λh ⟨h1,vs,h2,h3,h4⟩=>⟨h1,vs,h2,h3.mono h (Mu.le_refl _),h4⟩
 loc:=λh ⟨h1,vs,h2,h3⟩=>⟨h1,vs,(h b (by simp [h1])).trans h2,h3⟩
mutual
def WG (id b:Nat):D->D
 | .ref i off=>bif Nat.beq i id then .raw (.pointer (some ⟨b,off,none⟩)) else .ref i off
 | .agg cs=>.agg (WF id b cs)
 | .tup cs=>.tup (WF id b cs)
 | d=>d
def WF (id b:Nat):List D->List D
 | []=>[]
 | d::r=>WG id b d::WF id b r
end
def Z7 (id b:Nat):Env->Env
 | []=>[]
 | (t,d)::r=>(t,WG id b d)::Z7 id b r
def mH (id b:Nat):Blk->Blk
 | .cells t sz cs=>.cells t sz (WF id b cs)
 | x=>x
def P7 (id b:Nat):St->St
 | []=>[]
 | (i,some x)::r=>(i,some (mH id b x))::P7 id b r
 | (i,none)::r=>(i,none)::P7 id b r
theorem Ik (id b:Nat):∀l:List D,WF id b l=l.map (WG id b)
 | []=>rfl
 | d::r=>by simp [WF,Ik id b r]
section
variable {P:Program} {n:Nat} {F:List Nat} {Q:DQ} {tt:TT} {env env':Env} {st st':St} {ids ids':List Nat} {todo:List DI} {I J:Imm} {μ:Mu} {w:World} {a:Act} {d:D}
theorem RepD.refd {id b:Nat} (hm:μ id=some (.pointer (some ⟨b,0,none⟩))) {v:Value} (h:RepD I μ v d):RepD I μ v (WG id b d):=by
 have at_:∀{l:List D} {i:Nat} {x:D},(WF id b l)[i]?=some x->∃y,l[i]?=some y/\x=WG id b y:=by
  intro l i x hx;rw [Ik,List.getElem?_map] at hx;cases hl:l[i]? with
  | none=>rw [hl] at hx;cases hx
  | some y=>rw [hl] at hx;cases hx;exact ⟨y,rfl,rfl⟩
 induction h with
 | ref b' i off h =>
  simp only [WG];cases hb:Nat.beq i id with
  | false=>exact .ref b' i off h
  | true =>
   rw [Nat.eq_of_beq_eq_true hb,hm] at h;cases h;exact .raw _ rfl
 | agg cs ds hl h1 _ ih =>
  refine .agg cs _ (by rw [Ik,List.length_map,hl]) h1 λi c x hc hx=>?_;obtain ⟨y,hy,rfl⟩:=at_ hx;exact ih i c y hc hy
 | tup cs ds hl _ ih =>
  refine .tup cs _ (by rw [Ik,List.length_map,hl]) λi c x hc hx=>?_;obtain ⟨y,hy,rfl⟩:=at_ hx;exact ih i c y hc hy
 | undef v=>exact .undef v
 | imm v x hx=>exact .imm v x hx
 | nils=>exact .nils
 | own i len a cap hm=>exact .own i len a cap hm
 | ip b o t cs off vs hcell hrep=>exact .ip b o t cs off vs hcell hrep
 | elp b i len cap k sz f hm=>exact .elp b i len cap k sz f hm
 | mapr i b hm=>exact .mapr i b hm
 | iter i b hm=>exact .iter i b hm
 | fn f first cap df dc hf hc h1 h2 _ _=>exact .fn f first cap df dc hf hc h1 h2
 | iface t v d h _=>exact .iface t v d h
 | guard c want v d h hu _=>exact .guard c want v d h hu
 | clip a len es hr=>exact .clip a len es hr
 | slc b i off len cap hm hl hx=>exact .slc b i off len cap hm hl hx
 | yld b i hm=>exact .yld b i hm
 | raw v h=>exact .raw v h
 | hv v i k us cs h hi h1=>exact .hv v i k us cs h hi h1
theorem Yj {id b:Nat}:∀{env:Env} {t:Nat} {d:D},lk (Z7 id b env) t=some d->∃d0,lk env t=some d0/\d=WG id b d0
 | [],t,d,h=>by simp [Z7,lk] at h
 | (s,x)::r,t,d,h=>by
  simp only [Z7] at h;by_cases hs:s=t
  ·subst hs;rw [Ap] at h ⊢;cases h;exact ⟨x,rfl,rfl⟩
  ·rw [Au _ _ hs] at h ⊢;exact Yj h
theorem M5 {id b i:Nat} {x:Blk}:∀{st:St},Aq (P7 id b st) i x->∃b0,Aq st i b0/\x=mH id b b0
 | [],h=>by simp [P7,Aq,lk] at h
 | (k,some y)::r,h=>by
  simp only [P7] at h;rcases Av.1 h with ⟨h1,h2⟩ | ⟨h1,h2⟩
  ·exact ⟨y,by unfold Aq;rw [h1,Ap],h2⟩
  ·obtain ⟨b0,q1,q2⟩:=M5 h2;exact ⟨b0,Av.2 (.inr ⟨h1,q1⟩),q2⟩
 | (k,none)::r,h=>by
  simp only [P7] at h;obtain ⟨h1,h2⟩:=B0.1 h;obtain ⟨b0,q1,q2⟩:=M5 h2;exact ⟨b0,B0.2 ⟨h1,q1⟩,q2⟩
theorem ML {id b i:Nat} {x:Blk}:∀{st:St},Aq st i x->Aq (P7 id b st) i (mH id b x)
 | [],h=>by simp [Aq,lk] at h
 | (k,some y)::r,h=>by
  simp only [P7];rcases Av.1 h with ⟨h1,h2⟩ | ⟨h1,h2⟩
  ·exact Av.2 (.inl ⟨h1,by rw [h2]⟩)
  ·exact Av.2 (.inr ⟨h1,ML h2⟩)
 | (k,none)::r,h=>by
  simp only [P7];obtain ⟨h1,h2⟩:=B0.1 h;exact B0.2 ⟨h1,ML h2⟩
theorem Gg (id j:Nat) {t:TypeId} {sz:Nat} {ds:List D} (hl:lk st id=some (some (.cells t sz ds))) (hnm:Iv ds=[])
  (h:∀b,DGo P n F Q todo (Z7 id b env) ((j,some (.hp (Rf b t ds)))::(id,none)::P7 id b st) ids'):DGo P n F Q todo env st (j::ids'):=by
 refine Ds λI μ a w hc=>?_;obtain ⟨g,hg,hs,b,us,rfl,hheap,hrep,hone⟩:=hc.blk id _ hl;obtain ⟨p1,p2⟩:=hc.toStRep.retell (st1:=P7 id b st) (λi x hlb=>by
  obtain ⟨b0,q1,rfl⟩:=M5 hlb;refine ⟨b0,q1,λgb hb=>?_⟩;cases b0 with
  | cells t sz cs =>
   obtain ⟨hs,b',us,e1,e2,e3,e4⟩:=hb;exact ⟨by rw [Ik,List.length_map,hs],b',us,e1,e2,⟨by rw [Ik,List.length_map,e3.1],λi v y hv hy=>by
    rw [Ik,List.getElem?_map] at hy;cases hc':cs[i]? with
    | none=>rw [hc'] at hy;cases hy
    | some z=>rw [hc'] at hy;cases hy;exact (e3.2 i v z hv hc').refd hg⟩,e4⟩
  | _=>exact hb)
 obtain ⟨q1,q2,q3⟩:=StRep.relay (R:=[id]) (new:=[(j,MQ [] [b],.hp (Rf b t ds))]) (ids':=ids') p1
  (λp hp b' hb=>by
   rw [List.mem_singleton.1 hp] at hb;have:=AL.1 hb;rw [List.mem_singleton.1 this];exact ⟨id,_,_,by simp,ML hl,hg,rfl⟩)
  (λp hp q hq b _ _=>by rw [List.mem_singleton.1 hp,List.mem_singleton.1 hq]) (Imm.le_refl I) hc.imm (λb o h=>.inl h)
  (λ_ p hp=>by rw [List.mem_singleton.1 hp];exact ⟨[],[b],rfl,rfl,us,hheap,hrep.sub (λj hj=>by rw [hnm] at hj;cases hj),hone⟩)
 refine ⟨I,_,Z7 id b env,_,ids',q2,λt d hd=>?_,p2.trans q3,.of_le q1,h b⟩;obtain ⟨d0,h0,rfl⟩:=Yj hd;exact ((hc.env t d0 h0).refd hg).mono (Imm.le_refl I) q1
end
end Go.Hk
namespace Go.Hk
def EQ:V->Bool
 | .bool _ | .int .. | .str _=>true
 | _=>false
def Di:List V->Bool
 | []=>true
 | x::r=>EQ x&&Di r
def M2:List (List V)->Bool
 | []=>true
 | e::r=>Di e&&M2 r
def Tp:List (V×V)->Bool
 | []=>true
 | (a,b)::r=>EQ a&&EQ b&&Tp r
def dF:D->Bool
 | .imm x=>EQ x
 | .tup []=>true
 | .own _ _=>true
 | .tup [.imm a,.imm b]=>EQ a&&EQ b
 | _=>false
def dG:Blk->Prop
 | .map kv=>Tp kv=true
 | .row _ _ es=>M2 es=true
 | .immb _ _ xs=>Di xs=true
 | _=>False
def Yd:St->Prop
 | []=>True
 | (_,some b)::r=>dG b/\Yd r
 | (_,none)::r=>Yd r
section
variable {P:Program} {I J:Imm} {μ ν:Mu} {st:St} {w:World}
theorem D8 {v:Value} {x:V} (h:EQ x=true) (hr:RepV J v x):RepV I v x:=by
 cases hr <;> first | (simp [EQ] at h;done) | constructor <;> assumption
theorem Px:∀{xs:List V} {vs:List Value},Di xs=true->RepVL J vs xs->RepVL I vs xs:=by
 intro xs vs h hr;refine ⟨hr.1,λi v x h1 h2=>?_⟩;have:∀{xs:List V} {i:Nat} {x:V},Di xs=true->xs[i]?=some x->EQ x=true:=by
  intro xs
  induction xs with
  | nil=>intro i x _ h;simp at h
  | cons y r ih =>
   intro i x hs h;simp only [Di,Bool.and_eq_true] at hs;cases i with
   | zero=>simp at h;subst h;exact hs.1
   | succ i=>exact ih hs.2 (by simpa using h)
 exact D8 (this h h2) (hr.2 i v x h1 h2)
theorem NC:∀{es:List (List V)},M2 es=true->Di es.flatten=true
 | [],_=>rfl
 | e::r,h=>by
  simp only [M2,Bool.and_eq_true] at h;have:∀{a b:List V},Di a=true->Di b=true->Di (a++b)=true:=by
   intro a
   induction a with
   | nil=>intro b _ h;exact h
   | cons x r ih =>
    intro b h1 h2;simp only [Di,Bool.and_eq_true,List.cons_append] at h1 ⊢;exact ⟨h1.1,ih h1.2 h2⟩
  exact this h.1 (NC h.2)
theorem K8:∀{kv:List (V×V)} {i:Nat} {p:V×V},Tp kv=true->kv[i]?=some p->EQ p.1=true/\EQ p.2=true
 | [],i,p,_,h=>by simp at h
 | (a,b)::r,i,p,hs,h=>by
  simp only [Tp,Bool.and_eq_true] at hs;cases i with
  | zero=>simp at h;subst h;exact hs.1
  | succ i=>exact K8 hs.2 (by simpa using h)
theorem Zy {g:Value} {b:Blk} (h:dG b) (hr:BlkRep J μ w g b):BlkRep I ν w g b:=by
 cases b with
 | map kv =>
  obtain ⟨b,es,clock,h1,h2,h3,h4,h5⟩:=hr;exact ⟨b,es,clock,h1,h2,h3,h4,λi e p a b=>⟨D8 (K8 h b).1 (h5 i e p a b).1,D8 (K8 h b).2 (h5 i e p a b).2⟩⟩
 | row t sz es =>
  obtain ⟨xs,h1,h2,h3⟩:=hr;exact ⟨xs,h1,Px (NC h) h2,h3⟩
 | immb t sz xs =>
  obtain ⟨hs,b,vs,h1,h2,h3,h4⟩:=hr;exact ⟨hs,b,vs,h1,h2,Px h h3,h4⟩
 | _=>exact h.elim
theorem K7:∀{st:St} {i:Nat} {b:Blk},Yd st->Aq st i b->dG b
 | [],i,b,_,h=>by simp [Aq,lk] at h
 | (k,some y)::r,i,b,hs,h=>by
  rcases Av.1 h with ⟨_,rfl⟩ | ⟨_,h⟩
  ·exact hs.1
  ·exact K7 hs.2 h
 | (k,none)::r,i,b,hs,h=>K7 (st:=r) hs (B0.1 h).2
theorem Zx {v:Value} {d:D} (h:dF d=true) (hr:RepD J μ v d) (hn:∀i∈Iw d,∀g,μ i=some g->ν i=some g):RepD I ν v d:=by
 unfold dF at h
 split at h
 ·exact .imm _ _ (D8 h hr.immInv)
 ·cases hr with
  | tup cs _ hl _=>exact .tup cs [] hl λi c x _ hx=>by simp at hx
 ·cases hr with
  | own _ _ a cap hm=>exact .own _ _ a cap (hn _ (by simp [Iw]) _ hm)
 ·rename_i a b;rw [Bool.and_eq_true] at h;cases hr with
  | tup cs _ hl hh =>
   refine .tup cs _ hl λi c x hc hx=>?_
   match i with
   | 0=>simp at hx;subst hx;exact .imm _ _ (D8 h.1 (hh 0 c _ hc rfl).immInv)
   | 1=>simp at hx;subst hx;exact .imm _ _ (D8 h.2 (hh 1 c _ hc rfl).immInv)
   | i+2=>simp at hx
 ·cases h
theorem Ob {f:FuncId} {das das':List D} {st0 st1:St} {d:D} (k:Nat) (A:Asn) (hE:AV P f das st0 (.ret d st1)) (hd:dF d=true) (hs:Yd st1) (hk0:k∉DP st0) (hk1:k∉DP st1) (hkd:k∉Iw d)
  (hview:∀vs I J μ w bs,A.P vs I w bs->I.le J->(∀b∈bs,J b=w.heap[b]?)->∀xs:List Value,RepL J μ xs das'->RepL J μ xs das):AV P f das' ((k,some (.hp A))::st0) (.ret d ((k,some (.hp A))::st1)):=by
 intro I μ w xs hst hx;obtain ⟨g,hg,vs,bs,rfl,hP⟩:=hst.blk k _ (Av.2 (.inl ⟨rfl,rfl⟩));have hkl:Aq ((k,some (.hp A))::st0) k (.hp A):=Av.2 (.inl ⟨rfl,rfl⟩);have hbs:∀b∈bs,I b=none/\b<w.heap.size:=λb hb=>hst.apart k _ _ b hkl hg (AL.2 hb);have hle:I.le (I.plus bs w):=λb o h=>by
  have:EA bs b=false:=by
   cases hm:EA bs b with
   | false=>rfl
   | true=>rw [(hbs b (BE.1 hm)).1] at h;cases h
  simp [Imm.plus,this,h]
 have hJb:∀b∈bs,I.plus bs w b=w.heap[b]?:=λb hb=>by simp [Imm.plus,BE.2 hb]
 have up:∀{i b},Aq st0 i b->Aq ((k,some (.hp A))::st0) i b:=λ{i b} hl=>Av.2 (.inr ⟨λe=>hk0 (e ▸ CH hl),hl⟩);have hno:∀b∈bs,¬Bv μ st0 b:=λb hb ⟨i,blk,g,h1,h2,h3⟩=>hk0 (by
  have:=hst.inj k i _ _ _ _ b hkl (up h1) hg h2 (AL.2 hb) h3;rw [this];exact CH h1)
 have hst0:StRep (I.plus bs w) μ st0 [] w :=
  {imm:=λb o h=>by
    unfold Imm.plus at h
    split at h
    ·exact h
    ·exact hst.imm b o h
   blk:=λi b hl=>by
    obtain ⟨g,h1,h2⟩:=hst.blk i b (up hl);exact ⟨g,h1,h2.mono hle (Mu.le_refl μ)⟩
   apart:=λi b g bb hl hg' hb=>by
    obtain ⟨h1,h2⟩:=hst.apart i b g bb (up hl) hg' hb;refine ⟨?_,h2⟩;unfold Imm.plus
    split
    ·rename_i hm;exact absurd ⟨i,b,g,hl,hg',hb⟩ (hno bb (BE.1 hm))
    ·exact h1
   inj:=λi j bi bj gi gj b hi hj=>hst.inj i j bi bj gi gj b (up hi) (up hj)
   nodup:=.nil
   idsFree:=λi hi=>by cases hi }
 refine (hE (I.plus bs w) μ w xs hst0 (hview vs I _ μ w bs hP hle hJb _ (hx.mono hle (Mu.le_refl μ)))).mono (λu w' hu=>?_) (λ_ _ h=>h);obtain ⟨I',μ',r1,r2,r3,r4⟩:=hu;obtain ⟨ν,hν⟩:∃ν:Mu,ν=λi=>if i=k then some (MQ vs bs) else μ' i:=⟨_,rfl⟩
 have hνk:ν k=some (MQ vs bs):=by rw [hν];simp
 have hνo:∀i,i≠k->ν i=μ' i:=λi hi=>by rw [hν];simp [hi]
 have hlive:∀{i b},Aq ((k,some (.hp A))::st1) i b->(i=k/\b = .hp A)\/(i≠k/\Aq st1 i b):=λ{i b} hl=>by
  rcases Av.1 hl with ⟨rfl,rfl⟩ | h
  ·exact .inl ⟨rfl,rfl⟩
  ·exact .inr h
 have hheap:∀b∈bs,w'.heap[b]?=w.heap[b]?:=λb hb=>r4.block b (hbs b hb).2 (hno b hb);have hno1:∀b∈bs,∀i blk g,Aq st1 i blk->μ' i=some g->¬CY g b:=λb hb i blk g h1 h2 h3=>hno b hb (r4.fresh b (hbs b hb).2 ⟨i,blk,g,h1,h2,h3⟩);refine ⟨I,ν,Zx hd r1 (λi hi g hg'=>by rw [hνo i (λe=>hkd (e ▸ hi))];exact hg'),?_,?_,?_⟩
 ·refine { imm:=λb o h=>r2.imm b o (r4.imm b o (hle b o h)),blk:=λi b hl=>?_,apart:=λi b g bb hl hg' hb=>?_,inj:=λi j bi bj gi gj b hi hj hgi hgj hbi hbj=>?_,nodup:=.nil,idsFree:=λi hi=>by cases hi }
  ·rcases hlive hl with ⟨rfl,rfl⟩ | ⟨hne,h⟩
   ·exact ⟨_,hνk,vs,bs,rfl,A.loc hheap hP⟩
   ·obtain ⟨g,q1,q2⟩:=r2.blk i b h;exact ⟨g,by rw [hνo i hne];exact q1,Zy (K7 hs h) q2⟩
  ·rcases hlive hl with ⟨rfl,rfl⟩ | ⟨hne,h⟩
   ·rw [hνk] at hg';cases hg';have:=hbs bb (AL.1 hb);exact ⟨this.1,Nat.lt_of_lt_of_le this.2 r4.size⟩
   ·rw [hνo i hne] at hg';obtain ⟨q1,q2⟩:=r2.apart i b g bb h hg' hb;refine ⟨?_,q2⟩;cases hI:I bb with
    | none=>rfl
    | some o=>rw [r4.imm bb o (hle bb o hI)] at q1;cases q1
  ·rcases hlive hi with ⟨rfl,rfl⟩ | ⟨hni,h1⟩
   ·rw [hνk] at hgi;cases hgi;rcases hlive hj with ⟨rfl,rfl⟩ | ⟨hnj,h2⟩
    ·rfl
    ·rw [hνo j hnj] at hgj;exact absurd hbj (hno1 b (AL.1 hbi) j bj gj h2 hgj)
   ·rw [hνo i hni] at hgi;rcases hlive hj with ⟨rfl,rfl⟩ | ⟨hnj,h2⟩
    ·rw [hνk] at hgj;cases hgj;exact absurd hbi (hno1 b (AL.1 hbj) i bi gi h1 hgi)
    ·rw [hνo j hnj] at hgj;exact r2.inj i j bi bj gi gj b h1 h2 hgi hgj hbi hbj
 ·intro i hi v hv;by_cases e:i=k
  ·subst e;rw [hg] at hv;cases hv;exact hνk
  ·rw [hνo i e];refine r3 i ?_ v hv;simp only [DP,List.map_cons,List.mem_cons] at hi;exact hi.resolve_left e
 ·refine { imm:=Imm.le_refl I,os:=r4.os,tape:=r4.tape,output:=r4.output,size:=r4.size,block:=λb hb ho=>r4.block b hb λh=>ho ?_,fresh:=λb hb ⟨i,blk,g,h1,h2,h3⟩=>?_,old:=λ_ _ _=>rfl }
  ·obtain ⟨i,blk,g,h1,h2,h3⟩:=h;exact ⟨i,blk,g,up h1,h2,h3⟩
  ·rcases hlive h1 with ⟨rfl,rfl⟩ | ⟨hne,h⟩
   ·rw [hνk] at h2;cases h2;exact ⟨_,_,_,hkl,hg,h3⟩
   ·rw [hνo i hne] at h2;obtain ⟨j,bj,gj,q1,q2,q3⟩:=r4.fresh b hb ⟨i,blk,g,h,h2,h3⟩;exact ⟨j,bj,gj,up q1,q2,q3⟩
end
end Go.Hk
namespace Go.Hk
section
variable {P:Program} {n:Nat} {F:List Nat} {Q:DQ} {todo:List DI} {env:Env} {st:St} {ids':List Nat}
theorem CI (t j:Nat) {e:TypeId} {sz:Nat} (hsz:0<sz) (ht:lk env t=some .nils) (h:DGo P n F Q todo ((t,.own j 0)::env) ((j,some (.row e sz []))::st) ids'):DGo P n F Q todo env st (j::ids'):=by
 refine Ds λI μ a w hc=>?_;have hv:a.tmps.getD t undef = .slice none 0 0:=by
  have:=hc.env t _ ht;generalize a.tmps.getD t undef=v at this;cases this with
  | nils=>rfl
 obtain ⟨q1,q2,q3⟩:=StRep.relay (R:=[]) (new:=[(j,.slice none 0 0,.row e sz [])]) (ids':=ids') hc.toStRep
  (λp hp b hb=>by rw [List.mem_singleton.1 hp] at hb;exact hb.elim)
  (λp hp q hq b _ _=>by rw [List.mem_singleton.1 hp,List.mem_singleton.1 hq]) (Imm.le_refl I) hc.imm (λb o h=>.inl h)
  (λ_ p hp=>by
   rw [List.mem_singleton.1 hp];exact ⟨[],World.ownsRow_nil w _ e sz,⟨rfl,λi v x h _=>by simp at h⟩,λ_ h=>by simp at h,λ_ h=>by simp at h,hsz⟩)
 refine ⟨I,_,_,_,ids',q2,λt' d hd=>?_,q3,.of_le q1,h⟩;by_cases e:t=t'
 ·subst e;rw [Ap] at hd;cases hd;rw [hv];exact .own j 0 none 0 (by simp [E7,lk])
 ·rw [Au _ _ e] at hd;exact (hc.env t' d hd).mono (Imm.le_refl I) q1
end
end Go.Hk
namespace Go.Hk
open Go.Proofs
def cF:Ty:=.mk 3 0 [] []
def Hq:Fd:=⟨[102],[120],cF,cF,.mk 3 0 [] [] []⟩
def BT (ds:List Dt):List Str:=ds.flatMap λd=>d.cons.map Cd.name
def C0 (ds:List Dt):List Str:=ds.map Dt.name
def BX (ds l:List Dt):Bool:=l.all λd=>d.cons.all λc=>Bd ds c.args
def GO (ds:List Dt):Bool:=Ea ⟨[109],ds,[Hq]⟩&&(BX ds ds&&(Bm (C0 ds)&&Bm (BT ds)))
theorem C4 (ds:List Dt):∀l:List Ty,Bd ds l=l.all (AB ds)
 | []=>rfl
 | t::r=>by simp [Bd,C4 ds r]
theorem DW {α:Type} {l:List α} {q:α->Bool} {i:Nat} {t:α} (h:l[i]?=some t):(l.drop i).all q=(q t&&(l.drop (i+1)).all q):=by rw [Ao h];rfl
theorem Jg {ds:List Dt} (h:Ea ⟨[109],ds,[Hq]⟩=true):ds.length<=4/\∀d∈ds,d.cons.length<=5/\∀c∈d.cons,c.args.length<=3:=by
 simp only [Ea,Bool.and_eq_true,List.all_eq_true,decide_eq_true_eq] at h;refine ⟨by omega,λd hd=>?_⟩;have hd:=h.1.2 d hd;simp only [Ib,Bool.and_eq_true,List.all_eq_true,Fp,decide_eq_true_eq] at hd;refine ⟨by omega,λc hc=>?_⟩;have hc:=hd.2 c hc;simp only [Nb,Bool.and_eq_true,decide_eq_true_eq] at hc;omega
theorem QH {ds:List Dt} {i:Nat} {d:Dt} (h:ds[i]?=some d):BT (ds.take (i+1))=BT (ds.take i)++d.cons.map Cd.name:=by
 rw [Be h];simp [BT]
theorem SV {ds:List Dt} (h:∀d∈ds,d.cons.length<=5):(BT ds).length<=5*ds.length:=by
 induction ds with
 | nil=>simp [BT]
 | cons d r ih =>
  have h1:=h d (by simp);have h2:=ih λx hx=>h x (by simp [hx]);simp only [BT,List.flatMap_cons,List.length_append,List.length_map,List.length_cons] at h2 ⊢;omega
set_option maxHeartbeats 1000000 in
theorem iE (ds:List Dt):Al Tryz.prog 60 [.sl (ds.map C7)] (.bool (GO ds)):=by
 refine Ae Dq Tryz.func60 (by decide +kernel) rfl [1,2,3,4,5,6,7,8] rfl rfl ?_;refine cg [] rfl (by simp) ?_;refine Ac rfl (λ_=>bG ⟨[109],ds,[Hq]⟩) (by simp) ?_;refine cg [] rfl (by simp) ?_;refine Aa rfl (λh=>?_) (λh=>?_)
 ·refine cd [] rfl (by simp) ?_;refine Ab ⟨_,rfl,tV (congrArg _ ?_),trivial⟩;simp at h;simp [GO,h]
 have hm:Ea ⟨[109],ds,[Hq]⟩=true:=by simpa using h
 clear h;obtain ⟨hl1,hl2⟩:=Jg hm;refine cd [] rfl (by simp) ?_;refine CI (e:=9) (sz:=1) 5 3 (by decide) rfl ?_;refine CI (e:=9) (sz:=1) 6 4 (by decide) rfl ?_;rw [show GO ds=(BX ds ds&&(Bm (C0 ds)&&Bm (BT ds))) by simp [GO,hm]];refine Aj (λi:Nat=>[(7,.imm (.int .i64 i)),(0,.imm (.sl (ds.map C7))),(5,.own 3 (Dw (C0 (ds.take i))).length),(6,.own 4 (Dw (BT (ds.take i))).length)])
  (λi=>[(3,some (.row 9 1 (Dw (C0 (ds.take i))))),(4,some (.row 9 1 (Dw (BT (ds.take i)))))]) [5,6,7] (λi=>ds.length-i)
  (λi=>i<=ds.length/\BX ds ds=BX ds (ds.drop i)) 0 ⟨Nat.zero_le _,rfl⟩ ⟨rfl,rfl,rfl,rfl,trivial⟩ ⟨rfl,rfl,trivial⟩ rfl λi hi ih=>?_
 obtain ⟨hi1,hi2⟩:=hi;refine cd [] rfl (by simp) ?_;refine Aa rfl (λh=>?_) (λh=>?_)
 ·simp at h;obtain ⟨d,hd⟩:=Am h;have hdm:=hl2 d (List.mem_of_getElem? hd);have hcl:=SV (ds:=ds.take i) λx hx=>(hl2 x (List.mem_of_mem_take hx)).1;rw [List.length_take] at hcl;have et:C0 (ds.take (i+1))=C0 (ds.take i)++[d.name]:=by rw [Be hd];simp [C0]
  have ec:=QH hd;rw [show BX ds (ds.drop i)=(d.cons.all (λc=>Bd ds c.args)&&BX ds (ds.drop (i+1))) from DW hd] at hi2;refine cd [] rfl (by simp) ?_;refine ci rfl (c:=C7 d) (λ_=>⟨by simp,by simpa using Bp hd,by simp⟩) (by simp) ?_;obtain ⟨dn,dc⟩:=d;refine cg [] rfl (by simp) ?_;refine BC Dq rfl ⟨by simp,by simp [maxLen,C0];omega,by simp [C0];omega,trivial⟩ ?_;refine cg [] rfl (by simp) ?_;refine A4 3 5 rfl ?_;simp only at hdm ec et hi2 ⊢;refine Aj (λk:Nat=>[(8,.imm (.int .i64 k)),(7,.imm (.int .i64 i)),(0,.imm (.sl (ds.map C7))),(5,.own 3 (Dw (C0 (ds.take (i+1)))).length),(6,.own 4 (Dw (BT (ds.take i)++(dc.take k).map Cd.name)).length)])
   (λk=>[(3,some (.row 9 1 (Dw (C0 (ds.take (i+1)))))),(4,some (.row 9 1 (Dw (BT (ds.take i)++(dc.take k).map Cd.name))))]) [5,6,7] (λk=>dc.length-k)
   (λk=>k<=dc.length/\dc.all (λc=>Bd ds c.args)=(dc.drop k).all (λc=>Bd ds c.args)) 0 ⟨Nat.zero_le _,rfl⟩ ⟨rfl,rfl,rfl,by rw [et,Et];rfl,by rw [List.take_zero,List.map_nil,List.append_nil];rfl,trivial⟩ ⟨by rw [et,Et];rfl,by rw [List.take_zero,List.map_nil,List.append_nil];rfl,trivial⟩ rfl λk hk jh=>?_
  obtain ⟨hk1,hk2⟩:=hk;refine cd [] rfl (by simp) ?_;refine ci rfl (c:=C7 ⟨dn,dc⟩) (λ_=>⟨by simp,by simpa using Bp hd,by simp⟩) (by simp) ?_;refine cg [] rfl (by simp) ?_;refine Aa rfl (λh=>?_) (λh=>?_)
  ·simp at h;obtain ⟨c,hc⟩:=Am h;have hcm:=hdm.2 c (List.mem_of_getElem? hc);have ek:(dc.take (k+1)).map Cd.name=(dc.take k).map Cd.name++[c.name]:=by rw [Be hc];simp
   rw [DW hc] at hk2;refine cd [] rfl (by simp) ?_;refine ci rfl (c:=C7 ⟨dn,dc⟩) (λ_=>⟨by simp,by simpa using Bp hd,by simp⟩) (by simp) ?_;refine cg [] rfl (by simp) ?_;refine ci rfl (c:=Dy c) (λ_=>⟨by simp,by simpa using Bp hc,by simp⟩) (by simp) ?_;obtain ⟨cn,ca⟩:=c;refine cg [] rfl (by simp) ?_;refine BC Dq rfl ⟨by simp,by simp [maxLen];omega,by simp;omega,trivial⟩ ?_;refine cg [] rfl (by simp) ?_;refine A4 4 5 rfl ?_;simp only at hcm ek hk2 ⊢;refine Aj (λn:Nat=>[(9,.imm (.int .i64 n)),(8,.imm (.int .i64 k)),(7,.imm (.int .i64 i)),(0,.imm (.sl (ds.map C7))),(5,.own 3 (Dw (C0 (ds.take (i+1)))).length),(6,.own 4 (Dw (BT (ds.take i)++(dc.take (k+1)).map Cd.name)).length)])
    (λn=>[(3,some (.row 9 1 (Dw (C0 (ds.take (i+1)))))),(4,some (.row 9 1 (Dw (BT (ds.take i)++(dc.take (k+1)).map Cd.name))))]) [5,6,7] (λn=>ca.length-n)
    (λn=>n<=ca.length/\Bd ds ca=Bd ds (ca.drop n)) 0 ⟨Nat.zero_le _,rfl⟩ ⟨rfl,rfl,rfl,rfl,rfl,by rw [ek,<- List.append_assoc,Et _ [cn]];rfl,trivial⟩ ⟨rfl,by rw [ek,<- List.append_assoc,Et _ [cn]];rfl,trivial⟩ rfl λn hn kh=>?_
   obtain ⟨hn1,hn2⟩:=hn;refine cd [] rfl (by simp) ?_;refine ci rfl (c:=C7 ⟨dn,dc⟩) (λ_=>⟨by simp,by simpa using Bp hd,by simp⟩) (by simp) ?_;refine cg [] rfl (by simp) ?_;refine ci rfl (c:=Dy ⟨cn,ca⟩) (λ_=>⟨by simp,by simpa using Bp hc,by simp⟩) (by simp) ?_;refine cg [] rfl (by simp) ?_;refine Aa rfl (λh=>?_) (λh=>?_)
   ·simp at h;obtain ⟨t,ht⟩:=Am h;rw [Ao ht] at hn2;refine cd [] rfl (by simp) ?_;refine ci rfl (c:=C7 ⟨dn,dc⟩) (λ_=>⟨by simp,by simpa using Bp hd,by simp⟩) (by simp) ?_;refine cg [] rfl (by simp) ?_;refine ci rfl (c:=Dy ⟨cn,ca⟩) (λ_=>⟨by simp,by simpa using Bp hc,by simp⟩) (by simp) ?_;refine cg [] rfl (by simp) ?_;refine ci rfl (c:=dTyc t) (λ_=>⟨by simp,by simpa using Ax ht,by simp⟩) (by simp) ?_;refine cg [] rfl (by simp) ?_;refine Ac rfl (λ_=>MH ds t) (by simp) ?_;refine cg [] rfl (by simp) ?_;refine Aa rfl (λh=>?_) (λh=>?_)
    ·refine cd [] rfl (by simp) ?_;refine Ab ⟨_,rfl,tV (congrArg _ ?_),trivial⟩;simp at h;simp only [Bd,h,Bool.false_and] at hn2;simp only [hn2,Bool.false_and] at hk2;rw [hi2,hk2];simp
    ·refine cd [] rfl (by simp) ?_;simp at h;exact Ad (kh (n+1) (by omega) ⟨by omega,by rw [hn2];simp [Bd,h]⟩) ⟨As (B9 (by omega) (by omega)),rfl,rfl,rfl,rfl,rfl,trivial⟩ ⟨rfl,rfl,trivial⟩ rfl
   ·simp at h;refine Ar rfl ?_;refine cd [] rfl (by simp) ?_;rw [List.drop_eq_nil_of_le (by omega)] at hn2;exact Ad (jh (k+1) (by omega) ⟨by omega,by rw [hk2];simp [hn2,Bd]⟩) ⟨As (B9 (by omega) (by omega)),rfl,rfl,rfl,rfl,trivial⟩ ⟨rfl,rfl,trivial⟩ rfl
  ·simp at h;refine Ar rfl ?_;refine cd [] rfl (by simp) ?_;rw [List.drop_eq_nil_of_le (by omega)] at hk2;have hk3:dc.take k=dc:=List.take_of_length_le h;refine Ad (ih (i+1) (by omega) ⟨by omega,by rw [hi2,hk2];simp⟩) ⟨As (B9 (by omega) (by omega)),rfl,rfl,by rw [ec,hk3];rfl,trivial⟩ ⟨rfl,by rw [ec,hk3];rfl,trivial⟩ rfl
 ·simp at h;have hle:ds.length<=i:=by omega
  refine Ar rfl ?_;rw [List.take_of_length_le hle,List.drop_eq_nil_of_le hle] at *;rw [hi2,show BX ds []=true from rfl,Bool.true_and];refine BD 3 rfl ?_;refine BD 4 rfl ?_;refine cd [] rfl (by simp) ?_;refine Ac rfl (λ_=>Ns (C0 ds)) (by simp) ?_;refine cg [] rfl (by simp) ?_;refine Ac rfl (λ_=>Ns (BT ds)) (by simp [Ag]) ?_;refine cg [] rfl (by simp) ?_;refine Ab ⟨_,rfl,tV (congrArg _ ?_),trivial⟩;simp
structure OkD (ds:List Dt):Prop where
 named:BX ds ds=true
 len:∀d∈ds,d.cons.length<=1000000
theorem OkD.of {ds:List Dt} (h:GO ds=true):OkD ds:=by
 simp only [GO,Bool.and_eq_true] at h;exact ⟨h.2.1,λd hd=>by have:=((Jg h.1).2 d hd).1;omega⟩
theorem Im (s:Str):∀(l:List Dt) (i:Nat),0<=AR s i l->∃k d,AR s i l=((i+k:Nat):Int)/\l[k]?=some d/\d.name=s
 | [],i,h=>by simp [AR] at h
 | d::r,i,h=>by
  simp only [AR] at h ⊢;by_cases e:d.name=s
  ·rw [if_pos e];exact ⟨0,d,by simp,by simp,e⟩
  ·rw [if_neg e] at h ⊢;obtain ⟨k,d',h1,h2,h3⟩:=Im s r (i+1) h;exact ⟨k+1,d',by rw [h1];omega,by simpa using h2,h3⟩
theorem C5 {ds:List Dt} {t:Ty} (h:AB ds t=true):∀so n x ps,t = .mk so n x ps->so=8->0<=AR x 0 ds/\∃d,ds[(AR x 0 ds).toNat]?=some d:=by
 rintro so n x ps rfl rfl;simp [AB] at h;obtain ⟨k,d,h1,h2,_⟩:=Im x ds 0 h.1;exact ⟨h.1,d,by rw [h1];simpa using h2⟩
theorem GS {s:Str}:∀{l:List Cd} {i:Nat},0<=(CP s i l).2->(CP s i l).1∈l/\(CP s i l).1.name=s
 | [],i,h=>by simp [CP] at h
 | c::r,i,h=>by
  simp only [CP] at h ⊢;by_cases e:c.name=s
  ·rw [if_pos e];exact ⟨by simp,e⟩
  ·rw [if_neg e] at h ⊢;have:=GS (l:=r) h;exact ⟨List.mem_cons_of_mem _ this.1,this.2⟩
theorem QL {ds:List Dt} {t:Ty} {s:Str} (h:0<=(B4 ds t s).2):∃d∈ds,(B4 ds t s).1∈d.cons:=by
 obtain ⟨so,n,x,ps⟩:=t;simp only [B4] at h ⊢;by_cases e:so=8
 ·rw [if_pos e] at h ⊢;cases hd:ds[(AR x 0 ds).toNat]? with
  | none=>simp [hd] at h
  | some d =>
   simp only [hd] at h ⊢;exact ⟨d,List.mem_of_getElem? hd,(GS h).1⟩
 ·rw [if_neg e] at h;simp at h
theorem IF {ds:List Dt} (ho:OkD ds) {t:Ty} {s:Str} (h:0<=(B4 ds t s).2):Bd ds (B4 ds t s).1.args=true:=by
 obtain ⟨d,h1,h2⟩:=QL h;have:=ho.named;simp only [BX,List.all_eq_true] at this;exact this d h1 _ h2
theorem D2 {ds:List Dt} {l:List Ty} (h:Bd ds l=true) {i:Nat} {t:Ty} (ht:l[i]?=some t):AB ds t=true:=by
 rw [C4,List.all_eq_true] at h;exact h t (List.mem_of_getElem? ht)
mutual
def Cr (ds:List Dt):Ty->Ty->Bool
 | .mk so _ x0 _,.mk f _ x ps=>if f=3 then so == 1 else if f=4 then so == 2 else if f=5 then so == 3 else if f=6 then decide (0<=(B4 ds (.mk so 0 x0 []) x).2)&&(decide ((B4 ds (.mk so 0 x0 []) x).1.args.length=ps.length)&&Ck ds (B4 ds (.mk so 0 x0 []) x).1.args ps) else true
def Ck (ds:List Dt):List Ty->List Ty->Bool
 | _,[]=>true
 | [],_::_=>true
 | a::r,p::q=>Cr ds a p&&Ck ds r q
end
theorem JZ (ds:List Dt) (so n m:Int) (x s:Str) (ps qs:List Ty):B4 ds (.mk so n x ps) s=B4 ds (.mk so m x qs) s:=rfl
set_option maxHeartbeats 1000000 in
theorem UJ (ct:Ty) (rows:List Ty) (ds:List Dt) (ho:OkD ds):∀(p t:Ty),AB ds t=true->Al Tryz.prog 64 [.agg (dCse ⟨ds,ct,rows⟩),.agg (dTyc t),.agg (dTyc p)] (.bool (Cr ds t p))
 | .mk f n x ps,t,hn=>by
  have hcon:=gN ⟨ds,ct,rows⟩ t x (C5 hn) ho.len;have hnm:=λh=>IF ho (t:=t) (s:=x) h;obtain ⟨so,n0,x0,ps0⟩:=t;obtain ⟨c1,c2,c3,c4⟩:=ct;simp only [Cr];rw [JZ ds so 0 n0 x0 x [] ps0];simp only at hcon;generalize B4 ds (.mk so n0 x0 ps0) x=r at *;obtain ⟨⟨kn,ka⟩,kp⟩:=r;refine AI λhv=>?_;simp [Cf,Ey,dTyc,dCse,maxLen] at hv;refine Ae Dq Tryz.func64 (by decide +kernel) rfl [1,2,3,4,5,6] rfl rfl ?_;refine cg [] rfl (by simp) ?_;by_cases h3:f=3
  ·subst h3;refine Aa rfl (λh=>?_) (λh=>by simp at h);refine cd [] rfl (by simp) ?_;refine Ab ⟨_,rfl,tV (congrArg _ ?_),trivial⟩;simp
  rw [if_neg h3];refine Aa rfl (λh=>absurd (by simpa using h) h3) (λh=>?_);clear h;refine cd [] rfl (by simp) ?_;by_cases h4:f=4
  ·subst h4;refine Aa rfl (λh=>?_) (λh=>by simp at h);refine cd [] rfl (by simp) ?_;refine Ab ⟨_,rfl,tV (congrArg _ ?_),trivial⟩;simp
  rw [if_neg h4];refine Aa rfl (λh=>absurd (by simpa using h) h4) (λh=>?_);clear h;refine cd [] rfl (by simp) ?_;by_cases h5:f=5
  ·subst h5;refine Aa rfl (λh=>?_) (λh=>by simp at h);refine cd [] rfl (by simp) ?_;refine Ab ⟨_,rfl,tV (congrArg _ ?_),trivial⟩;simp
  rw [if_neg h5];refine Aa rfl (λh=>absurd (by simpa using h) h5) (λh=>?_);clear h;refine cd [] rfl (by simp) ?_;by_cases h6:f=6
  case neg =>
   rw [if_neg h6];refine Aa rfl (λh=>absurd (by simpa using h) h6) (λh=>?_);refine cd [] rfl (by simp) ?_;exact Ab ⟨_,rfl,tV rfl,trivial⟩
  rw [if_pos h6];refine Aa rfl (λh=>?_) (λh=>by simp [h6] at h);clear h;refine cd [] rfl (by simp) ?_;refine Ac rfl (λ_=>hcon) (by simp) ?_;refine cg [] rfl (by simp) ?_;by_cases hg:0<=kp/\ka.length=ps.length
  case neg =>
   refine Aa rfl (λh=>?_) (λh=>?_)
   ·refine cd [] rfl (by simp) ?_;refine Ab ⟨_,rfl,tV (congrArg _ ?_),trivial⟩;simp;grind
   ·exfalso;simp at h;apply hg;omega
  obtain ⟨hkp,hlen⟩:=hg;have hnm:=hnm hkp;refine Aa rfl (λh=>by exfalso;simp [hlen] at h;omega) (λh=>?_);clear h;refine cd [] rfl (by simp) ?_;simp only [hkp,hlen,decide_true,Bool.true_and];refine Aj (λi:Nat=>[(9,.imm (.int .i64 i)),(3,.ref 1 0),(5,.ref 3 0),(7,.ref 4 0)]) (λ_=>[(1,some (.immb 29 6 (dCse ⟨ds,.mk c1 c2 c3 c4,rows⟩))),(3,some (.immb 62 4 (dTyc (.mk f n x ps)))),(4,some (.immb 90 2 (Dy ⟨kn,ka⟩)))]) [5,6] (λi=>ps.length-i)
   (λi=>i<=ps.length/\Ck ds ka ps=Ck ds (ka.drop i) (ps.drop i)) 0 ⟨Nat.zero_le _,rfl⟩ ⟨rfl,rfl,rfl,rfl,trivial⟩ ⟨rfl,rfl,rfl,trivial⟩ rfl λi hi ih=>?_
  obtain ⟨hi1,hi2⟩:=hi;refine cd [] rfl (by simp) ?_;refine Aa rfl (λh=>?_) (λh=>?_)
  ·simp at h;obtain ⟨p,hp⟩:=Am h;obtain ⟨a,ha⟩:=Am (l:=ka) (i:=i) (by omega);rw [Ao hp,Ao ha] at hi2;simp only [Ck] at hi2;refine cd [] rfl (by simp) ?_;refine ci rfl (c:=dTyc a) (λ_=>⟨by simp,by simpa using Ax ha,by simp⟩) (by simp) ?_;refine cg [] rfl (by simp) ?_;refine ci rfl (c:=dTyc p) (λ_=>⟨by simp,by simpa using Ax hp,by simp⟩) (by simp) ?_;refine cg [] rfl (by simp) ?_;refine Ac rfl (λ_=>UJ (.mk c1 c2 c3 c4) rows ds ho p a (D2 hnm ha)) (by simp) ?_;refine cg [] rfl (by simp;rfl) ?_;refine Aa rfl (λh=>?_) (λh=>?_)
   ·refine cd [] rfl (by simp) ?_;refine Ab ⟨_,rfl,tV (congrArg _ ?_),trivial⟩;simp at h;simp [hi2,h]
   ·refine cd [] rfl (by simp) ?_;simp at h;exact Ad (ih (i+1) (by omega) ⟨by omega,by rw [hi2];simp [h]⟩) ⟨As (B9 (by omega) (by omega)),rfl,rfl,rfl,trivial⟩ ⟨rfl,rfl,rfl,trivial⟩ rfl
  ·simp at h;refine Ar rfl ?_;refine cd [] rfl (by simp) ?_;rw [hi2,List.drop_eq_nil_of_le (by omega),List.drop_eq_nil_of_le (by omega)];exact Ab ⟨_,rfl,tV rfl,trivial⟩
termination_by p=>SizeOf.sizeOf p
decreasing_by
 have:=List.sizeOf_lt_of_mem (List.mem_of_getElem? hp);simp_wf;omega
mutual
def Ki (ds:List Dt):Ty->Ty->Bool
 | .mk so _ x0 _,.mk f _ x ps=>if so=1 then f == 1 else if so=2 then f == 2 else if so=3 then f == 3 else if so=8 then decide (f=4)&&(decide (0<=(B4 ds (.mk so 0 x0 []) x).2)&&(decide ((B4 ds (.mk so 0 x0 []) x).1.args.length=ps.length)&&GW ds (B4 ds (.mk so 0 x0 []) x).1.args ps)) else f == 5
def GW (ds:List Dt):List Ty->List Ty->Bool
 | _,[]=>true
 | [],_::_=>true
 | a::r,p::q=>Ki ds a p&&GW ds r q
end
set_option maxHeartbeats 1000000 in
theorem lT (ct:Ty) (rows:List Ty) (ds:List Dt) (ho:OkD ds):∀(p t:Ty),AB ds t=true->Al Tryz.prog 126 [.agg (dCse ⟨ds,ct,rows⟩),.agg (dTyc t),.agg (dTyc p)] (.bool (Ki ds t p))
 | .mk f n x ps,t,hn=>by
  have hcon:=gN ⟨ds,ct,rows⟩ t x (C5 hn) ho.len;have hnm:=λh=>IF ho (t:=t) (s:=x) h;obtain ⟨so,n0,x0,ps0⟩:=t;obtain ⟨c1,c2,c3,c4⟩:=ct;simp only [Ki];rw [JZ ds so 0 n0 x0 x [] ps0];simp only at hcon;generalize B4 ds (.mk so n0 x0 ps0) x=r at *;obtain ⟨⟨kn,ka⟩,kp⟩:=r;refine AI λhv=>?_;simp [Cf,Ey,dTyc,dCse,maxLen] at hv;refine Ae Dq Tryz.func126 (by decide +kernel) rfl [1,2,3,4,5,6] rfl rfl ?_;refine cg [] rfl (by simp) ?_;by_cases h1:so=1
  ·subst h1;refine Aa rfl (λh=>?_) (λh=>by simp at h);refine cd [] rfl (by simp) ?_;refine Ab ⟨_,rfl,tV (congrArg _ ?_),trivial⟩;simp
  rw [if_neg h1];refine Aa rfl (λh=>absurd (by simpa using h) h1) (λh=>?_);clear h;refine cd [] rfl (by simp) ?_;by_cases h2:so=2
  ·subst h2;refine Aa rfl (λh=>?_) (λh=>by simp at h);refine cd [] rfl (by simp) ?_;refine Ab ⟨_,rfl,tV (congrArg _ ?_),trivial⟩;simp
  rw [if_neg h2];refine Aa rfl (λh=>absurd (by simpa using h) h2) (λh=>?_);clear h;refine cd [] rfl (by simp) ?_;by_cases h3:so=3
  ·subst h3;refine Aa rfl (λh=>?_) (λh=>by simp at h);refine cd [] rfl (by simp) ?_;refine Ab ⟨_,rfl,tV (congrArg _ ?_),trivial⟩;simp
  rw [if_neg h3];refine Aa rfl (λh=>absurd (by simpa using h) h3) (λh=>?_);clear h;refine cd [] rfl (by simp) ?_;by_cases h8:so=8
  case neg =>
   rw [if_neg h8];refine Aa rfl (λh=>absurd (by simpa using h) h8) (λh=>?_);refine cd [] rfl (by simp) ?_;refine Ab ⟨_,rfl,tV (congrArg _ ?_),trivial⟩;simp
  rw [if_pos h8];refine Aa rfl (λh=>?_) (λh=>by simp [h8] at h);clear h;refine cd [] rfl (by simp) ?_;refine Ac rfl (λ_=>hcon) (by simp) ?_;refine cg [] rfl (by simp) ?_;by_cases hg:f=4/\0<=kp/\ka.length=ps.length
  case neg =>
   refine Aa rfl (λh=>?_) (λh=>?_)
   ·refine cd [] rfl (by simp) ?_;refine Ab ⟨_,rfl,tV (congrArg _ ?_),trivial⟩;simp;grind
   ·exfalso;simp at h;apply hg;omega
  obtain ⟨rfl,hkp,hlen⟩:=hg;have hnm:=hnm hkp;refine Aa rfl (λh=>by exfalso;simp [hlen] at h;omega) (λh=>?_);clear h;refine cd [] rfl (by simp) ?_;simp only [hkp,hlen,decide_true,Bool.true_and];refine Aj (λi:Nat=>[(9,.imm (.int .i64 i)),(3,.ref 1 0),(5,.ref 3 0),(7,.ref 4 0)]) (λ_=>[(1,some (.immb 29 6 (dCse ⟨ds,.mk c1 c2 c3 c4,rows⟩))),(3,some (.immb 35 4 (dTyc (.mk 4 n x ps)))),(4,some (.immb 90 2 (Dy ⟨kn,ka⟩)))]) [5,6] (λi=>ps.length-i)
   (λi=>i<=ps.length/\GW ds ka ps=GW ds (ka.drop i) (ps.drop i)) 0 ⟨Nat.zero_le _,rfl⟩ ⟨rfl,rfl,rfl,rfl,trivial⟩ ⟨rfl,rfl,rfl,trivial⟩ rfl λi hi ih=>?_
  obtain ⟨hi1,hi2⟩:=hi;refine cd [] rfl (by simp) ?_;refine Aa rfl (λh=>?_) (λh=>?_)
  ·simp at h;obtain ⟨p,hp⟩:=Am h;obtain ⟨a,ha⟩:=Am (l:=ka) (i:=i) (by omega);rw [Ao hp,Ao ha] at hi2;simp only [GW] at hi2;refine cd [] rfl (by simp) ?_;refine ci rfl (c:=dTyc a) (λ_=>⟨by simp,by simpa using Ax ha,by simp⟩) (by simp) ?_;refine cg [] rfl (by simp) ?_;refine ci rfl (c:=dTyc p) (λ_=>⟨by simp,by simpa using Ax hp,by simp⟩) (by simp) ?_;refine cg [] rfl (by simp) ?_;refine Ac rfl (λ_=>lT (.mk c1 c2 c3 c4) rows ds ho p a (D2 hnm ha)) (by simp) ?_;refine cg [] rfl (by simp;rfl) ?_;refine Aa rfl (λh=>?_) (λh=>?_)
   ·refine cd [] rfl (by simp) ?_;refine Ab ⟨_,rfl,tV (congrArg _ ?_),trivial⟩;simp at h;simp [hi2,h]
   ·refine cd [] rfl (by simp) ?_;simp at h;exact Ad (ih (i+1) (by omega) ⟨by omega,by rw [hi2];simp [h]⟩) ⟨As (B9 (by omega) (by omega)),rfl,rfl,rfl,trivial⟩ ⟨rfl,rfl,rfl,trivial⟩ rfl
  ·simp at h;refine Ar rfl ?_;refine cd [] rfl (by simp) ?_;rw [hi2,List.drop_eq_nil_of_le (by omega),List.drop_eq_nil_of_le (by omega)];exact Ab ⟨_,rfl,tV rfl,trivial⟩
termination_by p=>SizeOf.sizeOf p
decreasing_by
 have:=List.sizeOf_lt_of_mem (List.mem_of_getElem? hp);simp_wf;omega
def dJ (c:Cse) (p:Ty):Bool:=E4 p&&Cr c.datas c.type p
def Kz (c:Cse):Bool:=(GO c.datas&&EZ c.type&&AB c.datas c.type&&decide (c.rows.length<=5))&&(c.rows.all (dJ c)&&decide (Ah c.rows<=30))
theorem UI {p:Ty} (h:E4 p=true):Ai p<=12:=by
 simp only [E4,Bool.and_eq_true,decide_eq_true_eq] at h;have h1:=DS p 12 h.1.1;have h2:=h.1.1;omega
set_option maxHeartbeats 1000000 in
theorem kL (c:Cse):Al Tryz.prog 13 [.agg (dCse c)] (.bool (Kz c)):=by
 obtain ⟨ds,t,rows⟩:=c;obtain ⟨so,n0,x0,ps0⟩:=t;refine Ae Dq Tryz.func13 (by decide +kernel) rfl [1,2,3,4,5,6] rfl rfl ?_;refine cg [] rfl (by simp) ?_;refine Ac rfl (λ_=>iE ds) (by simp) ?_;refine cg [] rfl (by simp) ?_;refine Ac rfl (λ_=>Mg (.mk so n0 x0 ps0)) (by simp [Ag]) ?_;refine cg [] rfl (by simp [Ag]) ?_;refine Ac rfl (λ_=>MH ds (.mk so n0 x0 ps0)) (by simp [Ag]) ?_;refine cg [] rfl (by simp [Ag]) ?_;refine Aa rfl (λh=>?_) (λh=>?_)
 ·refine cd [] rfl (by simp) ?_;refine Ab ⟨_,rfl,tV (congrArg _ ?_),trivial⟩;simp at h;simp [Kz];grind
 have hg:(GO ds&&EZ (.mk so n0 x0 ps0)&&AB ds (.mk so n0 x0 ps0)&&decide (rows.length<=5))=true:=by simp at h ⊢;grind
 rw [show Kz ⟨ds,.mk so n0 x0 ps0,rows⟩=(rows.all (dJ ⟨ds,.mk so n0 x0 ps0,rows⟩)&&decide (Ah rows<=30)) by simp only [Kz,hg,Bool.true_and]];clear h;simp only [Bool.and_eq_true,decide_eq_true_eq] at hg;obtain ⟨⟨⟨hd,hw⟩,hn⟩,hl⟩:=hg;have ho:=OkD.of hd;have hP:=λp=>UJ (.mk so n0 x0 ps0) rows ds ho p (.mk so n0 x0 ps0) hn;generalize hR:dJ ⟨ds,.mk so n0 x0 ps0,rows⟩=R;have hR:∀p,R p=(E4 p&&Cr ds (.mk so n0 x0 ps0) p):=λp=>by rw [<- hR];rfl
 refine cd [] rfl (by simp) ?_;refine Aj (λi:Nat=>[(4,.imm (.int .i64 i)),(3,.imm (.int .i64 ((Ah (rows.take i):Nat):Int))),(1,.ref 1 0)]) (λ_=>[(1,some (.immb 29 6 (dCse ⟨ds,.mk so n0 x0 ps0,rows⟩)))]) [2,3,4,5,6] (λi=>rows.length-i)
  (λi=>i<=rows.length/\rows.all R=(rows.drop i).all R/\Ah (rows.take i)<=12*i) 0 ⟨Nat.zero_le _,rfl,by simp [Ah]⟩ ⟨rfl,rfl,rfl,trivial⟩ ⟨rfl,trivial⟩ rfl λi hi ih=>?_
 obtain ⟨hi1,hi2,hi3⟩:=hi;refine cd [] rfl (by simp) ?_;refine Aa rfl (λh=>?_) (λh=>?_)
 ·simp at h;obtain ⟨p,hp⟩:=Am h;rw [DW hp,hR] at hi2;have en:Ah (rows.take (i+1))=Ah (rows.take i)+Ai p:=by rw [Be hp,Bo];simp [Ah]
  refine cd [] rfl (by simp) ?_;refine ci rfl (c:=dTyc p) (λ_=>⟨by simp,by simpa using Ax hp,by simp⟩) (by simp) ?_;refine cg [] rfl (by simp) ?_;refine Ac rfl (λ_=>iA p) (by simp) ?_;refine cg [] rfl (by simp) ?_;refine ci rfl (c:=dTyc p) (λ_=>⟨by simp,by simpa using Ax hp,by simp⟩) (by simp [Ag]) ?_;refine cg [] rfl (by simp [Ag]) ?_;refine Ac rfl (λ_=>hP p) (by simp [Ag]) ?_;refine cg [] rfl (by simp [Ag];rfl) ?_;refine Aa rfl (λh=>?_) (λh=>?_)
  ·refine cd [] rfl (by simp) ?_;refine Ab ⟨_,rfl,tV (congrArg _ ?_),trivial⟩;simp at h;rw [hi2];grind
  ·have hr:(E4 p&&Cr ds (.mk so n0 x0 ps0) p)=true:=by simp at h ⊢;grind
   rw [hr,Bool.true_and] at hi2;have hp12:=UI (Bool.and_eq_true _ _ ▸ hr).1;refine cd [] rfl (by simp) ?_;refine ci rfl (c:=dTyc p) (λ_=>⟨by simp,by simpa using Ax hp,by simp⟩) (by simp) ?_;refine cg [] rfl (by simp) ?_;refine Ac rfl (λ_=>VW p (by omega)) (by simp) ?_;refine cg [] rfl (by simp) ?_;exact Ad (ih (i+1) (by omega) ⟨by omega,hi2,by omega⟩) ⟨As (B9 (by omega) (by omega)),As (by rw [en,B9 (by omega) (by omega)];omega),rfl,trivial⟩ ⟨rfl,trivial⟩ rfl
 ·simp at h;refine Ar rfl ?_;refine cd [] rfl (by simp) ?_;rw [List.take_of_length_le (by omega),hi2,List.drop_eq_nil_of_le (by omega)];refine Ab ⟨_,rfl,tV (congrArg _ ?_),trivial⟩;simp;omega
end Go.Hk
namespace Go.Hk
def Yc (P:Program) (t:TypeId):Bool:=(match P.underlying t with
 | some (.struct fs) => fs.toList.all fun f => f.name != "_"
 | _=>false) && !P.stoodInHeld t && !P.eqGuardType P.depth t
def jX:V->V->Option Bool
 | .bool a,.bool b=>some (a == b)
 | .int k a,.int k' b=>match decide (k=k') with
  | true=>some (a == b)
  | false=>none
 | .str a,.str b=>some (a == b)
 | _,_=>none
def Jl:V->Sh->Bool
 | .bool _,.bool=>true
 | .int _ _,.int _=>true
 | .str _,.str=>true
 | _,_=>false
def Ti (tt:TT):Nat->List (Nat×TypeId)->List V->List V->Option Bool
 | _,[],[],[]=>some true
 | i,(off,ft)::fs,x::xs,y::ys=>match Nat.beq off i,lk tt ft with
  | true,some ti=>match Jl x ti.sh,jX x y with
   | true,some b=>match Ti tt (i+1) fs xs ys with
    | some b'=>some (b&&b')
    | none=>none
   | _,_=>none
  | _,_=>none
 | _,_,_,_=>none
structure PSeq where
 t:TypeId
 b:Bool
 g:Option (Bool×Bool)
 ob:List Prop
 dst:Option Nat
 todo:List DI
def kI:D->Option (List V)
 | .imm (.agg xs)=>some xs
 | _=>none
def nQ (tt:TT) (n:Nat) (env:Env) (todo:List DI):Option PSeq :=
 match AS todo ([],[]) with
 | some (all,o,todo')=>match o.op,BV all env o with
  | .binOp op t x y _,some g=>match lk tt t,Ke (Ag g) env x,Ke (Ag g) env y with
   | some { sh:=.struct fs,.. },some (dx,o1),some (dy,o2)=>match kI dx,kI dy,B1 n o.dst with
    | some xs,some ys,true=>match Ti tt 0 fs xs ys,op with
     | some b,.eql=>some ⟨t,b,g,HG o1 o2,o.dst,todo'⟩
     | some b,.neq=>some ⟨t,!b,g,HG o1 o2,o.dst,todo'⟩
     | _,_=>none
    | _,_,_=>none
   | _,_,_=>none
  | _,_=>none
 | none=>none
section
variable {P:Program} {n:Nat} {F:List Nat} {Q:DQ} {tt:TT} {env:Env} {st:St} {ids:List Nat} {todo:List DI} {I:Imm} {w:World}
theorem PS {t:TypeId} {ti:TyI} (hty:TyOk P t ti) {x:V} (hs:Jl x ti.sh=true):(Go.isAgg t).run P w = .ok false w:=by
 have:=hty.sh;cases hsh:ti.sh <;> rw [hsh] at hs this <;> cases x <;> simp only [Jl,reduceCtorEq] at hs
 all_goals
  have hu:P.underlying t=some _:=this;simp [Go.isAgg,run_underlying hu]
theorem fZ {x y:V} {vx vy:Value} {b:Bool} {t:TypeId} {ti:TyI} (hty:TyOk P t ti) (n:Nat) (hx:RepV I vx x) (hy:RepV I vy y) (h:jX x y=some b) (hs:Jl x ti.sh=true) :
  (Op.equalIn (n+1) t vx vy).run P w = .ok b w:=by
 have:=hty.sh;cases x <;> simp only [jX,reduceCtorEq] at h <;> cases y <;> simp only [Option.some.injEq,reduceCtorEq] at h
 ·cases hx;cases hy;cases hsh:ti.sh <;> rw [hsh] at hs this <;> simp only [Jl,reduceCtorEq] at hs;rw [run_equalIn_bool' w n t _ _ this,h]
 ·rename_i k a k' b';cases hk:decide (k=k') with
  | false=>rw [hk] at h;cases h
  | true =>
   rw [hk] at h;have hkk:k=k':=of_decide_eq_true hk;subst hkk;cases hx;cases hy;cases hsh:ti.sh <;> rw [hsh] at hs this <;> simp only [Jl,reduceCtorEq] at hs;simp only [Option.some.injEq] at h;rw [run_equalIn_int w n t _ _ _ _ this,h]
 ·cases hx with
  | str s l e1 =>
  cases hy with
  | str s' l' e2 =>
  cases hsh:ti.sh <;> rw [hsh] at hs this <;> simp only [Jl,reduceCtorEq] at hs;rw [run_equalIn_string w n t _ _ this,ByteArray.toList_eq,ByteArray.toList_eq,e1,e2,h]
theorem LO (htt : TTok P tt) {xs ys : Array Value} (n : Nat) : ∀ (fs : List Field) (i : Nat) (gx gy : List V) (b : Bool), (∀ f ∈ fs, f.name ≠ "_") →
  RepVL I (xs.toList.drop i) gx->RepVL I (ys.toList.drop i) gy->Ti tt i (fs.map λf=>(f.offset,f.type)) gx gy=some b->(Op.eqFields (n+1) xs ys fs).run P w = .ok b w
 | [],i,gx,gy,b,_,_,_,h=>by
  cases gx <;> cases gy <;> simp only [List.map_nil,Ti,Option.some.injEq,reduceCtorEq] at h;simp [Op.eqFields,<- h]
 | f::fs,i,gx,gy,b,hn,hx,hy,h=>by
  cases gx with
  | nil=>simp [Ti] at h
  | cons x gx =>
   cases gy with
   | nil=>simp [Ti] at h
   | cons y gy =>
    simp only [List.map_cons,Ti] at h;cases ho:Nat.beq f.offset i with
    | false=>rw [ho] at h;cases h
    | true =>
    cases hl:lk tt f.type with
    | none=>rw [ho,hl] at h;cases h
    | some ti =>
    rw [ho,hl] at h;simp only at h;cases hs:Jl x ti.sh with
    | false=>rw [hs] at h;cases h
    | true =>
    cases hk:jX x y with
    | none=>rw [hs,hk] at h;cases h
    | some b1 =>
    rw [hs,hk] at h;simp only at h;cases hr:Ti tt (i+1) (fs.map λf=>(f.offset,f.type)) gx gy with
    | none=>rw [hr] at h;cases h
    | some b2 =>
    rw [hr] at h;cases h;have ho:=Nat.eq_of_beq_eq_true ho;have get:∀{vs:Array Value} {g:V} {gs:List V},RepVL I (vs.toList.drop i) (g::gs)->∃v,vs[i]?=some v/\RepV I v g/\RepVL I (vs.toList.drop (i+1)) gs:=by
     intro vs g gs hr;cases hd:vs.toList.drop i with
     | nil=>rw [hd] at hr;exact absurd hr.1 (by simp)
     | cons v vs' =>
      rw [hd] at hr;have h0:vs.toList[i]?=some v:=by
       have:(vs.toList.drop i)[0]?=some v:=by rw [hd];rfl
       rw [List.getElem?_drop] at this;simpa using this
      refine ⟨v,by rw [<- Array.getElem?_toList];exact h0,hr.2 0 v g rfl rfl,?_⟩;have:vs.toList.drop (i+1)=vs':=by
       have:=congrArg List.tail hd;simpa [List.tail_drop] using this
      rw [this];exact ⟨by have:=hr.1;simpa using this,λj v x h1 h2=>hr.2 (j+1) v x (by simpa using h1) (by simpa using h2)⟩
    obtain ⟨vx,x1,x2,x3⟩:=get hx;obtain ⟨vy,y1,y2,y3⟩:=get hy;have ih:=LO htt n fs (i+1) gx gy b2 (λf hf=>hn f (by simp [hf])) x3 y3 hr;have hagg:=PS (w:=w) (htt _ _ hl) hs;have hpart:∀(vs:Array Value) (v:Value),vs[i]?=some v->(part f.type vs f.offset).run P w = .ok v w:=λvs v hv=>by
     simp [part,hagg,ho,hv]
    have he:=fZ (w:=w) (htt _ _ hl) n x2 y2 hk hs;simp only [Op.eqFields,hn f (by simp),ne_eq,not_false_eq_true,if_true,Sem.run_bind,hpart _ _ x1,hpart _ _ y1,Result.andThen_ok,he];cases b1 with
    | true=>simpa using ih
    | false=>simp
theorem Uh (htt:TTok P tt) {t:TypeId} (hs:Yc P t=true) {fs:List (Nat×TypeId)} (hsh:O3 P t (.struct fs)) {xo yo:Operand} {xs ys:List V} {b:Bool} {vx vy:Value} (hx:RepV I vx (.agg xs)) (hy:RepV I vy (.agg ys))
  (h:Ti tt 0 fs xs ys=some b):(do eqGuard .eql t xo yo vx vy;binOp .eql t vx vy:Sem Value).run P w = .ok (.bool b) w/\(do eqGuard .neq t xo yo vx vy;binOp .neq t vx vy:Sem Value).run P w = .ok (.bool (!b)) w:=by
 simp only [Yc,Bool.and_eq_true,Bool.not_eq_true'] at hs;obtain ⟨⟨h1,h2⟩,h3⟩:=hs;obtain ⟨fields,hu,hmap,_⟩:∃fields,P.underlying t=some (.struct fields)/\fields.toList.map (λf=>(f.offset,f.type))=fs/\∀f∈fields.toList,0<P.cellsOf f.type:=hsh;rw [hu] at h1;simp only [List.all_eq_true,bne_iff_ne] at h1;cases hx with
 | agg cx _ lx _ rx =>
 cases hy with
 | agg cy _ ly _ ry =>
 have hf:=LO (w:=w) (xs:=cx) (ys:=cy) (I:=I) htt 9998 fields.toList 0 xs ys b h1 ⟨by simpa using lx,λi v d h1 h2=>rx i v d (by simpa using h1) h2⟩ ⟨by simpa using ly,λi v d h1 h2=>ry i v d (by simpa using h1) h2⟩ (by rw [hmap];exact h);have hfo:P.fieldsOf t=fields:=by simp [Program.fieldsOf,hu]
 have he:(Op.equalIn 10000 t (.agg cx) (.agg cy)).run P w = .ok b w:=by
  have:=run_equalIn_struct (P:=P) w 9999 t cx cy (by rw [hfo];exact hu) h2;rw [this,hfo];exact hf
 exact ⟨by simp only [Sem.run_bind,run_eqGuard_agg w _ _ _ _ _ _ h3,Result.andThen_ok,run_eql_struct w,he],by simp only [Sem.run_bind,run_eqGuard_agg w _ _ _ _ _ _ h3,Result.andThen_ok,run_neq_struct w,he]⟩
theorem Wt {d:D} {xs:List V} (h:kI d=some xs):d = .imm (.agg xs):=by
 unfold kI at h
 split at h
 ·cases h;rfl
 ·cases h
theorem V5 (htt:TTok P tt) {t:TypeId} {b:Bool} {g:Option (Bool×Bool)} {ob:List Prop} {dst:Option Nat} {todo0:List DI} (h:nQ tt n env todo=some ⟨t,b,g,ob,dst,todo0⟩) (hs:Yc P t=true) (hob:A9 ob)
  (hg:G P n F Q todo0 (Bz dst (gD g (.imm (.bool b))) env) st ids):G P n F Q todo env st ids:=by
 unfold nQ at h
 split at h
 ·rename_i all o todo' h1
  split at h
  ·rename_i op t' x y t2 g' hop hgd
   split at h
   ·rename_i fs _ _ _ _ dx o1 dy o2 ht hx hy
    split at h
    ·rename_i xs ys ex ey hdo;have ex:=Wt ex;have ey:=Wt ey;subst ex;subst ey
     split at h
     ·rename_i b' hv;cases h;refine Bq (fr:=[]) (wr:=[]) (rd:=[]) h1 (C8 hgd λI μ st1 ids1 a w hag hst hops hcx=>?_) hdo (λc hc=>by rw [hop] at hc;cases hc) hg;rw [hop] at hops;obtain ⟨ho1,ho2⟩:=Ba hob;have rx:=(Cw hx ho1 hcx (hops x (by simp [Op.operands]))).immInv;have ry:=(Cw hy ho2 hcx (hops y (by simp [Op.operands]))).immInv;have hrun:(execOp a.eval o).run P w = .ok (.value (.bool b)) w:=by
       simp only [execOp,hop];exact At (Uh htt hs (htt.sh ht) rx ry hv).1
      rw [hrun];exact ⟨I,μ,hst,.imm _ _ (.bool _),Mu.le_refl μ,Ext.refl _ _ _ _⟩
     ·rename_i b' hv;cases h;refine Bq (fr:=[]) (wr:=[]) (rd:=[]) h1 (C8 hgd λI μ st1 ids1 a w hag hst hops hcx=>?_) hdo (λc hc=>by rw [hop] at hc;cases hc) hg;rw [hop] at hops;obtain ⟨ho1,ho2⟩:=Ba hob;have rx:=(Cw hx ho1 hcx (hops x (by simp [Op.operands]))).immInv;have ry:=(Cw hy ho2 hcx (hops y (by simp [Op.operands]))).immInv;have hrun:(execOp a.eval o).run P w = .ok (.value (.bool (!b'))) w:=by
       simp only [execOp,hop];exact At (Uh htt hs (htt.sh ht) rx ry hv).2
      rw [hrun];exact ⟨I,μ,hst,.imm _ _ (.bool _),Mu.le_refl μ,Ext.refl _ _ _ _⟩
     ·cases h
    ·cases h
   ·cases h
  ·cases h
 ·cases h
end
end Go.Hk
namespace Go.Hk
section
variable {P:Program} {I J:Imm} {μ ν:Mu} {w:World}
theorem eX {g:Value} {e:TypeId} {sz:Nat} {es:List (List V)} (h:BlkRep I μ w g (.row e sz es)) (hle:I.le J) (hb:∀b,CY g b->J b=w.heap[b]?):RepV J g (.sl es):=by
 obtain ⟨xs,hown,hrep,hsz,hone,hp⟩:=h;rcases hown.2 with ⟨rfl,h0⟩ | ⟨gb,cap,cur,rfl,_,hheap,hle2,hcm,hcs,htake⟩
 ·have:es=[]:=List.eq_nil_of_length_eq_zero h0;subst this;exact .slnil
 ·have hJg:J gb=some (.cells cur e (0,0)):=(hb gb rfl).trans hheap;have hcell:∀(i:Nat) (c:List V) (j:Nat) (x:V),es[i]?=some c->c[j]?=some x->∃v,xs[i*sz+j]?=some v/\cur[i*sz+j]?=some v/\RepV I v x/\v.oneCell'=true:=by
   intro i c j x hi hj;have h1:=BY hsz i c j x hi hj;have hlt:i*sz+j<xs.length:=by rw [hrep.1];exact (List.getElem?_eq_some_iff.1 h1).1
   obtain ⟨v,hv⟩:∃v,xs[i*sz+j]?=some v:=⟨_,List.getElem?_eq_getElem hlt⟩
   have hr:=hrep.2 _ _ _ hv h1;refine ⟨v,hv,?_,hr,?_⟩
   ·rw [<- htake,List.getElem?_take] at hv
    split at hv
    ·simpa using hv
    ·cases hv
   ·have:=hone c (List.mem_of_getElem? hi) x (List.mem_of_getElem? hj);exact hr.one this
  refine .sl gb 0 _ cap sz es (λi j=>(cur[i*sz+j]?).getD undef) rfl hle2 hcm hsz (λi c j x hi hj=>?_) (λi c j x hi hj=>?_)
  ·obtain ⟨v,_,h2,_,h4⟩:=hcell i c j x hi hj;simp [Imm.cell,hJg,h2,h4]
  ·obtain ⟨v,_,h2,h3,_⟩:=hcell i c j x hi hj;simp only [h2,Option.getD_some];exact h3.mono hle
end
end Go.Hk
namespace Go.Hk
def QY (w:World):Imm:=λb=>w.heap[b]?
def L4 (k:D->Option V):List D->Option (List V)
 | []=>some []
 | d::r=>match k d,L4 k r with
  | some x,some xs=>some (x::xs)
  | _,_=>none
def Mc (k:D->List Nat):List D->List Nat
 | []=>[]
 | d::r=>k d++Mc k r
def EO (st:St):Nat->D->Option V
 | 0,_=>none
 | f+1,d=>match d with
  | .imm x=>some x
  | .nils=>some (.sl [])
  | .ip t cs off=>some (.ip t cs off)
  | .clip es=>some (.sl es)
  | .own id _=>match lk st id with
   | some (some (.row _ _ es))=>some (.sl es)
   | _=>none
  | .mapr id=>match lk st id with
   | some (some (.map kv))=>some (.mapv kv)
   | _=>none
  | .ref id off=>match lk st id with
   | some (some (.immb t _ xs))=>some (.ip t xs off)
   | some (some (.cells t _ ds))=>match L4 (EO st f) ds with
    | some xs=>some (.ip t xs off)
    | none=>none
   | _=>none
  | .agg ds=>match L4 (EO st f) ds with
   | some xs=>some (.agg xs)
   | none=>none
  | .fn g a b=>match L4 (EO st f) a,L4 (EO st f) b with
   | some xs,some ys=>some (.clo g xs ys)
   | _,_=>none
  | _=>none
def ER (st:St):Nat->D->List Nat
 | 0,_=>[]
 | f+1,d=>match d with
  | .own id _=>[id]
  | .mapr id=>[id]
  | .ref id _=>match lk st id with
   | some (some (.cells _ _ ds))=>id::Mc (ER st f) ds
   | _=>[id]
  | .agg ds=>Mc (ER st f) ds
  | .fn _ a b=>Mc (ER st f) a++Mc (ER st f) b
  | _=>[]
structure Za where
 f:FuncId
 vs:List V
 rd:List Nat
 g:Option (Bool×Bool)
 ob:List Prop
 dst:Option Nat
 todo:List DI
def UD (n:Nat) (st:St) (all:List Oper) (o:Oper) (env:Env) (todo:List DI) (f:FuncId) (a b:List D) (args:List Operand):Option Za :=
 match BV all env o with
 | some g=>match GZ (Ag g) env args with
  | some (ds,ob)=>match L4 (EO st 6) (a++ds++b),B1 n o.dst with
   | some vs,true=>match AS todo (Mc (ER st 6) (a++ds++b),[]) with
    | some (_,_,todo')=>match o.dst with
     | some t=>some ⟨f,vs,Mc (ER st 6) (a++ds++b),g,ob,some t,todo'⟩
     | none=>some ⟨f,vs,Mc (ER st 6) (a++ds++b),g,ob,none,todo'⟩
    | none=>none
   | _,_=>none
  | none=>none
 | none=>none
def eD (n:Nat) (env:Env) (st:St) (todo:List DI):Option Za :=
 match AS todo ([],[]) with
 | some (all,o,_)=>match o.op with
  | .call { callee:=.value (.func f),args:=⟨args⟩,.. }=>UD n st all o env todo f [] [] args
  | .call { callee:=.value (.tmp t),args:=⟨args⟩,.. }=>match lk env t with
   | some (.imm (.fn (.func f)))=>UD n st all o env todo f [] [] args
   | some (.imm (.clo (.func f) a b))=>UD n st all o env todo f (a.map .imm) (b.map .imm) args
   | some (.fn (.func f) a b)=>UD n st all o env todo f a b args
   | _=>none
  | _=>none
 | none=>none
def U1:V->Bool
 | .tup xs=>Di xs
 | x=>EQ x
section
variable {P:Program} {n:Nat} {F:List Nat} {Q:DQ} {tt:TT} {env env':Env} {st st':St} {ids ids':List Nat} {k todo todo':List DI} {I J:Imm} {μ:Mu} {w:World} {a:Act} {Pn:V->Prop} {d:D} {cx:Prop} {ob:List Prop}
theorem Zw {v:Value} {x:V} (h:U1 x=true) (hr:RepV J v x):RepV I v x:=by
 cases hr with
 | tup cs xs hl hh =>
  refine .tup cs xs hl λi c x hc hx=>?_;have hm:∀{xs:List V} {i:Nat} {x:V},Di xs=true->xs[i]?=some x->EQ x=true:=by
   intro xs
   induction xs with
   | nil=>intro i x _ h;simp at h
   | cons y r ih =>
    intro i x hs h;simp only [Di,Bool.and_eq_true] at hs;cases i with
    | zero=>simp at h;subst h;exact hs.1
    | succ i=>exact ih hs.2 (by simpa using h)
  exact D8 (hm h hx) (hh i c x hc hx)
 | bool b=>exact .bool b
 | int k n=>exact .int k n
 | str s l hs=>exact .str s l hs
 | _=>simp [U1,EQ] at h
theorem HU {q:D->Option V} {μ:Mu} (hq:∀d x v,q d=some x->RepD I μ v d->RepV J v x):∀{vs:List Value} {ds:List D} {xs:List V},L4 q ds=some xs->RepL I μ vs ds->RepVL J vs xs
 | [],ds,xs,h,hr=>by
  cases ds with
  | nil=>cases h;exact .nil
  | cons d ds=>simp [RepL] at hr
 | v::vs,ds,xs,h,hr=>by
  cases ds with
  | nil=>simp [RepL] at hr
  | cons d ds =>
   obtain ⟨h1,h2⟩:=hr.cons;simp only [L4] at h
   split at h
   ·cases h;exact .mk (hq _ _ _ (by assumption) h1) (HU hq (by assumption) h2)
   ·cases h
theorem RC (hst:StRep I μ st ids w):∀(f:Nat) (d:D) (x:V) (v:Value),EO st f d=some x->RepD I μ v d->RepV (QY w) v x
 | 0,_,_,_,h,_=>by simp [EO] at h
 | f+1,d,x,v,h,hr=>by
  have hle:I.le (QY w):=λb o h=>hst.imm b o h;have ih:=RC hst f;simp only [EO] at h
  split at h
  ·cases h;exact hr.immInv.mono hle
  ·cases h;cases hr;exact .slnil
  ·cases h;exact hr.ipV.mono hle
  ·cases h;cases hr with
   | clip a len es h=>exact h.mono hle
  ·split at h
   ·rename_i hl;cases h;cases hr with
    | own id len a cap hm =>
     obtain ⟨g,hg,hb⟩:=hst.blk _ _ hl;rw [hm] at hg;cases hg;exact eX hb hle λb _=>rfl
   ·cases h
  ·split at h
   ·rename_i hl;cases h;cases hr with
    | mapr id b hm =>
     obtain ⟨g,hg,b',es,clock,rfl,h1,h2,h3,h4⟩:=hst.blk _ _ hl;rw [hm] at hg;cases hg;exact .mapv b es clock _ h1 h2 h3 (λi e p q1 q2=>(h4 i e p q1 q2).1.mono hle) (λi e p q1 q2=>(h4 i e p q1 q2).2.mono hle)
   ·cases h
  ·have fin:∀{t:TypeId} {off:Nat} {vs:Array Value} {xs:List V} {gb:Nat},v = .pointer (some ⟨gb,off,none⟩)->w.heap[gb]?=some (.cells vs t (0,0))->RepVL (QY w) vs.toList xs->(∀v∈vs.toList,v.oneCell'=true)->RepV (QY w) v (.ip t xs off):=by
    intro t off vs xs gb hv hheap hrep hone;subst hv;have:=RepV.ip (I:=QY w) gb 0 t xs off (λj=>(vs[j]?).getD undef) (λj x hx=>?_) (λj x hx=>?_)
    ·simpa using this
    ·have hj:j<vs.size:=by have:=hrep.1;have:=(List.getElem?_eq_some_iff.1 hx).1;simp at *;omega
     have:QY w gb=some (.cells vs t (0,0)):=hheap;simp only [Imm.cell,this,Nat.zero_add,Array.getElem?_eq_getElem hj,Option.getD_some,true_and];exact hone _ (by simp)
    ·have hj:j<vs.size:=by have:=hrep.1;have:=(List.getElem?_eq_some_iff.1 hx).1;simp at *;omega
     simp only [Array.getElem?_eq_getElem hj,Option.getD_some];exact hrep.2 j _ x (by simp [hj]) hx
   split at h
   ·rename_i hl;cases h;cases hr with
    | ref b id off hm =>
     obtain ⟨g,hg,hs,gb,vs,rfl,hheap,hrep,hone⟩:=hst.blk _ _ hl;rw [hm] at hg;cases hg;exact fin rfl hheap (hrep.mono hle) hone
   ·rename_i hl
    split at h
    ·rename_i xs hx;cases h;cases hr with
     | ref b id off hm =>
      obtain ⟨g,hg,hs,gb,vs,rfl,hheap,hrep,hone⟩:=hst.blk _ _ hl;rw [hm] at hg;cases hg;exact fin rfl hheap (HU ih hx hrep) hone
    ·cases h
   ·cases h
  ·split at h
   ·rename_i xs hx;cases h;cases hr with
    | agg cs ds hl h1 hh =>
     have:=HU (vs:=cs.toList) ih hx ⟨by simpa using hl,λi v d h1 h2=>hh i v d (by simpa using h1) h2⟩;exact .agg cs xs (by simpa using this.1) h1 λi c x h1 h2=>this.2 i c x (by simpa using h1) h2
   ·cases h
  ·split at h
   ·rename_i xs ys hx hy;cases h;cases hr with
    | fn _ first cap df dc hf hc h1 h2 =>
     have q1:=HU (vs:=first.toList) ih hx ⟨by simpa using hf,λi v d e1 e2=>h1 i v d (by simpa using e1) e2⟩;have q2:=HU (vs:=cap.toList) ih hy ⟨by simpa using hc,λi v d e1 e2=>h2 i v d (by simpa using e1) e2⟩;exact .clo _ first cap xs ys (by simpa using q1.1) (by simpa using q2.1) (λi c x h1 h2=>q1.2 i c x (by simpa using h1) h2) (λi c x h1 h2=>q2.2 i c x (by simpa using h1) h2)
   ·cases h
  ·cases h
theorem Agree.sub {r s:List Nat} (h:Agree r st st') (hs:∀i∈s,i∈r):Agree s st st':=λi hi=>h i (hs i hi)
theorem Fl {q q':D->Option V} {r:D->List Nat} (h:∀d,Agree (r d) st st'->q' d=q d):∀{ds:List D},Agree (Mc r ds) st st'->L4 q' ds=L4 q ds
 | [],_=>rfl
 | d::l,ha=>by
  simp only [L4];rw [h d (ha.sub λi hi=>by simp [Mc,hi]),Fl h (ha.sub λi hi=>by simp [Mc,hi])]
theorem Nx {st st':St}:∀(f:Nat) (d:D),Agree (ER st f d) st st'->EO st' f d=EO st f d
 | 0,_,_=>rfl
 | f+1,d,h=>by
  have ih:=Nx (st:=st) (st':=st') f;cases d with
  | own id n =>
   simp only [EO];rw [h id (by simp [ER])]
  | mapr id =>
   simp only [EO];rw [h id (by simp [ER])]
  | ref id off =>
   have hid:lk st' id=lk st id:=h id (by simp only [ER];split <;> simp);simp only [EO];rw [hid]
   split
   ·rfl
   ·rename_i ds hl;rw [Fl ih (h.sub λi hi=>by simp only [ER,hl];simp [hi])]
   ·rfl
  | agg ds =>
   simp only [EO];rw [Fl ih (h.sub λi hi=>by simp only [ER];exact hi)]
  | fn g a b =>
   simp only [EO];rw [Fl ih (h.sub λi hi=>by simp only [ER];simp [hi]),Fl ih (h.sub λi hi=>by simp only [ER];simp [hi])]
  | _=>rfl
theorem Y7 {all:List Oper} {o:Oper} {f:FuncId} {das:List D} {vs:List V} {v:V} {m:Nat} {g:Option (Bool×Bool)} (hg:BV all env o=some g) (hc:DG P o env f das (Ag g)) (hv:L4 (EO st m) das=some vs) (hs:U1 v=true)
  (hE:Ag g->Al P f vs v):LD P Pn all o env st (Mc (ER st m) das) [] [] (gD g (.imm v)):=by
 refine C8 hg λI μ st1 ids1 a w hag hst hops hcx=>?_;obtain ⟨xs,h1,h2⟩:=hc I μ a w hops hcx;rw [h2];have hv1:L4 (EO st1 m) das=some vs:=by rw [Fl (Nx m) hag,hv]
 have hx:=HU (RC hst m) hv1 h1;have hst0:StRep (QY w) μ [] [] w:={ imm:=λb o h=>h,blk:=λi b h=>by simp [Aq,lk] at h,apart:=λi b g k h=>by simp [Aq,lk] at h,inj:=λi j bi bj gi gj k h=>by simp [Aq,lk] at h,nodup:=.nil,idsFree:=λi h=>by cases h }
 have hno:∀b,¬Bv μ [] b:=λb ⟨i,bi,g,h,_⟩=>by simp [Aq,lk] at h
 refine (hE hcx (QY w) μ w xs hst0 hx.imm).mono (λu w' hu=>?_) (λ_ _ h=>h.elim);obtain ⟨I',μ',r1,r2,r3,r4⟩:=hu;have hlt:∀b o,I b=some o->b<w.heap.size:=λb o h=>by
  have:=hst.imm b o h;exact (Array.getElem?_eq_some_iff.1 this).1
 refine ⟨I,μ,hst.other r4.size (λb o h=>r4.block b (hlt b o h) (hno b)) (λb ho=>r4.block b (D1 hst ho) (hno b)),?_,Mu.le_refl μ,{ imm:=Imm.le_refl I,os:=r4.os,tape:=r4.tape,output:=r4.output,size:=r4.size,block:=λb hb _=>r4.block b hb (hno b),fresh:=λ_ _ h=>h,old:=λ_ _ _=>rfl }⟩;exact .imm _ _ (Zw hs r1.immInv)
theorem Oj {o:Oper} {t:Nat} {f:FuncId} {args:List Operand} {ts:Array TypeId} {ds:List D} {df dc:List V} (ho:o.op = .call { callee:=.value (.tmp t),args:=⟨args⟩,argTypes:=ts }) (ht:lk env t=some (.imm (.clo (.func f) df dc)))
  (ha:GZ cx env args=some (ds,ob)) (hob:A9 ob):DG P o env f (df.map .imm++ds++dc.map .imm) cx:=by
 intro I μ a w hop hc;rw [ho] at hop;have hd:=EI (I:=I) (μ:=μ) (a:=a) hc ha hob λx hx=>hop x (by simp [Op.operands,Call.operands,hx]);have hf:=(hop (.tmp t) (by simp [Op.operands,Call.operands]) _ ht).immInv;generalize hv:a.eval (.tmp t)=v at hf;cases hf with
 | clo _ first cap _ _ h1 h2 h3 h4 =>
  refine ⟨first++(args.map a.eval).toArray++cap,?_,?_⟩
  ·simp only [Array.toList_append];have q1:RepVL I first.toList df:=⟨by simpa using h1,λi v d hv hd=>h3 i v d (by simpa using hv) hd⟩
   have q2:RepVL I cap.toList dc:=⟨by simpa using h2,λi v d hv hd=>h4 i v d (by simpa using hv) hd⟩
   exact RepL.append (RepL.append q1.imm hd) q2.imm
  ·simp only [execOp,ho,resolve,hv,Deferred.ofValue,Sem.run_bind,Sem.run_pure,Result.andThen_ok,invoke];congr 3;simp
theorem UC {all:List Oper} {o:Oper} {f:FuncId} {a b:List D} {args:List Operand} {c:Za} (h:UD n st all o env todo f a b args=some c) :
  ∃g ds ob vs todo',BV all env o=some g/\GZ (Ag g) env args=some (ds,ob)/\L4 (EO st 6) (a++ds++b)=some vs/\B1 n o.dst=true/\(∃p q,AS todo (Mc (ER st 6) (a++ds++b),[])=some (p,q,todo'))/\c=⟨f,vs,Mc (ER st 6) (a++ds++b),g,ob,o.dst,todo'⟩:=by
 unfold UD at h
 split at h
 ·rename_i g hg
  split at h
  ·rename_i ds ob ha
   split at h
   ·rename_i vs hv hd
    split at h
    ·rename_i p q todo' hn
     split at h
     ·rename_i t hdst;cases h;exact ⟨g,ds,ob,vs,todo',hg,ha,hv,hd,⟨p,q,hn⟩,by rw [hdst]⟩
     ·rename_i hdst;cases h;exact ⟨g,ds,ob,vs,todo',hg,ha,hv,hd,⟨p,q,hn⟩,by rw [hdst]⟩
    ·cases h
   ·cases h
  ·cases h
 ·cases h
theorem Hv {f:FuncId} {vs:List V} {rd:List Nat} {g:Option (Bool×Bool)} {dst:Option Nat} {todo':List DI} {v:V} (h:eD n env st todo=some ⟨f,vs,rd,g,ob,dst,todo'⟩) (hE:Ag g->Al P f vs v) (hs:U1 v=true) (hob:A9 ob)
  (hk:G P n F Q todo' (Bz dst (gD g (.imm v)) env) st ids):G P n F Q todo env st ids:=by
 have fin:∀{all:List Oper} {o:Oper} {f':FuncId} {a b:List D} {args:List Operand} {t:List DI},AS todo ([],[])=some (all,o,t)->UD n st all o env todo f' a b args=some ⟨f,vs,rd,g,ob,dst,todo'⟩->(∀c,o.op ≠ .defer c) ->
   (∀{ds:List D} {cx:Prop} {ob:List Prop},GZ cx env args=some (ds,ob)->A9 ob->DG P o env f' (a++ds++b) cx)->G P n F Q todo env st ids:=by
  intro all o f' a b args t hn1 hp hnd hcalls;obtain ⟨g',ds,ob',vs',todo2,q1,q2,q3,q4,⟨p,q,q5⟩,q6⟩:=UC hp;obtain ⟨e1,e2⟩:=GA hn1 q5;subst e1;subst e2;cases q6;exact Bq (fr:=[]) (wr:=[]) q5 (Y7 q1 (hcalls q2 hob) q3 hs hE) q4 hnd hk
 unfold eD at h
 split at h
 ·rename_i all o t hn1;have hnd:∀cc,o.op = .call cc->∀c,o.op ≠ .defer c:=λcc h c h'=>by rw [h] at h';cases h'
  split at h
  ·rename_i f' args ts ho;exact fin hn1 h (hnd _ ho) λha hob=>by simpa using EL ho ha hob
  ·rename_i t' args ts ho
   split at h
   ·rename_i f' ht;exact fin hn1 h (hnd _ ho) λha hob=>by simpa using Ec ho ht ha hob
   ·rename_i f' a b ht;exact fin hn1 h (hnd _ ho) λha hob=>Oj ho ht ha hob
   ·rename_i f' a b ht;exact fin hn1 h (hnd _ ho) λha hob=>HD ho ht ha hob
   ·cases h
  ·cases h
 ·cases h
end
end Go.Hk
namespace Go.Hk
section
variable {P:Program} {n:Nat} {F:List Nat} {Q:DQ} {env:Env} {st:St} {ids:List Nat} {k:List DI}
theorem aS {all rest:List Oper} {o:Oper} {x:Operand} {t:TypeId} {v:V} (hg:o.guard=none) (ho:o.op = .panic x) (hx:CQ env x=some (.imm (.iface t v))) (hq:Lu Q (.iface t v)):DGo P n F Q (.ops all (o::rest)::k) env st ids:=by
 intro b cs I μ a w items hd hc;obtain ⟨j,is,rfl,hr,hk⟩:=ID hd;obtain ⟨hj,_⟩:=D5 hr;have hlen:(o::rest).length=rest.length+1:=rfl;rw [hlen,List.range'_succ];refine FC hj (A0 hg) (λc hc=>by rw [ho] at hc;cases hc) ?_;have hon:J9 (o.looksAt all.toArray) I μ env a:=λt _ d hl=>hc.env t d hl;have hxr:=AJ hon x (by rw [ho];simp [Op.operands]) _ hx;obtain ⟨u,hu,hur⟩:∃u,a.eval x = .iface t u/\RepV I (.iface t u) (.iface t v):=by
  have:=hxr.immInv;generalize a.eval x=y at this;cases this with
  | iface _ u _ h=>exact ⟨u,rfl,.iface t u v h⟩
 have hrun:(execOp a.eval o).run P w = .halt (.panic (.iface t u)) w:=by simp [execOp,ho,hu,Instr.panic,goPanic]
 rw [hrun];have hE':Ext I μ st w I μ [] w:={ imm:=Imm.le_refl I,os:=rfl,tape:=rfl,output:=rfl,size:=Nat.le_refl _,block:=λ_ _ _=>rfl,fresh:=λb hb ⟨i,bi,g,h1,_⟩=>by simp [Aq,lk] at h1,old:=λ_ _ _=>rfl }
 exact ⟨.panic (.iface t v),[],[],[],I,μ,⟨_,rfl,hur⟩,hq,LX hc.imm hc.size (hc.defers.ext hE'),.refl _ _,hE',.refl _ _⟩
end
theorem Eb {P:Program} {f:FuncId} {ds:List D} {st:St} {out:Out} (j:Nat) {x:V} (hj:ds[j]?=some (.imm x)) (h:Ey x->AV P f ds st out):AV P f ds st out:=by
 intro I μ w xs hst hx;have hlt:j<xs.toList.length:=by rw [hx.1];exact (List.getElem?_eq_some_iff.1 hj).1
 exact h (hx.2 j _ (.imm x) (List.getElem?_eq_getElem hlt) hj).immInv.ok I μ w xs hst hx
end Go.Hk
namespace Go.Hk
structure PRng where
 s:List UInt8
 id':Nat
 ids':List Nat
 dst:Option Nat
 todo:List DI
def nR (tt:TT) (n:Nat) (env:Env) (ids:List Nat) (todo:List DI):Option PRng :=
 match T1 todo,ids with
 | some o,id'::ids'=>match o.guard,o.op with
  | none,.range t x=>match lk tt t,CQ env x,B1 n o.dst,AS todo ([],[id']) with
   | some { sh:=.str,.. },some (.imm (.str s)),true,some (_,_,todo')=>some ⟨s,id',ids',o.dst,todo'⟩
   | _,_,_,_=>none
  | _,_=>none
 | _,_=>none
structure PNxt where
 s:List UInt8
 pos:Nat
 id:Nat
 dst:Option Nat
 todo:List DI
def iX (n:Nat) (env:Env) (st:St) (wr:Bool) (todo:List DI):Option PNxt :=
 match T1 todo with
 | some o=>match o.guard,o.op with
  | none,.next x true=>match CQ env x,B1 n o.dst with
   | some (.iter id),true=>match lk st id,AS todo ([id],bif wr then [id] else []) with
    | some (some (.siter s pos)),some (_,_,todo')=>some ⟨s,pos,id,o.dst,todo'⟩
    | _,_=>none
   | _,_=>none
  | _,_=>none
 | none=>none
def DE (s:List UInt8) (pos:Nat):Nat×Nat:=Utf8.decode ⟨s.toArray⟩ pos
section
variable {P:Program} {n:Nat} {F:List Nat} {Q:DQ} {tt:TT} {env env':Env} {st st':St} {ids ids':List Nat} {k todo todo':List DI} {I:Imm} {μ:Mu} {w:World} {a:Act} {Pn:V->Prop} {d:D} {cx:Prop} {ob:List Prop}
theorem Iq {s:Sem Value} {v:Value} {w':World} (h:s.run P w = .ok v w'):(do pure (.value (<- s)):Sem Next).run P w = .ok (.value v) w':=by simp [h]
theorem RepD.iterInv {v:Value} {id:Nat} (h:RepD I μ v (.iter id)):∃b,v = .pointer (some ⟨b,0,none⟩)/\μ id=some v:=by
 cases h with
 | iter _ b h=>exact ⟨b,rfl,h⟩
theorem fN (htt:TTok P tt) {s0:List UInt8} {i0:Nat} {ids0:List Nat} {d0:Option Nat} {todo0:List DI} (h:nR tt n env ids todo=some ⟨s0,i0,ids0,d0,todo0⟩) (hk:G P n F Q todo0 (Bz d0 (.iter i0) env) ((i0,some (.siter s0 0))::st) ids0):G P n F Q todo env st ids:=by
 unfold nR at h
 split at h
 ·rename_i o id' ids' ho
  split at h
  ·rename_i t x hg hop
   split at h
   ·rename_i _ _ _ _ s all o' todo' ht hx hd h1;cases h;have ho':o'=o:=Em ho h1;subst ho';refine Bq (fr:=[i0]) (wr:=[(i0,some (.siter s0 0))]) (rd:=[]) h1 ?_ hd (λc hc=>by rw [hop] at hc;cases hc) hk;intro I μ st1 ids1 a w hag hst hon;refine ⟨λ_=>?_,λhw=>by rw [A0 hg] at hw;cases hw⟩;have hops:=AJ hon;rw [hop] at hops;obtain ⟨bs,e1,e2⟩:=(hops x (by simp [Op.operands]) _ hx).immInv.strInv;have hu:P.underlying t=some .string:=htt.sh ht;have hrun:(execOp a.eval o').run P w = .ok (.value (.pointer (some ⟨w.heap.size,0,none⟩))) (w.alloc (.stringIter bs 0)):=by
     simp only [execOp,hop,e1];refine Iq ?_;simp only [Instr.range,Sem.run_bind,run_underlying hu,Result.andThen_ok,Sem.run_pure,run_newObj];rfl
    rw [hrun];obtain ⟨μ',q1,q2,q3,q4⟩:=hst.allocO (.stringIter bs 0) (.pointer (some ⟨w.heap.size,0,none⟩)) (λ_ h=>Eq.symm h) (.siter s0 0) (λμ' _=>⟨w.heap.size,bs,rfl,Dr w _,e2⟩);exact ⟨I,μ',q3,.iter _ _ q1,q2,q4⟩
   ·cases h
  ·cases h
 ·cases h
theorem RO {id pos:Nat} {s:List UInt8} {v:Value} (hst:StRep I μ st ids w) (hl:Aq st id (.siter s pos)) (hv:RepD I μ v (.iter id)) :
  ∃b,v = .pointer (some ⟨b,0,none⟩)/\μ id=some v/\w.heap[b]?=some (.stringIter ⟨s.toArray⟩ pos):=by
 obtain ⟨b,rfl,hm⟩:=hv.iterInv;obtain ⟨g,hg,b',bs,rfl,hheap,hs⟩:=hst.blk id _ hl;rw [hm] at hg;cases hg;refine ⟨b,rfl,hm,?_⟩;rw [hheap,<- hs]
theorem YE {s0:List UInt8} {p0 i0:Nat} {d0:Option Nat} {todo0:List DI} (h:iX n env st true todo=some ⟨s0,p0,i0,d0,todo0⟩) (hp:p0<s0.length) {dc:Nat×Nat} (hdc:DE s0 p0=dc)
  (hk:G P n F Q todo0 (Bz d0 (.imm (.tup [.bool true,.int .i64 p0,.int .i32 dc.1])) env) ((i0,some (.siter s0 (p0+dc.2)))::st) ids):G P n F Q todo env st ids:=by
 subst hdc;unfold iX at h
 split at h
 ·rename_i o ho
  split at h
  ·rename_i x hg hop
   split at h
   ·rename_i id hx hd
    split at h
    ·rename_i s pos all o' todo' hl h1;cases h;have ho':o'=o:=Em ho h1;subst ho';refine Bq (fr:=[]) (wr:=[(i0,some (.siter s0 (p0+(DE s0 p0).2)))]) (rd:=[i0]) h1 ?_ hd (λc hc=>by rw [hop] at hc;cases hc) hk;intro I μ st1 ids1 a w hag hst hon;refine ⟨λ_=>?_,λhw=>by rw [A0 hg] at hw;cases hw⟩;have hops:=AJ hon;rw [hop] at hops;have hl1:Aq st1 i0 (.siter s0 p0):=by unfold Aq;rw [hag i0 (by simp)];exact hl
     obtain ⟨b,e1,hm,hheap⟩:=RO hst hl1 (hops x (by simp [Op.operands]) _ hx);have hget:(getObj b).run P w = .ok (.stringIter ⟨s0.toArray⟩ p0) w:=by simp [getObj,Sem.run,hheap]
     have hset:(setObj b (.stringIter ⟨s0.toArray⟩ (p0+(DE s0 p0).2))).run P w = .ok () { w with heap:=w.heap.setIfInBounds b (.stringIter ⟨s0.toArray⟩ (p0+(DE s0 p0).2)) }:=by simp [setObj,Sem.run,hheap]
     have hlt:p0<(ByteArray.mk s0.toArray).size:=by simpa [ByteArray.size] using hp
     have hrun:(execOp a.eval o').run P w = .ok (.value (.tuple #[.bool true,.int .i64 p0,.int .i32 (DE s0 p0).1])) { w with heap:=w.heap.setIfInBounds b (.stringIter ⟨s0.toArray⟩ (p0+(DE s0 p0).2)) }:=by
      simp only [execOp,hop,e1];refine Iq ?_;simp only [Instr.next,Sem.run_bind,hget,Result.andThen_ok,if_pos hlt];have:(setObj b (.stringIter ⟨s0.toArray⟩ (p0+(Utf8.decode ⟨s0.toArray⟩ p0).2))).run P w=_:=hset;simp only [Sem.run_bind,this,Result.andThen_ok,Sem.run_pure];rfl
     rw [hrun];have hbl:=BG hheap;obtain ⟨q1,q2⟩:=hst.update (blk':=.siter s0 (p0+(DE s0 p0).2)) (w':={ w with heap:=w.heap.setIfInBounds b (.stringIter ⟨s0.toArray⟩ (p0+(DE s0 p0).2)) }) hl1 hm (by rw [e1];rfl) (by simp) rfl rfl rfl
      (λk hk=>Array.getElem?_setIfInBounds_ne (Ne.symm hk)) ⟨b,⟨s0.toArray⟩,e1,by simp [hbl],rfl⟩
     refine ⟨I,μ,q1,.imm _ _ (.tup _ _ rfl λi c x hc hx=>?_),Mu.le_refl μ,q2⟩
     match i,hc,hx with
     | 0,hc,hx=>cases hc;cases hx;exact .bool _
     | 1,hc,hx=>cases hc;cases hx;exact .int _ _
     | 2,hc,hx=>cases hc;cases hx;exact .int _ _
     | i+3,hc,hx=>simp at hx
    ·cases h
   ·cases h
  ·cases h
 ·cases h
theorem jO {s0:List UInt8} {p0 i0:Nat} {d0:Option Nat} {todo0:List DI} (h:iX n env st false todo=some ⟨s0,p0,i0,d0,todo0⟩) (hp:s0.length<=p0)
  (hk:G P n F Q todo0 (Bz d0 (.imm (.tup [.bool false])) env) st ids):G P n F Q todo env st ids:=by
 unfold iX at h
 split at h
 ·rename_i o ho
  split at h
  ·rename_i x hg hop
   split at h
   ·rename_i id hx hd
    split at h
    ·rename_i s pos all o' todo' hl h1;cases h;have ho':o'=o:=Em ho h1;subst ho';refine Bq (fr:=[]) (wr:=[]) (rd:=[i0]) h1 ?_ hd (λc hc=>by rw [hop] at hc;cases hc) hk;intro I μ st1 ids1 a w hag hst hon;refine ⟨λ_=>?_,λhw=>by rw [A0 hg] at hw;cases hw⟩;have hops:=AJ hon;rw [hop] at hops;have hl1:Aq st1 i0 (.siter s0 p0):=by unfold Aq;rw [hag i0 (by simp)];exact hl
     obtain ⟨b,e1,hm,hheap⟩:=RO hst hl1 (hops x (by simp [Op.operands]) _ hx);have hget:(getObj b).run P w = .ok (.stringIter ⟨s0.toArray⟩ p0) w:=by simp [getObj,Sem.run,hheap]
     have hlt:¬p0<(ByteArray.mk s0.toArray).size:=by simpa [ByteArray.size] using hp
     have hrun:(execOp a.eval o').run P w = .ok (.value (.tuple #[.bool false])) w:=by
      simp only [execOp,hop,e1];refine Iq ?_;simp only [Instr.next,Sem.run_bind,hget,Result.andThen_ok,if_neg hlt,Sem.run_pure]
     rw [hrun];refine ⟨I,μ,hst,.imm _ _ (.tup _ _ rfl λi c x hc hx=>?_),Mu.le_refl μ,Ext.refl _ _ _ _⟩
     match i,hc,hx with
     | 0,hc,hx=>cases hc;cases hx;exact .bool _
     | i+1,hc,hx=>simp at hx
    ·cases h
   ·cases h
  ·cases h
 ·cases h
end
end Go.Hk
namespace Go.Hk
open Go.MapKept
def VH:V->V->Bool
 | .str a,.str b=>a == b
 | .int _ a,.int _ b=>a == b
 | .bool a,.bool b=>a == b
 | _,_=>false
def Co:List (V×V)->V->Option V
 | [],_=>none
 | (k,d)::r,x=>if VH x k then some d else Co r x
def Ew:List (V×V)->V->V->List (V×V)
 | [],x,d=>[(x,d)]
 | (k,e)::r,x,d=>if VH x k then (x,d)::r else (k,e)::Ew r x d
def Jz:Sh->Option TypeDesc
 | .str=>some .string
 | .int k=>some (.int k)
 | _=>none
def I3:Sh->V->Bool
 | .str,.str _=>true
 | .int k,.int k' _=>decide (k'=k)
 | _,_=>false
section
variable {P:Program} {n:Nat} {F:List Nat} {Q:DQ} {tt:TT} {env env':Env} {st st':St} {ids ids':List Nat} {k todo todo':List DI} {I:Imm} {μ:Mu} {w:World} {a:Act} {Pn:V->Prop} {d:D} {cx:Prop} {ob:List Prop}
theorem MW {t:TypeId} {sh:Sh} {dd:TypeDesc} (h:Jz sh=some dd) (hs:O3 P t sh):P.underlying t=some dd:=by
 cases sh <;> simp only [Jz,reduceCtorEq,Option.some.injEq] at h <;> subst h <;> exact hs
theorem HW {sh:Sh} {dd:TypeDesc} {v:Value} {x:V} (h:Jz sh=some dd) (hk:I3 sh x=true) (hv:RepV I v x):IsKey dd v:=by
 cases sh <;> simp only [Jz,reduceCtorEq,Option.some.injEq] at h <;> subst h <;> cases x <;> simp [I3] at hk <;> cases hv <;> simp [IsKey,hk]
theorem jW {sh:Sh} {v u:Value} {x y:V} (hx:I3 sh x=true) (hy:I3 sh y=true) (hv:RepV I v x) (hu:RepV I u y):VH x y=true↔v=u:=by
 cases x with
 | str a =>
  cases y with
  | str b =>
   obtain ⟨s,rfl,rfl⟩:=hv.strInv;obtain ⟨t,rfl,rfl⟩:=hu.strInv;simp only [VH,beq_iff_eq,Value.string.injEq];constructor
   ·intro h;obtain ⟨⟨s⟩⟩:=s;obtain ⟨⟨t⟩⟩:=t;simp at h;rw [h]
   ·intro h;rw [h]
  | _=>cases sh <;> simp [I3] at hx hy
 | int k i =>
  cases y with
  | int k' j =>
   obtain rfl:=hv.intInv;obtain rfl:=hu.intInv;cases sh <;> simp [I3] at hx hy;subst hx;subst hy;simp [VH]
  | _=>cases sh <;> simp [I3] at hx hy
 | _=>cases sh <;> simp [I3] at hx
theorem LN {sh:Sh} {dd:TypeDesc} {v:Value} {x:V} (hd:Jz sh=some dd) (hk:I3 sh x=true) (hv:RepV I v x):∀(l:List MapEntry) (kv:List (V×V)) (i:Nat),l.length=kv.length ->
  (∀(j:Nat) (e:MapEntry) (p:V×V),l[j]?=some e->kv[j]?=some p->RepV I e.key p.1/\RepV I e.val p.2)->(∀p∈kv,I3 sh p.1=true) ->
  (Instr.findNow dd v l i=some none/\Co kv x=none/\(∀y,Ew kv x y=kv++[(x,y)])/\∀e∈l,e.key≠v) \/
   ∃j e y,Instr.findNow dd v l i=some (some (i+j,e.val))/\l[j]?=some e/\e.key=v/\Co kv x=some y/\RepV I e.val y/\∀z,Ew kv x z=kv.set j (x,z)
 | [],[],i,_,_,_=>.inl ⟨rfl,rfl,λ_=>rfl,λ_ h=>by cases h⟩
 | [],_::_,_,h,_,_=>by simp at h
 | _::_,[],_,h,_,_=>by simp at h
 | e::l,p::kv,i,hl,h,hkv=>by
  obtain ⟨h1,h2⟩:=h 0 e p rfl rfl;obtain ⟨y,dy⟩:=p;have hky:=hkv (y,dy) (by simp);obtain ⟨r,hr,hiff⟩:=sameNow_of_keys (HW hd hk hv) (HW hd hky h1);have he:=jW hk hky hv h1;cases r with
  | true =>
   have hvy:=hiff.1 rfl;have:=he.2 hvy;exact .inr ⟨0,e,dy,by simp [Instr.findNow,hr],rfl,hvy.symm,by simp [Co,this],h2,λz=>by simp [Ew,this]⟩
  | false =>
   have hne:v≠e.key:=λq=>by have:=hiff.2 q;cases this
   have hf:VH x y=false:=by
    cases hq:VH x y with
    | false=>rfl
    | true=>exact absurd (he.1 hq) hne
   rcases LN hd hk hv l kv (i+1) (by simpa using hl) (λj e' p' a b=>h (j+1) e' p' (by simpa using a) (by simpa using b)) (λp' hp=>hkv p' (by simp [hp])) with ⟨q1,q2,q3,q4⟩ | ⟨j,e',y',q1,q2,q3,q4,q5,q6⟩
   ·refine .inl ⟨by simp [Instr.findNow,hr,q1],by simp [Co,hf,q2],λz=>by simp [Ew,hf,q3],λe' he'=>?_⟩;rcases List.mem_cons.1 he' with rfl | he'
    ·exact λq=>hne q.symm
    ·exact q4 e' he'
   ·exact .inr ⟨j+1,e',y',by simp [Instr.findNow,hr,q1];omega,by simpa using q2,q3,by simp [Co,hf,q4],q5,λz=>by simp [Ew,hf,q6]⟩
def pmk (n:Nat) (ids:List Nat) (todo:List DI):Option (Nat×List Nat×Option Nat×List DI) :=
 match T1 todo,ids with
 | some o,id'::ids'=>match o.guard,o.op with
  | none,.makeMap _ none=>match B1 n o.dst,AS todo ([],[id']) with
   | true,some (_,_,todo')=>some (id',ids',o.dst,todo')
   | _,_=>none
  | _,_=>none
 | _,_=>none
theorem ON {i0:Nat} {ids0:List Nat} {d0:Option Nat} {todo0:List DI} (h:pmk n ids todo=some (i0,ids0,d0,todo0)) (hk:G P n F Q todo0 (Bz d0 (.mapr i0) env) ((i0,some (.map []))::st) ids0):G P n F Q todo env st ids:=by
 unfold pmk at h
 split at h
 ·rename_i o id' ids' ho
  split at h
  ·rename_i t hg hop
   split at h
   ·rename_i all o' todo' hd h1;cases h;have ho':o'=o:=Em ho h1;subst ho';refine Bq (fr:=[i0]) (wr:=[(i0,some (.map []))]) (rd:=[]) h1 ?_ hd (λc hc=>by rw [hop] at hc;cases hc) hk;intro I μ st1 ids1 a w hag hst hon;refine ⟨λ_=>?_,λhw=>by rw [A0 hg] at hw;cases hw⟩;have hrun:(execOp a.eval o').run P w = .ok (.value (.map (some w.heap.size))) (w.alloc (.map #[] 0)):=by
     simp only [execOp,hop,Option.map_none];refine Iq ?_;simp only [Instr.makeMap,Sem.run_bind,Result.andThen_ok,Sem.run_pure,run_newObj];rfl
    rw [hrun];obtain ⟨μ',q1,q2,q3,q4⟩:=hst.allocO (.map #[] 0) (.map (some w.heap.size)) (λ_ h=>Eq.symm h) (.map []) (λμ' _=>⟨w.heap.size,#[],0,rfl,Dr w _,rfl,stamped_empty 0,λi e p h=>by simp at h⟩);exact ⟨I,μ',q3,.mapr _ _ q1,q2,q4⟩
   ·cases h
  ·cases h
 ·cases h
theorem Y5 {id:Nat} {kv:List (V×V)} {v:Value} (hst:StRep I μ st ids w) (hl:Aq st id (.map kv)) (hv:RepD I μ v (.mapr id)) :
  ∃b es clock,v = .map (some b)/\μ id=some v/\w.heap[b]?=some (.map es clock)/\es.size=kv.length/\Stamped es clock/\∀(i:Nat) (e:MapEntry) (p:V×V),es[i]?=some e->kv[i]?=some p->RepV I e.key p.1/\RepV I e.val p.2:=by
 cases hv with
 | mapr _ b hm =>
  obtain ⟨g,hg,b',es,clock,rfl,h1,h2,h3,h4⟩:=hst.blk id _ hl;rw [hm] at hg;cases hg;exact ⟨b,es,clock,rfl,hm,h1,h2,h3,h4⟩
def cZ:Op->Option (TypeId×Operand×Operand×Operand)
 | .mapUpdate t m x y=>some (t,m,x,y)
 | .insert t m x y=>some (t,m,x,y)
 | _=>none
theorem RP {op:Op} {t:TypeId} {m x y:Operand} (h:cZ op=some (t,m,x,y)):(op = .mapUpdate t m x y\/op = .insert t m x y)/\∀z∈[m,x,y],z∈op.operands.toList:=by
 unfold cZ at h
 split at h
 ·cases h;exact ⟨.inl rfl,by simp [Op.operands]⟩
 ·cases h;exact ⟨.inr rfl,by simp [Op.operands]⟩
 ·cases h
def lB (tt:TT) (env:Env) (st:St) (todo:List DI):Option (Nat×List (V×V)×Sh×V×V×List DI) :=
 match T1 todo with
 | some o=>match o.guard,cZ o.op with
  | none,some (t,m,x,y)=>match o.dst,lk tt t,CQ env m,CQ env x,CQ env y with
   | none,some { sh:=.map kt _,.. },some (.mapr id),some (.imm kx),some dy=>match lk tt kt,lk st id,AS todo ([id],[id]),mB dy with
    | some i,some (some (.map kv)),some (_,_,todo'),some vy=>some (id,kv,i.sh,kx,vy,todo')
    | _,_,_,_=>none
   | _,_,_,_,_=>none
  | _,_=>none
 | none=>none
theorem X4 (htt:TTok P tt) {i0:Nat} {kv:List (V×V)} {sh:Sh} {kx:V} {dy:V} {todo0:List DI} {dd:TypeDesc} (h:lB tt env st todo=some (i0,kv,sh,kx,dy,todo0)) (hd:Jz sh=some dd) (hk:I3 sh kx=true)
  (hkv:∀p∈kv,I3 sh p.1=true) (hg:G P n F Q todo0 env ((i0,some (.map (Ew kv kx dy)))::st) ids):G P n F Q todo env st ids:=by
 unfold lB at h
 split at h
 ·rename_i o ho
  split at h
  ·rename_i t m x y hgd hop
   split at h
   ·rename_i kt et _ _ _ _ id kx' dy' hdst ht hm hx hy
    split at h
    ·rename_i i kv' all o' todo' vy hi hl h1 hng;cases h;have ho':o'=o:=Em ho h1;subst ho';have hg:G P n F Q todo0 (Bz o'.dst .undef env) ((i0,some (.map (Ew kv kx dy)))::st) ids:=by rw [hdst];exact hg
     refine Bq (fr:=[]) (wr:=[(i0,some (.map (Ew kv kx dy)))]) (rd:=[i0]) h1 ?_ (by simp [B1,hdst]) (λc hc=>by rcases (RP hop).1 with e | e <;> rw [e] at hc <;> cases hc) hg;intro I μ st1 ids1 a w hag hst hon;refine ⟨λ_=>?_,λhw=>by rw [A0 hgd] at hw;cases hw⟩;have hops:=AJ hon;obtain ⟨hop2,hop3⟩:=RP hop;have hl1:Aq st1 i0 (.map kv):=by unfold Aq;rw [hag i0 (by simp)];exact hl
     obtain ⟨b,es,clock,e1,hmu,hheap,hlen,hst2,hent⟩:=Y5 hst hl1 (hops m (hop3 m (by simp)) _ hm);have rx:=(hops x (hop3 x (by simp)) _ hx).immInv;have ry:=O7 hng (hops y (hop3 y (by simp)) _ hy);have hu:P.underlying t=some (.map kt et):=htt.sh ht;have hkd:P.underlying kt=some dd:=MW hd (htt.sh hi);have hik:=HW hd hk rx;have hbl:=BG hheap;have fin:∀(es':Array MapEntry) (c':Nat),(Instr.mapUpdate t (.map (some b)) (a.eval x) (a.eval y)).run P w = .ok () { w with heap:=w.heap.setIfInBounds b (.map es' c') }->es'.size=(Ew kv kx dy).length->Stamped es' c' ->
       (∀(i:Nat) (e:MapEntry) (p:V×V),es'[i]?=some e->(Ew kv kx dy)[i]?=some p->RepV I e.key p.1/\RepV I e.val p.2) ->
       valX P ((execOp a.eval o').run P w) (λv w'=>∃I' μ',StRep I' μ' ([(i0,some (.map (Ew kv kx dy)))]++st1) ids1 w'/\RepD I' μ' v .undef/\μ.le μ'/\Ext I μ st1 w I' μ' ([(i0,some (.map (Ew kv kx dy)))]++st1) w') (Kg (Lu Q) I μ st1 w):=by
      intro es' c' hr h2 h3 h4;have hrun:(execOp a.eval o').run P w = .ok .skip { w with heap:=w.heap.setIfInBounds b (.map es' c') }:=by
       rcases hop2 with e | e <;> (simp only [execOp,e,e1];simp [hr])
      rw [hrun];obtain ⟨q1,q2⟩:=hst.update (blk':=.map (Ew kv kx dy)) (w':={ w with heap:=w.heap.setIfInBounds b (.map es' c') }) hl1 hmu (by rw [e1];rfl) (by simp) rfl rfl rfl
       (λk hk=>Array.getElem?_setIfInBounds_ne (Ne.symm hk)) ⟨b,es',c',e1,by simp [hbl],h2,h3,h4⟩
      exact ⟨I,μ,q1,.undef _,Mu.le_refl μ,q2⟩
     rcases LN (I:=I) hd hk rx es.toList kv 0 (by simpa using hlen) (λj e p h1 h2=>hent j e p (by simpa using h1) h2) hkv with ⟨q1,_,q3,q4⟩ | ⟨j,e,y',q1,q2,q3,_,q5,q6⟩
     ·refine fin _ _ ?_ (by rw [q3];simp [hlen]) (stamped_push hst2 (key:=a.eval x) (val:=a.eval y) q4) λi e p h1 h2=>?_
      ·simp [Instr.mapUpdate,run_underlying hu,MapKept.run_getObj_map hheap,MapKept.run_checkKey hkd hik,MapKept.run_findKey hkd q1,MapKept.run_setObj_map _ hheap,Result.andThen]
      ·rw [q3] at h2;rw [Array.getElem?_push] at h1;rw [List.getElem?_append] at h2;by_cases hi:i=es.size
       ·rw [if_pos hi] at h1;cases h1;rw [if_neg (by omega)] at h2;rw [show i-kv.length=0 by omega] at h2;cases h2;exact ⟨rx,ry⟩
       ·rw [if_neg hi] at h1;have:=(Array.getElem?_eq_some_iff.1 h1).1;rw [if_pos (by omega)] at h2;exact hent i e p h1 h2
     ·have hj:es[j]?=some e:=by simpa using q2
      have hkey:∀e',es[j]?=some e'->({ e' with key:=a.eval x,val:=a.eval y }:MapEntry).key=e'.key:=λe' he'=>by rw [hj] at he';cases he';exact q3.symm
      refine fin (es.modify j λe=>{ e with key:=a.eval x,val:=a.eval y }) clock ?_ (by rw [q6];simp [hlen]) (stamped_modify hst2 _ _ (λ_ _=>rfl) (λe' _ he'=>hkey e' he')) λi e' p h1 h2=>?_
      ·simp [Instr.mapUpdate,run_underlying hu,MapKept.run_getObj_map hheap,MapKept.run_checkKey hkd hik,MapKept.run_findKey hkd q1,hj,q3,MapKept.run_keyThatStays hik,MapKept.run_setObj_map _ hheap,Result.andThen]
      ·rw [q6] at h2;rw [Array.getElem?_modify] at h1;rw [List.getElem?_set] at h2;by_cases hi:j=i
       ·subst hi;rw [if_pos rfl,hj] at h1;cases h1;rw [if_pos rfl] at h2
        split at h2
        ·cases h2;exact ⟨rx,ry⟩
        ·cases h2
       ·rw [if_neg hi] at h1 h2;exact hent i e' p h1 h2
    ·cases h
   ·cases h
  ·cases h
 ·cases h
structure PMl where
 kv:List (V×V)
 sh:Sh
 kx:V
 et:TypeId
 two:Bool
 g:Option (Bool×Bool)
 ob:List Prop
 t:Nat
 todo:List DI
def eB (tt:TT) (n:Nat) (env:Env) (st:St) (nm:Nat) (todo:List DI):Option PMl :=
 match AS todo ([nm],[]) with
 | some (all,o,todo')=>match o.op,BV all env o with
  | .lookup t m k two,some g=>match lk tt t,Ke (Ag g) env m,Ke (Ag g) env k with
   | some { sh:=.map kt et,.. },some (.mapr id,o1),some (.imm kx,o2)=>match Nat.beq id nm,lk tt kt,lk st id,B1 n o.dst with
    | true,some i,some (some (.map kv)),true=>match o.dst with
     | some t=>some ⟨kv,i.sh,kx,et,two,g,HG o1 o2,t,todo'⟩
     | none=>none
    | _,_,_,_=>none
   | _,_,_=>none
  | _,_=>none
 | none=>none
theorem Fc {t:TypeId} {z:Value} (h:(P.info? t).bind (·.zero)=some z):(zeroValue t).run P w = .ok z w:=by
 cases hi:P.info? t with
 | none=>rw [hi] at h;cases h
 | some inf =>
  rw [hi] at h;have h:inf.zero=some z:=h;simp [zeroValue,typeInfo,hi,h]
def DK (two:Bool) (kv:List (V×V)) (x:V) (zd:V):D :=
 let r:=match Co kv x with
  | some y=>(y,true)
  | none=>(zd,false)
 if two then .imm (.tup [r.1,.bool r.2]) else .imm r.1
theorem YF (htt:TTok P tt) (nm:Nat) {kv:List (V×V)} {sh:Sh} {kx:V} {et:TypeId} {two:Bool} {g:Option (Bool×Bool)} {ob:List Prop} {t0:Nat} {todo0:List DI} {dd:TypeDesc} {z:Value} {zd:V} {dr:D}
  (h:eB tt n env st nm todo=some ⟨kv,sh,kx,et,two,g,ob,t0,todo0⟩) (hd:Jz sh=some dd) (hk:I3 sh kx=true) (hkv:∀p∈kv,I3 sh p.1=true) (hob:A9 ob)
  (hz:(P.info? et).bind (·.zero)=some z) (hzr:∀I,RepV I z zd) (hdr:DK two kv kx zd=dr) (hg:G P n F Q todo0 ((t0,gD g dr)::env) st ids):G P n F Q todo env st ids:=by
 unfold eB at h
 split at h
 ·rename_i all o todo' h1
  split at h
  ·rename_i t m k two' g' hop hgd
   split at h
   ·rename_i kt et' _ _ _ _ id o1 kx' o2 ht hm hx
    split at h
    ·rename_i i kv' hid hi hl hdo
     split at h
     ·rename_i t' hdst;cases h;have hid:=Nat.eq_of_beq_eq_true hid;subst hid;subst hdr;have hg:G P n F Q todo0 (Bz o.dst (gD g (DK two kv kx zd)) env) st ids:=by rw [hdst];exact hg
      refine Bq (fr:=[]) (wr:=[]) (rd:=[id]) h1 (C8 hgd λI μ st1 ids1 a w hag hst hops hcx=>?_) hdo (λc hc=>by rw [hop] at hc;cases hc) hg;rw [hop] at hops;obtain ⟨ho1,ho2⟩:=Ba hob;have rm:=Cw hm ho1 hcx (hops m (by simp [Op.operands]));have rx:=(Cw hx ho2 hcx (hops k (by simp [Op.operands]))).immInv;have hl1:Aq st1 id (.map kv):=by unfold Aq;rw [hag id (by simp)];exact hl
      obtain ⟨b,es,clock,e1,hmu,hheap,hlen,hst2,hent⟩:=Y5 hst hl1 rm;have hu:P.underlying t=some (.map kt et):=htt.sh ht;have hkd:P.underlying kt=some dd:=MW hd (htt.sh hi);have hik:=HW hd hk rx;have fin:∀(v:Value) (ok:Bool) (d:V),(Instr.lookup t (.map (some b)) (a.eval k) two).run P w = .ok (if two then .tuple #[v,.bool ok] else v) w->RepV I v d ->
        DK two kv kx zd=(if two then .imm (.tup [d,.bool ok]) else .imm d) ->
        valX P ((execOp a.eval o).run P w) (λu w'=>∃I' μ',StRep I' μ' st1 ids1 w'/\RepD I' μ' u (DK two kv kx zd)/\μ.le μ'/\Ext I μ st1 w I' μ' st1 w') (Kg (Lu Q) I μ st1 w):=by
       intro v ok d hr hv he;have hrun:(execOp a.eval o).run P w = .ok (.value (if two then .tuple #[v,.bool ok] else v)) w:=by
        simp only [execOp,hop,e1];exact At hr
       rw [hrun];refine ⟨I,μ,hst,?_,Mu.le_refl μ,Ext.refl _ _ _ _⟩;rw [he];cases two with
       | false=>exact .imm _ _ hv
       | true =>
        refine .imm _ _ (.tup _ _ rfl λi c x hc hx=>?_)
        match i,hc,hx with
        | 0,hc,hx=>cases hc;cases hx;exact hv
        | 1,hc,hx=>cases hc;cases hx;exact .bool _
        | i+2,hc,hx=>simp at hx
      rcases LN (I:=I) hd hk rx es.toList kv 0 (by simpa using hlen) (λj e p h1 h2=>hent j e p (by simpa using h1) h2) hkv with ⟨q1,q2,_,_⟩ | ⟨j,e,y',q1,q2,q3,q4,q5,q6⟩
      ·refine fin z false zd ?_ (hzr I) (by simp [DK,q2]);simp [Instr.lookup,run_underlying hu,MapKept.run_getObj_map hheap,MapKept.run_checkKey hkd hik,MapKept.run_findKey hkd q1,Fc hz,Result.andThen]
      ·refine fin e.val true y' ?_ q5 (by simp [DK,q4]);simp [Instr.lookup,run_underlying hu,MapKept.run_getObj_map hheap,MapKept.run_checkKey hkd hik,MapKept.run_findKey hkd q1,Result.andThen]
     ·cases h
    ·cases h
   ·cases h
  ·cases h
 ·cases h
end
end Go.Hk
namespace Go.Hk
mutual
def PY (id:Nat) (es:List (V×V)):D->D
 | .mapr i=>bif Nat.beq i id then .imm (.mapv es) else .mapr i
 | .agg cs=>HT (Rq id es cs)
 | .tup cs=>.tup (Rq id es cs)
 | .fn f a b=>.fn f (Rq id es a) (Rq id es b)
 | .iface t d=>match PY id es d with
  | .imm x=>.imm (.iface t x)
  | d'=>.iface t d'
 | .guard c w d=>.guard c w (PY id es d)
 | d=>d
def Rq (id:Nat) (es:List (V×V)):List D->List D
 | []=>[]
 | d::r=>PY id es d::Rq id es r
end
def ZH (id:Nat) (es:List (V×V)):Env->Env
 | []=>[]
 | (t,d)::r=>(t,PY id es d)::ZH id es r
def jG (id:Nat) (es:List (V×V)):Blk->Blk
 | .cells t sz cs=>NI t sz (Rq id es cs)
 | b=>b
def Rp (id:Nat) (es:List (V×V)):St->St
 | []=>[]
 | (i,some b)::r=>(i,some (jG id es b))::Rp id es r
 | (i,none)::r=>(i,none)::Rp id es r
theorem Gb (id:Nat) (es:List (V×V)):∀l:List D,Rq id es l=l.map (PY id es)
 | []=>rfl
 | d::r=>by simp [Rq,Gb id es r]
section
variable {P:Program} {n:Nat} {F:List Nat} {Q:DQ} {tt:TT} {env:Env} {st:St} {ids:List Nat} {todo:List DI} {I J:Imm} {μ:Mu} {w:World} {id:Nat} {es:List (V×V)} {g:Value}
theorem RepD.mfr {v:Value} {d:D} (h:RepD I μ v d) (hIJ:I.le J) (hg:μ id=some g) (hr:RepV J g (.mapv es)):RepD J μ v (PY id es d):=by
 have at_:∀{l:List D} {i:Nat} {x:D},(Rq id es l)[i]?=some x->∃y,l[i]?=some y/\x=PY id es y:=by
  intro l i x hx;rw [Gb,List.getElem?_map] at hx;cases hl:l[i]? with
  | none=>rw [hl] at hx;cases hx
  | some y=>rw [hl] at hx;cases hx;exact ⟨y,rfl,rfl⟩
 induction h with
 | undef v=>exact .undef v
 | imm v x hx=>exact .imm v x (hx.mono hIJ)
 | nils=>exact .nils
 | ref b id off hm=>exact .ref b id off hm
 | ip b o t cs off vs hcell hrep=>exact (RepD.ip b o t cs off vs hcell hrep).mono hIJ (Mu.le_refl μ)
 | agg cs ds hl h1 _ ih =>
  have:RepD J μ (.agg cs.toList.toArray) (HT (Rq id es ds)):=HS ⟨by rw [Gb,List.length_map,<- hl];simp,λi c x hc hx=>by
   obtain ⟨y,hy,rfl⟩:=at_ hx;exact ih i c y (by simpa using hc) hy⟩ h1
  simpa [PY] using this
 | tup cs ds hl _ ih =>
  refine .tup cs _ (by rw [Gb,List.length_map,hl]) λi c x hc hx=>?_;obtain ⟨y,hy,rfl⟩:=at_ hx;exact ih i c y hc hy
 | own i len a cap hm=>exact .own i len a cap hm
 | elp b id len cap k sz f hm=>exact .elp b id len cap k sz f hm
 | mapr i b hm =>
  simp only [PY];cases hb:Nat.beq i id with
  | false=>exact .mapr i b hm
  | true =>
   rw [Nat.eq_of_beq_eq_true hb,hg] at hm;cases hm;exact .imm _ _ hr
 | iter id b hm=>exact .iter id b hm
 | fn f first cap df dc hf hc _ _ ih1 ih2 =>
  refine .fn f first cap _ _ (by rw [Gb,List.length_map,hf]) (by rw [Gb,List.length_map,hc]) (λi c x h1 h2=>?_) (λi c x h1 h2=>?_)
  ·obtain ⟨y,hy,rfl⟩:=at_ h2;exact ih1 i c y h1 hy
  ·obtain ⟨y,hy,rfl⟩:=at_ h2;exact ih2 i c y h1 hy
 | iface t v d _ ih =>
  simp only [PY]
  split
  ·rename_i x hx;rw [hx] at ih;exact .imm _ _ (.iface t v x ih.immInv)
  ·exact .iface t v _ ih
 | guard c want v d _ hu ih=>exact .guard c want v _ ih hu
 | clip a len es hr=>exact .clip a len es (hr.mono hIJ)
 | slc b id off len cap hm hl hx=>exact .slc b id off len cap hm hl hx
 | yld b id hm=>exact .yld b id hm
 | raw v h=>exact .raw v h
 | hv v id i vs bs hm hi h1=>exact .hv v id i vs bs hm hi h1
theorem BlkRep.mfr {gb:Value} {blk:Blk} (h:BlkRep I μ w gb blk) (hIJ:I.le J) (hg:μ id=some g) (hr:RepV J g (.mapv es)):BlkRep J μ w gb (jG id es blk):=by
 cases blk with
 | cells t sz cs =>
  obtain ⟨hs,b,vs,rfl,h2,h3,h4⟩:=h;refine Gq h2 ⟨by rw [Gb,List.length_map,h3.1],λi v x hv hx=>?_⟩ h4 (by rw [Gb,List.length_map,hs]);rw [Gb,List.getElem?_map] at hx;cases hl:cs[i]? with
  | none=>rw [hl] at hx;cases hx
  | some y=>rw [hl] at hx;cases hx;exact (h3.2 i v y hv hl).mfr hIJ hg hr
 | _=>exact h.mono hIJ (Mu.le_refl μ)
theorem MI {i:Nat} {b:Blk}:∀{st:St},Aq (Rp id es st) i b->∃b0,Aq st i b0/\b=jG id es b0
 | [],h=>by simp [Rp,Aq,lk] at h
 | (k,some x)::r,h=>by
  simp only [Rp] at h;rcases Av.1 h with ⟨h1,h2⟩ | ⟨h1,h2⟩
  ·exact ⟨x,by unfold Aq;rw [h1,Ap],h2⟩
  ·obtain ⟨b0,q1,q2⟩:=MI h2;exact ⟨b0,Av.2 (.inr ⟨h1,q1⟩),q2⟩
 | (k,none)::r,h=>by
  simp only [Rp] at h;obtain ⟨h1,h2⟩:=B0.1 h;obtain ⟨b0,q1,q2⟩:=MI h2;exact ⟨b0,B0.2 ⟨h1,q1⟩,q2⟩
theorem Oe (id:Nat) (hl:lk st id=some (some (.map es))) (h:DGo P n F Q todo (ZH id es env) ((id,none)::Rp id es st) ids):DGo P n F Q todo env st ids:=by
 intro b cs I μ a w items hd hc;have hlive:Aq st id (.map es):=hl;obtain ⟨g,hg,gb,ms,clock,rfl,hheap,hsz,hstm,hent⟩:=hc.blk id _ hlive;have hno:=(hc.apart id _ _ gb hlive hg rfl).1;obtain ⟨J,hJ,hJr,hJo⟩:∃J:Imm,I.le J/\RepV J (.map (some gb)) (.mapv es)/\(∀k o,J k=some o->(I k=some o\/(CY (.map (some gb)) k/\w.heap[k]?=some o))):=by
  have hle':I.le (λk=>if k=gb then some (.map ms clock) else I k):=λk o h=>by
   have:k≠gb:=λe=>by rw [e,hno] at h;cases h
   simp [this,h]
  refine ⟨_,hle',.mapv gb ms clock es (by simp) hsz hstm (λi e p h1 h2=>(hent i e p h1 h2).1.mono hle') (λi e p h1 h2=>(hent i e p h1 h2).2.mono hle'),λk o h=>?_⟩;by_cases hk:k=gb
  ·subst hk;simp at h;subst h;exact .inr ⟨rfl,hheap⟩
  ·simp [hk] at h;exact .inl h
 have hst:∀i bi,Aq ((id,none)::Rp id es st) i bi->i≠id/\∃b0,Aq st i b0/\bi=jG id es b0:=λi bi h=>by
  obtain ⟨h1,h2⟩:=B0.1 h;exact ⟨h1,MI h2⟩
 have hE:Ext I μ st w J μ ((id,none)::Rp id es st) w :=
  {imm:=hJ,os:=rfl,tape:=rfl,output:=rfl,size:=Nat.le_refl _
   block:=λ_ _ _=>rfl
   fresh:=λk _ ⟨i,bi,gi,h1,h2,h3⟩=>let ⟨_,b0,q,_⟩:=hst i bi h1;⟨i,b0,gi,q,h2,h3⟩
   old:=λk _ ho=>by
      cases hJk:J k with
      | none =>
       cases hIk:I k with
       | none=>rfl
       | some o=>rw [hJ k o hIk] at hJk;cases hJk
      | some o =>
       rcases hJo k o hJk with h | ⟨h,_⟩
       ·exact h.symm
       ·exact absurd ⟨id,_,_,hlive,hg,h⟩ ho }
 have hc':Conc n J μ (ZH id es env) ((id,none)::Rp id es st) ids a w :=
  {imm:=λk o h=>(hJo k o h).elim (λh=>hc.imm k o h) λh=>h.2
   blk:=λi bi hli=>by
    obtain ⟨_,b0,h2,rfl⟩:=hst i bi hli;obtain ⟨gi,hgi,hr⟩:=hc.blk i b0 h2;exact ⟨gi,hgi,hr.mfr hJ hg hJr⟩
   apart:=λi bi gi k hli hgi hk=>by
    obtain ⟨h1,b0,h2,rfl⟩:=hst i bi hli;obtain ⟨q1,q2⟩:=hc.apart i b0 gi k h2 hgi hk;refine ⟨?_,q2⟩;cases hJk:J k with
    | none=>rfl
    | some o =>
     rcases hJo k o hJk with h | ⟨h,_⟩
     ·rw [q1] at h;cases h
     ·exact absurd (hc.inj i id b0 _ gi _ k h2 hlive hgi hg hk h) h1
   inj:=λi j bi bj gi gj k hi hj hgi hgj hki hkj=>by
    obtain ⟨_,b1,h1,rfl⟩:=hst i bi hi;obtain ⟨_,b2,h2,rfl⟩:=hst j bj hj;exact hc.inj i j b1 b2 gi gj k h1 h2 hgi hgj hki hkj
   nodup:=hc.nodup
   idsFree:=hc.idsFree
   size:=hc.size
   env:=λt d hlt=>by
    have:∀{env:Env},lk (ZH id es env) t=some d->∃d0,lk env t=some d0/\d=PY id es d0:=by
     intro env
     induction env with
     | nil=>intro h;simp [ZH,lk] at h
     | cons p r ih =>
      obtain ⟨s,x⟩:=p;intro h;simp only [ZH] at h;by_cases hs:s=t
      ·subst hs;rw [Ap] at h;cases h;exact ⟨x,Ap _ _ _,rfl⟩
      ·rw [Au _ _ hs] at h;rw [Au _ _ hs];exact ih h
    obtain ⟨d0,h1,rfl⟩:=this hlt;exact (hc.env t d0 h1).mfr hJ hg hJr
   defers:=hc.defers.ext hE }
 refine (h b cs J μ a w items hd hc').mono λe' a' w' hp=>hp.back (.refl _ _) ?_;exact hE
def Ym (tt:TT) (n:Nat) (env:Env) (todo:List DI):Option PMl :=
 match AS todo ([],[]) with
 | some (all,o,todo')=>match o.op,BV all env o with
  | .lookup t m k two,some g=>match lk tt t,Ke (Ag g) env m,Ke (Ag g) env k with
   | some { sh:=.map kt et,.. },some (.imm (.mapv kv),o1),some (.imm kx,o2)=>match lk tt kt,B1 n o.dst with
    | some i,true=>match o.dst with
     | some t=>some ⟨kv,i.sh,kx,et,two,g,HG o1 o2,t,todo'⟩
     | none=>none
    | _,_=>none
   | _,_,_=>none
  | _,_=>none
 | none=>none
theorem FF (htt:TTok P tt) {kv:List (V×V)} {sh:Sh} {kx:V} {et:TypeId} {two:Bool} {g:Option (Bool×Bool)} {ob:List Prop} {t0:Nat} {todo0:List DI} {dd:TypeDesc} {z:Value} {zd:V} {dr:D}
  (h:Ym tt n env todo=some ⟨kv,sh,kx,et,two,g,ob,t0,todo0⟩) (hd:Jz sh=some dd) (hk:I3 sh kx=true) (hkv:∀p∈kv,I3 sh p.1=true) (hob:A9 ob)
  (hz:(P.info? et).bind (·.zero)=some z) (hzr:∀I,RepV I z zd) (hdr:DK two kv kx zd=dr) (hg:G P n F Q todo0 ((t0,gD g dr)::env) st ids):G P n F Q todo env st ids:=by
 unfold Ym at h
 split at h
 ·rename_i all o todo' h1
  split at h
  ·rename_i t m k two' g' hop hgd
   split at h
   ·rename_i kt et' _ _ _ _ kv' o1 kx' o2 ht hm hx
    split at h
    ·rename_i i hi hdo
     split at h
     ·rename_i t' hdst;cases h;subst hdr;have hg:G P n F Q todo0 (Bz o.dst (gD g (DK two kv kx zd)) env) st ids:=by rw [hdst];exact hg
      refine Bq (fr:=[]) (wr:=[]) (rd:=[]) h1 (C8 hgd λI μ st1 ids1 a w hag hst hops hcx=>?_) hdo (λc hc=>by rw [hop] at hc;cases hc) hg;rw [hop] at hops;obtain ⟨ho1,ho2⟩:=Ba hob;have rm:=Cw hm ho1 hcx (hops m (by simp [Op.operands]));have rx:=(Cw hx ho2 hcx (hops k (by simp [Op.operands]))).immInv;obtain ⟨b,es,clock,e1,hheap,hlen,hst2,hent⟩:∃b es clock,a.eval m = .map (some b)/\w.heap[b]?=some (.map es clock)/\es.size=kv.length/\MapKept.Stamped es clock/\∀(i:Nat) (e:MapEntry) (p:V×V),es[i]?=some e->kv[i]?=some p->RepV I e.key p.1/\RepV I e.val p.2:=by
       have rm:=rm.immInv;generalize a.eval m=vm at rm;cases rm with
       | mapv b es clock _ q1 q2 q3 q4 q5=>exact ⟨b,es,clock,rfl,hst.imm _ _ q1,q2,q3,λi e p h1 h2=>⟨q4 i e p h1 h2,q5 i e p h1 h2⟩⟩
      have hu:P.underlying t=some (.map kt et):=htt.sh ht;have hkd:P.underlying kt=some dd:=MW hd (htt.sh hi);have hik:=HW hd hk rx;have fin:∀(v:Value) (ok:Bool) (d:V),(Instr.lookup t (.map (some b)) (a.eval k) two).run P w = .ok (if two then .tuple #[v,.bool ok] else v) w->RepV I v d ->
        DK two kv kx zd=(if two then .imm (.tup [d,.bool ok]) else .imm d) ->
        valX P ((execOp a.eval o).run P w) (λu w'=>∃I' μ',StRep I' μ' st1 ids1 w'/\RepD I' μ' u (DK two kv kx zd)/\μ.le μ'/\Ext I μ st1 w I' μ' st1 w') (Kg (Lu Q) I μ st1 w):=by
       intro v ok d hr hv he;have hrun:(execOp a.eval o).run P w = .ok (.value (if two then .tuple #[v,.bool ok] else v)) w:=by
        simp only [execOp,hop,e1];exact At hr
       rw [hrun];refine ⟨I,μ,hst,?_,Mu.le_refl μ,Ext.refl _ _ _ _⟩;rw [he];cases two with
       | false=>exact .imm _ _ hv
       | true =>
        refine .imm _ _ (.tup _ _ rfl λi c x hc hx=>?_)
        match i,hc,hx with
        | 0,hc,hx=>cases hc;cases hx;exact hv
        | 1,hc,hx=>cases hc;cases hx;exact .bool _
        | i+2,hc,hx=>simp at hx
      rcases LN (I:=I) hd hk rx es.toList kv 0 (by simpa using hlen) (λj e p h1 h2=>hent j e p (by simpa using h1) h2) hkv with ⟨q1,q2,_,_⟩ | ⟨j,e,y',q1,q2,q3,q4,q5,q6⟩
      ·refine fin z false zd ?_ (hzr I) (by simp [DK,q2]);simp [Instr.lookup,run_underlying hu,MapKept.run_getObj_map hheap,MapKept.run_checkKey hkd hik,MapKept.run_findKey hkd q1,Fc hz,Result.andThen]
      ·refine fin e.val true y' ?_ q5 (by simp [DK,q4]);simp [Instr.lookup,run_underlying hu,MapKept.run_getObj_map hheap,MapKept.run_checkKey hkd hik,MapKept.run_findKey hkd q1,Result.andThen]
     ·cases h
    ·cases h
   ·cases h
  ·cases h
 ·cases h
def pE:List V->List D
 | []=>[]
 | .ip t cs off::r=>.ip t cs off::pE r
 | x::r=>.imm x::pE r
theorem Y8:∀{xs:List Value} {vs:List V},RepL I μ xs (vs.map .imm)->RepL I μ xs (pE vs)
 | [],[],h=>h
 | [],v::vs,h=>absurd h.1 (by simp)
 | x::xs,[],h=>absurd h.1 (by simp)
 | x::xs,v::vs,h=>by
  obtain ⟨h1,h2⟩:=(show RepL I μ (x::xs) (.imm v::vs.map .imm) from h).cons;have:=Y8 h2;cases v with
  | ip t cs off=>exact .mk h1.immInv.ipD this
  | _=>exact .mk h1 this
theorem OC {f:FuncId} {vs:List V} {v:V} (h:AV P f (pE vs) [] (.ret (.imm v) [])):Al P f vs v:=λI μ w xs hst hx=>h I μ w xs hst (Y8 hx)
def eG (n:Nat) (env:Env) (todo:List DI):Option YY :=
 match AS todo ([],[]) with
 | some (all,o,todo')=>match o.op,BV all env o with
  | .call { callee:=.value (.tmp t),args:=⟨args⟩,.. },some g=>match lk env t,GZ (Ag g) env args with
   | some (.imm (.clo (.func f) a b)),some (ds,ob)=>match K3 ds,B1 n o.dst with
    | some vs,true=>match o.dst with
     | some t=>some ⟨f,a++vs++b,g,ob,some t,todo'⟩
     | none=>some ⟨f,a++vs++b,g,ob,none,todo'⟩
    | _,_=>none
   | _,_=>none
  | _,_=>none
 | none=>none
theorem Pm:∀l:List V,K3 (l.map .imm)=some l
 | []=>rfl
 | x::r=>by simp [K3,mB,Pm r]
theorem IQ:∀{a b:List D} {xs ys:List V},K3 a=some xs->K3 b=some ys->K3 (a++b)=some (xs++ys)
 | [],b,xs,ys,h1,h2=>by cases h1;exact h2
 | d::r,b,xs,ys,h1,h2=>by
  simp only [K3] at h1
  split at h1
  ·rename_i x xs' hx hr;cases h1;simp [K3,hx,IQ hr h2]
  ·cases h1
theorem OP {f:FuncId} {vs:List V} {g:Option (Bool×Bool)} {ob:List Prop} {dst:Option Nat} {todo':List DI} {v:V} (h:eG n env todo=some ⟨f,vs,g,ob,dst,todo'⟩) (hE:Ag g->Al P f vs v) (hob:A9 ob)
  (hk:G P n F Q todo' (Bz dst (gD g (.imm v)) env) st ids):G P n F Q todo env st ids:=by
 unfold eG at h
 split at h
 ·rename_i all o todo1 h1;have hnd:∀cc,o.op = .call cc->∀c,o.op ≠ .defer c:=λcc h c h'=>by rw [h] at h';cases h'
  split at h
  ·rename_i t args ts g' ho hg
   split at h
   ·rename_i f' a b ds ob' ht ha
    split at h
    ·rename_i vs' hv hd;have fin:f'=f/\a++vs'++b=vs/\g'=g/\ob'=ob/\o.dst=dst/\todo1=todo':=by
      split at h <;> (rename_i hdst;cases h;exact ⟨rfl,rfl,rfl,rfl,hdst,rfl⟩)
     obtain ⟨rfl,rfl,rfl,rfl,rfl,rfl⟩:=fin;exact Bq (fr:=[]) (wr:=[]) h1 (OJ hg (Oj ho ht ha hob) (IQ (IQ (Pm a) hv) (Pm b)) hE) hd (hnd _ ho) hk
    ·cases h
   ·cases h
  ·cases h
 ·cases h
end
end Go.Hk
namespace Go.Hk
open Go.Proofs
def nM:TT:=nN++[
 (55,⟨.sl 101,false,1,24,[.nils]⟩),
 (101,⟨.struct [(0,9),(1,35)],true,5,72,[.imm (.str []),.imm (.int .i64 0),.imm (.int .i64 0),.imm (.str []),.nils]⟩),
 (181,⟨.struct [(0,29),(6,178),(7,179),(8,39)],true,9,144,[.nils,.imm (.int .i64 0),.imm (.int .i64 0),.imm (.str []),.nils,.nils,.imm .nilmap,.imm .nilmap,.nils]⟩),
 (150,⟨.struct [(0,32),(1,3),(2,9)],true,3,32,[.imm (.int .i64 0),.imm (.int .i64 0),.imm (.str [])]⟩),
 (221,⟨.struct [(0,3),(1,3)],true,2,16,[.imm (.int .i64 0),.imm (.int .i64 0)]⟩),
 (178,⟨.map 9 3,false,1,8,[.imm .nilmap]⟩),
 (179,⟨.map 9 221,false,1,8,[.imm .nilmap]⟩),
 (39,⟨.sl 3,false,1,24,[.nils]⟩),
 (102,⟨.ptr 181,false,1,8,[.imm .nilp]⟩),
 (114,⟨.func,false,1,8,[.imm .nilfn]⟩),
 (250,⟨.func,false,1,8,[.imm .nilfn]⟩),
 (207,⟨.func,false,1,8,[.imm .nilfn]⟩),
 (155,⟨.func,false,1,8,[.imm .nilfn]⟩)]
theorem A5:TTok Tryz.prog nM:=.of_eq (l:=[4,3,9,186,26,62,183,27,5,24,23,193,184,60,188,192,90,22,190,87,85,36,35,32,33,29,55,101,181,150,221,178,179,39,102,114,250,207,155]) (by kernel_rfl)
section
variable {n:Nat} {F:List Nat} {Q:DQ} {env env':Env} {st st':St} {ids ids':List Nat} {k todo:List DI} {ob:List Prop}
theorem bd (path:List Pt) (h:run nM n 300 path todo env st ids [] = .at k env' st' ids' ob) (hob:A9 ob) (hd:G Tryz.prog n F Q k env' st' ids'):DGo Tryz.prog n F Q todo env st ids:=J2 A5 DJ 300 path h hob hd
theorem bg (path:List Pt) (h:run nM n 300 path todo env st ids [] = .at k env' st' ids' ob) (hob:A9 ob) (hd:G Tryz.prog n F Q k env' st' ids'):G Tryz.prog n F Q todo env st ids:=IK A5 DJ 300 path h hob hd
theorem bi {es:List (List V)} {m:Int} {sz:Nat} {e:TypeId} {g:Option (Bool×Bool)} {ob:List Prop} {t:Nat} {todo':List DI} {c:List V} (h:M7 nM n env todo=some ⟨es,m,sz,e,g,ob,some t,todo'⟩)
  (hc:Ag g->0<=m/\es[m.toNat]?=some c/\c.length=sz) (hob:A9 ob) (hk:G Tryz.prog n F Q todo' ((t,gD g (.ip e c 0))::env) st ids):G Tryz.prog n F Q todo env st ids:=EG A5 h hc hob hk
end
def Bn:Ty->List Ty
 | .mk _ _ _ ps=>ps
def LS (b:Str×Ty):List V:=.str b.1::dTyc b.2
@[simp] theorem dBind_length (b:Str×Ty):(LS b).length=5:=by simp [LS]
def BW (l:List (Str×Ty)):List (List V):=l.map LS
@[simp] theorem dBinds_length (l:List (Str×Ty)):(BW l).length=l.length:=by simp [BW]
theorem iK (a b:List (Str×Ty)):BW (a++b)=BW a++BW b:=by simp [BW]
mutual
def Bf:Ty->Ty->List (Str×Ty)×Bool
 | .mk f n x ps,v=>if f=1 then ([],true) else if f=2 then ([(x,v)],true) else if A6 (AO (.mk f n x ps)) v=false then ([],false) else By ps (Bn v)
def By:List Ty->List Ty->List (Str×Ty)×Bool
 | [],_=>([],true)
 | _::_,[]=>([],true)
 | p::r,q::s=>bif (Bf p q).2&&(By r s).2 then ((Bf p q).1++(By r s).1,true) else ([],false)
end
mutual
def Lw:Ty->Ty->Bool
 | .mk f n x ps,v=>decide (f=1)||decide (f=2) || !A6 (AO (.mk f n x ps)) v||(decide (ps.length<=(Bn v).length)&&Lv ps (Bn v))
def Lv:List Ty->List Ty->Bool
 | [],_=>true
 | _::_,[]=>true
 | p::r,q::s=>Lw p q&&Lv r s
end
mutual
theorem PZ:∀p v:Ty,(Bf p v).1.length<=Ai p
 | .mk f n x ps,v=>by
  simp only [Bf,Ai];have:=NJ ps (Bn v)
  split
  ·simp
  ·split
   ·simp
   ·split <;> simp;omega
theorem NJ:∀ps vs:List Ty,(By ps vs).1.length<=Ah ps
 | [],_=>by simp [By]
 | _::_,[]=>by simp [By]
 | p::r,q::s=>by
  have h1:=PZ p q;have h2:=NJ r s;simp only [By,Ah];cases (Bf p q).2&&(By r s).2
  ·simp
  ·simp;omega
end
theorem Rr:∀ps vs:List Ty,(By ps vs).2=false->(By ps vs).1=[]
 | [],_,h=>by simp [By] at h
 | _::_,[],h=>by simp [By] at h
 | p::r,q::s,h=>by
  simp only [By] at h ⊢;cases hc:(Bf p q).2&&(By r s).2
  ·simp
  ·rw [hc] at h;cases h
theorem T5:∀p v:Ty,(Bf p v).2=false->(Bf p v).1=[]
 | .mk f n x ps,v,h=>by
  simp only [Bf] at h ⊢
  split at h
  ·cases h
  ·split at h
   ·cases h
   ·split at h
    ·simp [*]
    ·rename_i h1 h2 h3;simp only [h1,h2,h3,if_false];exact Rr _ _ h
end Go.Hk
namespace Go.Hk
open Go.Proofs
def Bk (v:Ty):Nat->List Ty->Int
 | _,[]=>-1
 | i,p::r=>bif (Bf p v).2 then (i:Int) else Bk v (i+1) r
def Bh:Ty->List V
 | .mk s n x _=>[.int .i64 s,.int .i64 n,.str x]
theorem La:∀p:Ty,Al Tryz.prog 128 [.agg (dTyc p)] (.agg (Bh (AO p)))
 | .mk s n x ks=>by
  refine Ae A5 Tryz.func128 (by decide +kernel) rfl [1,2,3] rfl rfl ?_;simp only [AO];refine bg [] rfl (by simp) ?_;by_cases h3:s=3
  ·subst h3;refine Aa rfl (λh=>?_) (λh=>by simp at h);refine bd [] rfl (by simp) ?_;exact Ab ⟨_,rfl,tV rfl,trivial⟩
  rw [if_neg h3];refine Aa rfl (λh=>absurd (by simpa using h) h3) (λh=>?_);clear h;refine bd [] rfl (by simp) ?_;by_cases h4:s=4
  ·subst h4;refine Aa rfl (λh=>?_) (λh=>by simp at h);refine bd [] rfl (by simp) ?_;exact Ab ⟨_,rfl,tV rfl,trivial⟩
  rw [if_neg h4];refine Aa rfl (λh=>absurd (by simpa using h) h4) (λh=>?_);clear h;refine bd [] rfl (by simp) ?_;by_cases h5:s=5
  ·subst h5;refine Aa rfl (λh=>?_) (λh=>by simp at h);refine bd [] rfl (by simp) ?_;exact Ab ⟨_,rfl,tV rfl,trivial⟩
  rw [if_neg h5];refine Aa rfl (λh=>absurd (by simpa using h) h5) (λh=>?_);clear h;refine bd [] rfl (by simp) ?_;exact Ab ⟨_,rfl,tV rfl,trivial⟩
theorem Yx:∀v:Ty,Al Tryz.prog 92 [.agg (dTyc v)] (.agg (Bh v))
 | .mk s n x ks=>by
  refine Ae A5 Tryz.func92 (by decide +kernel) rfl [1,2,3] rfl rfl ?_;refine bg [] rfl (by simp) ?_;exact Ab ⟨_,rfl,tV rfl,trivial⟩
theorem Po (c:Cse) (r:Int):Al Tryz.prog 67 [.agg (dCse c),.int .i64 r] (.bool (decide (0<=r)&&decide (r<c.rows.length))):=by
 obtain ⟨ds,⟨s,n,x,ps⟩,rows⟩:=c;refine Ae A5 Tryz.func67 (by decide +kernel) rfl [1,2,3] rfl rfl ?_;refine bg [] rfl (by simp [Ag]) ?_;refine Ab ⟨_,rfl,tV (congrArg _ ?_),trivial⟩;simp
theorem Sm:∀p:Ty,Ai p<=1000000->Al Tryz.prog 107 [.agg (dTyc p)] (.int .i64 (Ai p:Int))
 | .mk s n x ps,hN=>by
  simp only [Ai] at hN;refine AI λhv=>?_;simp [Cf,Ey,dTyc,maxLen] at hv;refine Ae A5 Tryz.func107 (by decide +kernel) rfl [1,2,3] rfl rfl ?_;refine bg [] rfl (by simp) ?_;refine Aj (λi:Nat=>[(9,.imm (.int .i64 i)),(8,.imm (.int .i64 ps.length)),(7,.imm (.sl (AT ps))),(3,.imm (.int .i64 ((1+Ah (ps.take i):Nat):Int)))]) (λ_=>[]) [2,3] (λi=>ps.length-i)
   (λi=>i<=ps.length) 0 (Nat.zero_le _) ⟨rfl,As (by simp),rfl,rfl,trivial⟩ trivial rfl λi hi ih=>?_
  refine bd [] rfl (by simp) ?_;refine Aa rfl (λh=>?_) (λh=>?_)
  ·simp at h;obtain ⟨t,ht⟩:=Am h;have e:Ah (ps.take (i+1))=Ah (ps.take i)+Ai t:=by rw [Be ht,Bo];simp [Ah]
   have hb:=BU ht;refine bd [] rfl (by simp) ?_;refine bi rfl (c:=dTyc t) (λ_=>⟨by simp,by simpa using Ax ht,by simp⟩) (by simp) ?_;refine bg [] rfl (by simp) ?_;refine Ac rfl (λ_=>Sm t (by omega)) (by simp) ?_;refine bg [] rfl (by simp) ?_;exact Ad (ih (i+1) (by omega) (by omega)) ⟨As (B9 (by omega) (by omega)),rfl,rfl,As (by rw [e,B9 (by omega) (by omega)];omega),trivial⟩ trivial rfl
  ·simp at h;refine Ar rfl ?_;refine bd [] rfl (by simp) ?_;rw [List.take_of_length_le (by omega)];refine Ab ⟨_,rfl,tV ?_,trivial⟩;simp [Ai]
termination_by p=>SizeOf.sizeOf p
decreasing_by
 have:=List.sizeOf_lt_of_mem (List.mem_of_getElem? ht);simp_wf;omega
theorem Pb:∀(t:Ty) (l d:Int),-9223372036854775808<=l->l<=9223372036854775807 -> -9223372036854775807<=d->d<=9223372036854775807->Al Tryz.prog 136 [.agg (dTyc t),.int .i64 l,.int .i64 d] (.int .i64 (BF t l d))
 | .mk op n x ks,l,d,hl0,hl1,hd0,hd1=>by
  refine AI λhv=>?_;simp [Cf,Ey,dTyc,maxLen] at hv;refine Ae A5 Tryz.func136 (by decide +kernel) rfl [1,2,3] rfl rfl ?_;refine bg [] rfl (by simp [Ag]) ?_;refine Aa rfl (λh=>?_) (λh=>?_)
  ·refine bd [] rfl (by simp) ?_;refine Ab ⟨_,rfl,tV (congrArg _ ?_),trivial⟩;simp at h;simp only [BF];rw [if_pos (by grind)]
  have h:¬(l<1\/d<1):=by simp at h;grind
  refine bd [] rfl (by simp) ?_;refine Aj (λx:Nat×Int=>[(20,.imm (.int .i64 x.1)),(19,.imm (.int .i64 ks.length)),(18,.imm (.sl (AT ks))),(1,.imm (.int .i64 x.2)),(2,.imm (.int .i64 d))]) (λ_=>[]) [2,3] (λx=>ks.length-x.1)
   (λy=>y.1<=ks.length/\BF (.mk op n x ks) l d=Cb (ks.drop y.1) y.2 (d-1)/\0<=y.2/\y.2<l) (0,l-1)
   ⟨Nat.zero_le _,by simp only [BF,List.drop_zero];rw [if_neg h],by simp only;omega,by simp only;omega⟩ ⟨rfl,As (by simp),rfl,As (B9 (by omega) (by omega)),rfl,trivial⟩ trivial rfl λy hi ih=>?_
  obtain ⟨i,m⟩:=y;obtain ⟨hi1,hi2,hi3,hi4⟩:=hi;simp only at hi1 hi2 hi3 hi4;refine bd [] rfl (by simp) ?_;refine Aa rfl (λh=>?_) (λh=>?_)
  ·simp at h;obtain ⟨t,ht⟩:=Am (l:=ks) (i:=i) (by omega);rw [Ao ht] at hi2;simp only [Cb] at hi2;rw [if_pos hi3] at hi2;refine bd [] rfl (by simp) ?_;refine bi rfl (c:=dTyc t) (λ_=>⟨by simp,by simpa using Ax ht,by simp⟩) (by simp) ?_;refine bg [] rfl (by simp) ?_;have hw:IntKind.i64.wrap (d-1)=d-1:=B9 (by omega) (by omega);refine Ac rfl (v:=.int .i64 (BF t m (d-1))) (λ_=>by rw [hw];exact Pb t m (d-1) (by omega) (by omega) (by omega) (by omega)) (by simp) ?_;refine bg [] rfl (by simp) ?_;have hb:=JC t m (d-1);refine Aa rfl (λh'=>?_) (λh'=>?_)
   ·simp at h';refine Ar rfl ?_;refine bd [] rfl (by simp) ?_;refine Ab ⟨_,rfl,tV (congrArg _ ?_),trivial⟩;rw [hi2];have:BF t m (d-1) = -1:=by omega
    rw [this];cases ks.drop (i+1) with
    | nil=>rfl
    | cons a b=>simp [Cb]
   ·simp at h';refine bd [] rfl (by simp) ?_;exact Ad (ih (i+1,BF t m (d-1)) (by simp only;omega) ⟨by simp only;omega,hi2,by simp only;omega,by simp only;omega⟩) ⟨As (B9 (by omega) (by omega)),rfl,rfl,rfl,rfl,trivial⟩ trivial rfl
  ·refine Ar rfl ?_;refine bd [] rfl (by simp) ?_;refine Ab ⟨_,rfl,tV (congrArg _ ?_),trivial⟩;simp at h;rw [hi2,List.drop_eq_nil_of_le (by omega)];simp [Cb]
termination_by t=>SizeOf.sizeOf t
decreasing_by
 have:=List.sizeOf_lt_of_mem (List.mem_of_getElem? ht);simp_wf;omega
def EU:V:=.iface 281 (.agg [])
def lW:TT:=cG++[
 (281,⟨.struct [],true,0,0,[]⟩),
 (227,⟨.struct [(0,3),(1,3)],true,2,16,[.imm (.int .i64 0),.imm (.int .i64 0)]⟩),
 (1,⟨.func,false,1,8,[.imm .nilfn]⟩)]
theorem AH:TTok Tryz.prog lW:=.of_eq (l:=[4,3,9,186,26,62,183,27,5,24,23,193,184,60,188,192,90,22,190,87,85,36,281,227,1]) (by kernel_rfl)
section
variable {n:Nat} {F:List Nat} {Q:DQ} {env env':Env} {st st':St} {ids ids':List Nat} {k todo:List DI} {ob:List Prop}
theorem td (path:List Pt) (h:run lW n 300 path todo env st ids [] = .at k env' st' ids' ob) (hob:A9 ob) (hd:G Tryz.prog n F Q k env' st' ids'):DGo Tryz.prog n F Q todo env st ids:=J2 AH DJ 300 path h hob hd
theorem tg (path:List Pt) (h:run lW n 300 path todo env st ids [] = .at k env' st' ids' ob) (hob:A9 ob) (hd:G Tryz.prog n F Q k env' st' ids'):G Tryz.prog n F Q todo env st ids:=IK AH DJ 300 path h hob hd
theorem ti {es:List (List V)} {m:Int} {sz:Nat} {e:TypeId} {g:Option (Bool×Bool)} {ob:List Prop} {t:Nat} {todo':List DI} {c:List V} (h:M7 lW n env todo=some ⟨es,m,sz,e,g,ob,some t,todo'⟩)
  (hc:Ag g->0<=m/\es[m.toNat]?=some c/\c.length=sz) (hob:A9 ob) (hk:G Tryz.prog n F Q todo' ((t,gD g (.ip e c 0))::env) st ids):G Tryz.prog n F Q todo env st ids:=EG AH h hc hob hk
end
theorem bU:Al Tryz.prog 191 [.bool true] (.tup []):=by
 refine Ae AH Tryz.func191 (by decide +kernel) rfl [1,2] rfl rfl ?_;refine tg [.a] rfl (by simp) ?_;exact Cp ⟨_,rfl,rfl,trivial⟩
theorem iM:AV Tryz.prog 191 [.imm (.bool false)] [] (.pan EU):=by
 refine Ae AH Tryz.func191 (by decide +kernel) rfl [1,2] rfl rfl ?_;refine tg [.a] rfl (by simp) ?_;exact aS rfl rfl rfl rfl
end Go.Hk
namespace Go.Hk
open Go.Proofs
theorem Bx (b:Bool) (h:b=true):Al Tryz.prog 191 [.bool b] (.tup []):=by subst h;exact bU
theorem BP (b:Bool) (h:b=false):AV Tryz.prog 191 [.imm (.bool b)] [] (.pan EU):=by subst h;exact iM
def Cn (a b:Int):Blk:=.immb 227 2 [.int .i64 a,.int .i64 b]
theorem Gn (n d x:Int) (h0:1<=n) (h1:n<=4611686018427387904) (hx:x<=d):AV Tryz.prog 190 [.ref 1 0,.imm (.int .i64 x)] [(1,some (Cn n d))] (.ret (.imm (.tup [])) [(1,some (Cn (n-1) d))]):=by
 have hw:IntKind.i64.wrap (n-1)=n-1:=B9 (by omega) (by omega);refine Ae AH Tryz.func190 (by decide +kernel) rfl [2,3] rfl rfl ?_;refine tg [] rfl (by simp) ?_;refine Ac rfl (λ_=>Bx _ (by simp [hw];omega)) (by simp) ?_;refine tg [] rfl (by simp) ?_;refine Cp ⟨_,rfl,rfl,?_⟩;simp only [hw];exact ⟨rfl,trivial⟩
theorem Pv (n d x:Int) (h0 : -1<=n) (h1:n<=4611686018427387904) (hx:n<1\/d<x):AV Tryz.prog 190 [.ref 1 0,.imm (.int .i64 x)] [(1,some (Cn n d))] (.pan EU):=by
 have hw:IntKind.i64.wrap (n-1)=n-1:=B9 (by omega) (by omega);refine Ae AH Tryz.func190 (by decide +kernel) rfl [2,3] rfl rfl ?_;refine tg [] rfl (by simp) ?_;exact Az [] rfl (by simp) (BP _ (by simp [hw];omega)) trivial rfl rfl
theorem F0 {ps:List Ty} {i:Nat} {t:Ty} (h:ps[i]?=some t):Ah (ps.drop i)=Ai t+Ah (ps.drop (i+1)):=by rw [Ao h];rfl
theorem JR:∀(t:Ty) (n:Int),(Ai t:Int)<=n->n<=4611686018427387904->AV Tryz.prog 187 [.ref 1 0,.imm (.agg (dTyc t))] [(1,some (Cn n 0))] (.ret (.imm (.tup [])) [(1,some (Cn (n-Ai t) 0))])
 | .mk s m x ps,n,h0,h1=>by
  refine Eb 1 rfl λhok=>?_;have hv:ps.length<=9223372036854775807:=by
   simp [Cf,Ey,dTyc,maxLen] at hok;have:=hok.1;omega
  refine Ae AH Tryz.func187 (by decide +kernel) rfl [2,3,4] rfl rfl ?_;have hN:(1:Int)+Ah ps<=n:=by simp only [Ai] at h0;omega
  refine tg [] rfl (by simp) ?_;refine Ay (fr:=[]) [(1,1)] [] rfl (by simp) (Gn n 0 0 (by omega) h1 (by decide)) ⟨⟨rfl,rfl,rfl⟩,trivial⟩ rfl rfl rfl rfl ?_;refine tg [] rfl (by simp) ?_;refine Aj (λi:Nat=>[(11,.imm (.int .i64 i)),(10,.imm (.int .i64 ps.length)),(9,.imm (.sl (AT ps))),(0,.ref 1 0)]) (λi=>[(1,some (Cn (n-1-Ah (ps.take i)) 0))]) [2,3,4] (λi=>ps.length-i)
   (λi=>i<=ps.length) 0 (Nat.zero_le _) ⟨rfl,As (by simp),rfl,rfl,trivial⟩ ⟨by simp [Ah];rfl,trivial⟩ rfl λi hi ih=>?_
  refine td [] rfl (by simp) ?_;refine Aa rfl (λh=>?_) (λh=>?_)
  ·simp at h;obtain ⟨t,ht⟩:=Am h;have hnt:=BU ht;have hnd:=F0 ht;have htk:(Ah (ps.take (i+1)):Int)=Ah (ps.take i)+Ai t:=by rw [Be ht,Bo];simp [Ah]
   refine td [] rfl (by simp) ?_;refine ti rfl (c:=dTyc t) (λ_=>⟨by simp,by simpa using Ax ht,by simp⟩) (by simp) ?_;refine tg [] rfl (by simp) ?_;refine Ay (fr:=[]) [(1,1)] [] rfl (by simp) (JR t (n-1-Ah (ps.take i)) (by omega) (by omega)) ⟨⟨rfl,rfl,rfl⟩,trivial⟩ rfl rfl rfl rfl ?_;refine tg [] rfl (by simp) ?_;exact Ad (ih (i+1) (by omega) (by omega)) ⟨As (B9 (by omega) (by omega)),rfl,rfl,rfl,trivial⟩ ⟨congrArg (λz=>Cn z 0) (by omega),trivial⟩ rfl
  ·refine td [] rfl (by simp) ?_;simp at h;refine Cp ⟨_,rfl,rfl,⟨?_,trivial⟩⟩;rw [List.take_of_length_le (by omega)];simp only [Ai];exact congrArg (λz=>some (some (Cn z 0))) (by omega)
termination_by t=>SizeOf.sizeOf t
decreasing_by
 all_goals
  have:=List.sizeOf_lt_of_mem (List.mem_of_getElem? ht);simp_wf;omega
theorem V3:∀(t:Ty) (n:Int),n<Ai t -> -1<=n->n<=4611686018427387904->AV Tryz.prog 187 [.ref 1 0,.imm (.agg (dTyc t))] [(1,some (Cn n 0))] (.pan EU)
 | .mk s m x ps,n,h0,hm1,h1=>by
  refine Eb 1 rfl λhok=>?_;have hv:ps.length<=9223372036854775807:=by
   simp [Cf,Ey,dTyc,maxLen] at hok;have:=hok.1;omega
  refine Ae AH Tryz.func187 (by decide +kernel) rfl [2,3,4] rfl rfl ?_;have hN:n<(1:Int)+Ah ps:=by simp only [Ai] at h0;omega
  refine tg [] rfl (by simp) ?_;by_cases hn:n<1
  ·exact Az [(1,1)] rfl (by simp) (Pv n 0 0 (by omega) h1 (.inl hn)) ⟨⟨rfl,rfl,rfl⟩,trivial⟩ rfl rfl
  refine Ay (fr:=[]) [(1,1)] [] rfl (by simp) (Gn n 0 0 (by omega) h1 (by decide)) ⟨⟨rfl,rfl,rfl⟩,trivial⟩ rfl rfl rfl rfl ?_;refine tg [] rfl (by simp) ?_;refine Aj (λi:Nat=>[(11,.imm (.int .i64 i)),(10,.imm (.int .i64 ps.length)),(9,.imm (.sl (AT ps))),(0,.ref 1 0)]) (λi=>[(1,some (Cn (n-1-Ah (ps.take i)) 0))]) [2,3,4] (λi=>ps.length-i)
   (λi=>i<=ps.length/\(Ah (ps.take i):Int)<=n-1/\n-1<Ah (ps.take i)+Ah (ps.drop i)) 0 ⟨Nat.zero_le _,by simp [Ah];omega,by simp [Ah];omega⟩ ⟨rfl,As (by simp),rfl,rfl,trivial⟩ ⟨by simp [Ah];rfl,trivial⟩ rfl λi hi ih=>?_
  refine td [] rfl (by simp) ?_;refine Aa rfl (λh=>?_) (λh=>?_)
  ·simp at h;obtain ⟨t,ht⟩:=Am h;have hnt:=BU ht;have hnd:=F0 ht;have htk:(Ah (ps.take (i+1)):Int)=Ah (ps.take i)+Ai t:=by rw [Be ht,Bo];simp [Ah]
   refine td [] rfl (by simp) ?_;refine ti rfl (c:=dTyc t) (λ_=>⟨by simp,by simpa using Ax ht,by simp⟩) (by simp) ?_;refine tg [] rfl (by simp) ?_;by_cases hle:(Ai t:Int)<=n-1-Ah (ps.take i)
   ·refine Ay (fr:=[]) [(1,1)] [] rfl (by simp) (JR t (n-1-Ah (ps.take i)) (by omega) (by omega)) ⟨⟨rfl,rfl,rfl⟩,trivial⟩ rfl rfl rfl rfl ?_;refine tg [] rfl (by simp) ?_;exact Ad (ih (i+1) (by omega) ⟨by omega,by omega,by omega⟩) ⟨As (B9 (by omega) (by omega)),rfl,rfl,rfl,trivial⟩ ⟨congrArg (λz=>Cn z 0) (by omega),trivial⟩ rfl
   ·exact Az [(1,1)] rfl (by simp) (V3 t (n-1-Ah (ps.take i)) (by omega) (by omega) (by omega)) ⟨⟨rfl,rfl,rfl⟩,trivial⟩ rfl rfl
  ·exfalso;simp at h;have:=hi.2;rw [List.take_of_length_le (by omega),List.drop_eq_nil_of_le (by omega)] at this;simp [Ah] at this;omega
termination_by t=>SizeOf.sizeOf t
decreasing_by
 all_goals
  have:=List.sizeOf_lt_of_mem (List.mem_of_getElem? ht);simp_wf;omega
theorem LH:∀(t:Ty) (n:Int),(Ai t:Int)<=n->n<=4611686018427387904->AV Tryz.prog 148 [.ref 1 0,.imm (.agg (dTyc t))] [(1,some (Cn n 0))] (.ret (.imm (.tup [])) [(1,some (Cn (n-Ai t) 0))])
 | .mk s m x ps,n,h0,h1=>by
  refine Eb 1 rfl λhok=>?_;have hv:ps.length<=9223372036854775807:=by
   simp [Cf,Ey,dTyc,maxLen] at hok;have:=hok.1;omega
  refine Ae AH Tryz.func148 (by decide +kernel) rfl [2,3,4] rfl rfl ?_;have hN:(1:Int)+Ah ps<=n:=by simp only [Ai] at h0;omega
  refine tg [] rfl (by simp) ?_;refine Ay (fr:=[]) [(1,1)] [] rfl (by simp) (Gn n 0 0 (by omega) h1 (by decide)) ⟨⟨rfl,rfl,rfl⟩,trivial⟩ rfl rfl rfl rfl ?_;refine tg [] rfl (by simp) ?_;refine Aj (λi:Nat=>[(11,.imm (.int .i64 i)),(10,.imm (.int .i64 ps.length)),(9,.imm (.sl (AT ps))),(0,.ref 1 0)]) (λi=>[(1,some (Cn (n-1-Ah (ps.take i)) 0))]) [2,3,4] (λi=>ps.length-i)
   (λi=>i<=ps.length) 0 (Nat.zero_le _) ⟨rfl,As (by simp),rfl,rfl,trivial⟩ ⟨by simp [Ah];rfl,trivial⟩ rfl λi hi ih=>?_
  refine td [] rfl (by simp) ?_;refine Aa rfl (λh=>?_) (λh=>?_)
  ·simp at h;obtain ⟨t,ht⟩:=Am h;have hnt:=BU ht;have hnd:=F0 ht;have htk:(Ah (ps.take (i+1)):Int)=Ah (ps.take i)+Ai t:=by rw [Be ht,Bo];simp [Ah]
   refine td [] rfl (by simp) ?_;refine ti rfl (c:=dTyc t) (λ_=>⟨by simp,by simpa using Ax ht,by simp⟩) (by simp) ?_;refine tg [] rfl (by simp) ?_;refine Ay (fr:=[]) [(1,1)] [] rfl (by simp) (LH t (n-1-Ah (ps.take i)) (by omega) (by omega)) ⟨⟨rfl,rfl,rfl⟩,trivial⟩ rfl rfl rfl rfl ?_;refine tg [] rfl (by simp) ?_;exact Ad (ih (i+1) (by omega) (by omega)) ⟨As (B9 (by omega) (by omega)),rfl,rfl,rfl,trivial⟩ ⟨congrArg (λz=>Cn z 0) (by omega),trivial⟩ rfl
  ·refine td [] rfl (by simp) ?_;simp at h;refine Cp ⟨_,rfl,rfl,⟨?_,trivial⟩⟩;rw [List.take_of_length_le (by omega)];simp only [Ai];exact congrArg (λz=>some (some (Cn z 0))) (by omega)
termination_by t=>SizeOf.sizeOf t
decreasing_by
 all_goals
  have:=List.sizeOf_lt_of_mem (List.mem_of_getElem? ht);simp_wf;omega
theorem YA:∀(t:Ty) (n:Int),n<Ai t -> -1<=n->n<=4611686018427387904->AV Tryz.prog 148 [.ref 1 0,.imm (.agg (dTyc t))] [(1,some (Cn n 0))] (.pan EU)
 | .mk s m x ps,n,h0,hm1,h1=>by
  refine Eb 1 rfl λhok=>?_;have hv:ps.length<=9223372036854775807:=by
   simp [Cf,Ey,dTyc,maxLen] at hok;have:=hok.1;omega
  refine Ae AH Tryz.func148 (by decide +kernel) rfl [2,3,4] rfl rfl ?_;have hN:n<(1:Int)+Ah ps:=by simp only [Ai] at h0;omega
  refine tg [] rfl (by simp) ?_;by_cases hn:n<1
  ·exact Az [(1,1)] rfl (by simp) (Pv n 0 0 (by omega) h1 (.inl hn)) ⟨⟨rfl,rfl,rfl⟩,trivial⟩ rfl rfl
  refine Ay (fr:=[]) [(1,1)] [] rfl (by simp) (Gn n 0 0 (by omega) h1 (by decide)) ⟨⟨rfl,rfl,rfl⟩,trivial⟩ rfl rfl rfl rfl ?_;refine tg [] rfl (by simp) ?_;refine Aj (λi:Nat=>[(11,.imm (.int .i64 i)),(10,.imm (.int .i64 ps.length)),(9,.imm (.sl (AT ps))),(0,.ref 1 0)]) (λi=>[(1,some (Cn (n-1-Ah (ps.take i)) 0))]) [2,3,4] (λi=>ps.length-i)
   (λi=>i<=ps.length/\(Ah (ps.take i):Int)<=n-1/\n-1<Ah (ps.take i)+Ah (ps.drop i)) 0 ⟨Nat.zero_le _,by simp [Ah];omega,by simp [Ah];omega⟩ ⟨rfl,As (by simp),rfl,rfl,trivial⟩ ⟨by simp [Ah];rfl,trivial⟩ rfl λi hi ih=>?_
  refine td [] rfl (by simp) ?_;refine Aa rfl (λh=>?_) (λh=>?_)
  ·simp at h;obtain ⟨t,ht⟩:=Am h;have hnt:=BU ht;have hnd:=F0 ht;have htk:(Ah (ps.take (i+1)):Int)=Ah (ps.take i)+Ai t:=by rw [Be ht,Bo];simp [Ah]
   refine td [] rfl (by simp) ?_;refine ti rfl (c:=dTyc t) (λ_=>⟨by simp,by simpa using Ax ht,by simp⟩) (by simp) ?_;refine tg [] rfl (by simp) ?_;by_cases hle:(Ai t:Int)<=n-1-Ah (ps.take i)
   ·refine Ay (fr:=[]) [(1,1)] [] rfl (by simp) (LH t (n-1-Ah (ps.take i)) (by omega) (by omega)) ⟨⟨rfl,rfl,rfl⟩,trivial⟩ rfl rfl rfl rfl ?_;refine tg [] rfl (by simp) ?_;exact Ad (ih (i+1) (by omega) ⟨by omega,by omega,by omega⟩) ⟨As (B9 (by omega) (by omega)),rfl,rfl,rfl,trivial⟩ ⟨congrArg (λz=>Cn z 0) (by omega),trivial⟩ rfl
   ·exact Az [(1,1)] rfl (by simp) (YA t (n-1-Ah (ps.take i)) (by omega) (by omega) (by omega)) ⟨⟨rfl,rfl,rfl⟩,trivial⟩ rfl rfl
  ·exfalso;simp at h;have:=hi.2;rw [List.take_of_length_le (by omega),List.drop_eq_nil_of_le (by omega)] at this;simp [Ah] at this;omega
termination_by t=>SizeOf.sizeOf t
decreasing_by
 all_goals
  have:=List.sizeOf_lt_of_mem (List.mem_of_getElem? ht);simp_wf;omega
theorem Tg:∀(ts:List Tm) (l d:Int),l<0->BO ts l d<0
 | [],l,d,h=>h
 | t::r,l,d,h=>by simp only [BO];rw [if_neg (by omega)];exact h
theorem JQ:∀(t:Tm) (n dp x:Int),0<=n->n<=4611686018427387904->0<=dp->dp<=1000000->0<=x->x<=1000001->0<=B3 t n (dp-x+1)->AV Tryz.prog 223 [.ref 1 0,.imm (.agg (C6 t)),.imm (.int .i64 x)] [(1,some (Cn n dp))] (.ret (.imm (.tup [])) [(1,some (Cn (B3 t n (dp-x+1)) dp))])
 | .mk op nn tx ks ps,n,dp,x,h0,h1,hd0,hd1,hx0,hx1,hw=>by
  refine Eb 1 rfl λhok=>?_;have hv:ks.length<=9223372036854775807:=by
   simp [Cf,Ey,C6,maxLen] at hok;have:=hok.1;omega
  refine Ae AH Tryz.func223 (by decide +kernel) rfl [2,3,4] rfl rfl ?_;have hst:¬(n<1\/dp-x+1<1)->B3 (.mk op nn tx ks ps) n (dp-x+1)=BO ks (n-1) (dp-x):=λh=>by
   simp only [B3];rw [if_neg h];congr 1;omega
  refine tg [] rfl (by simp) ?_;by_cases hs:n<1\/dp-x+1<1
  ·exfalso;simp only [B3] at hw;rw [if_pos hs] at hw;omega
  have hs':1<=n/\x<=dp:=by omega
  refine Ay (fr:=[]) [(1,1)] [] rfl (by simp) (Gn n dp x (by omega) h1 (by omega)) ⟨⟨rfl,rfl,rfl⟩,trivial⟩ rfl rfl rfl rfl ?_;refine tg [] rfl (by simp) ?_;refine Aj (λy:Nat×Int=>[(14,.imm (.int .i64 y.1)),(13,.imm (.int .i64 ks.length)),(12,.imm (.sl (KQ ks))),(0,.ref 1 0),(2,.imm (.int .i64 x))]) (λy=>[(1,some (Cn y.2 dp))]) [2,3,4] (λy=>ks.length-y.1)
   (λy=>y.1<=ks.length/\B3 (.mk op nn tx ks ps) n (dp-x+1)=BO (ks.drop y.1) y.2 (dp-x)/\0<=y.2/\y.2<=n) (0,n-1) ⟨Nat.zero_le _,by simp only [List.drop_zero];exact hst hs,by simp only;omega,by simp only;omega⟩ ⟨rfl,As (by simp),rfl,rfl,rfl,trivial⟩ ⟨rfl,trivial⟩ rfl λy hi ih=>?_
  obtain ⟨i,m⟩:=y;obtain ⟨hi1,hi2,hi3,hi4⟩:=hi;simp only at hi1 hi2 hi3 hi4;refine td [] rfl (by simp) ?_;refine Aa rfl (λh=>?_) (λh=>?_)
  ·simp at h;obtain ⟨t,ht⟩:=Am h;rw [Ao ht] at hi2;simp only [BO] at hi2;rw [if_pos hi3] at hi2;have hb:=Ig t m (dp-x);have hx:IntKind.i64.wrap (x+1)=x+1:=B9 (by omega) (by omega);refine td [] rfl (by simp) ?_;refine ti rfl (c:=C6 t) (λ_=>⟨by simp,by simpa using Ic ht,by simp⟩) (by simp) ?_;refine tg [] rfl (by simp) ?_;have hdx:dp-(x+1)+1=dp-x:=by omega
   have hz:0<=B3 t m (dp-x):=by
    rw [hi2] at hw;rcases Int.lt_or_le (B3 t m (dp-x)) 0 with hl | hl
    ·exfalso;have:=Tg (ks.drop (i+1)) (B3 t m (dp-x)) (dp-x) hl;omega
    ·exact hl
   refine Ay (fr:=[]) [(1,1)] [] rfl (by simp) (JQ t m dp (IntKind.i64.wrap (x+1)) hi3 (by omega) hd0 hd1 (by omega) (by omega) (by rw [hx,hdx];exact hz)) ⟨⟨rfl,rfl,rfl⟩,trivial⟩ rfl rfl rfl rfl ?_;refine tg [] rfl (by simp) ?_;exact Ad (ih (i+1,B3 t m (dp-x)) (by simp only;omega) ⟨by simp only;omega,hi2,by simp only;exact hz,by simp only;omega⟩) ⟨As (B9 (by omega) (by omega)),rfl,rfl,rfl,rfl,trivial⟩ ⟨congrArg (λz=>Cn z dp) (by simp only [hx,hdx]),trivial⟩ rfl
  ·refine td [] rfl (by simp) ?_;simp at h;refine Cp ⟨_,rfl,rfl,⟨?_,trivial⟩⟩;rw [List.drop_eq_nil_of_le (by omega)] at hi2;simp only [BO] at hi2;rw [hi2];rfl
termination_by t=>SizeOf.sizeOf t
decreasing_by
 all_goals
  have:=List.sizeOf_lt_of_mem (List.mem_of_getElem? ht);simp_wf;omega
theorem V2:∀(t:Tm) (n dp x:Int),0<=n->n<=4611686018427387904->0<=dp->dp<=1000000->0<=x->x<=1000001->B3 t n (dp-x+1)<0->AV Tryz.prog 223 [.ref 1 0,.imm (.agg (C6 t)),.imm (.int .i64 x)] [(1,some (Cn n dp))] (.pan EU)
 | .mk op nn tx ks ps,n,dp,x,h0,h1,hd0,hd1,hx0,hx1,hw=>by
  refine Eb 1 rfl λhok=>?_;have hv:ks.length<=9223372036854775807:=by
   simp [Cf,Ey,C6,maxLen] at hok;have:=hok.1;omega
  refine Ae AH Tryz.func223 (by decide +kernel) rfl [2,3,4] rfl rfl ?_;have hst:¬(n<1\/dp-x+1<1)->B3 (.mk op nn tx ks ps) n (dp-x+1)=BO ks (n-1) (dp-x):=λh=>by
   simp only [B3];rw [if_neg h];congr 1;omega
  refine tg [] rfl (by simp) ?_;by_cases hs:n<1\/dp-x+1<1
  ·exact Az [(1,1)] rfl (by simp) (Pv n dp x (by omega) h1 (by omega)) ⟨⟨rfl,rfl,rfl⟩,trivial⟩ rfl rfl
  have hs':1<=n/\x<=dp:=by omega
  refine Ay (fr:=[]) [(1,1)] [] rfl (by simp) (Gn n dp x (by omega) h1 (by omega)) ⟨⟨rfl,rfl,rfl⟩,trivial⟩ rfl rfl rfl rfl ?_;refine tg [] rfl (by simp) ?_;refine Aj (λy:Nat×Int=>[(14,.imm (.int .i64 y.1)),(13,.imm (.int .i64 ks.length)),(12,.imm (.sl (KQ ks))),(0,.ref 1 0),(2,.imm (.int .i64 x))]) (λy=>[(1,some (Cn y.2 dp))]) [2,3,4] (λy=>ks.length-y.1)
   (λy=>y.1<=ks.length/\B3 (.mk op nn tx ks ps) n (dp-x+1)=BO (ks.drop y.1) y.2 (dp-x)/\0<=y.2/\y.2<=n) (0,n-1) ⟨Nat.zero_le _,by simp only [List.drop_zero];exact hst hs,by simp only;omega,by simp only;omega⟩ ⟨rfl,As (by simp),rfl,rfl,rfl,trivial⟩ ⟨rfl,trivial⟩ rfl λy hi ih=>?_
  obtain ⟨i,m⟩:=y;obtain ⟨hi1,hi2,hi3,hi4⟩:=hi;simp only at hi1 hi2 hi3 hi4;refine td [] rfl (by simp) ?_;refine Aa rfl (λh=>?_) (λh=>?_)
  ·simp at h;obtain ⟨t,ht⟩:=Am h;rw [Ao ht] at hi2;simp only [BO] at hi2;rw [if_pos hi3] at hi2;have hb:=Ig t m (dp-x);have hx:IntKind.i64.wrap (x+1)=x+1:=B9 (by omega) (by omega);refine td [] rfl (by simp) ?_;refine ti rfl (c:=C6 t) (λ_=>⟨by simp,by simpa using Ic ht,by simp⟩) (by simp) ?_;refine tg [] rfl (by simp) ?_;have hdx:dp-(x+1)+1=dp-x:=by omega
   by_cases hz:0<=B3 t m (dp-x)
   ·refine Ay (fr:=[]) [(1,1)] [] rfl (by simp) (JQ t m dp (IntKind.i64.wrap (x+1)) hi3 (by omega) hd0 hd1 (by omega) (by omega) (by rw [hx,hdx];exact hz)) ⟨⟨rfl,rfl,rfl⟩,trivial⟩ rfl rfl rfl rfl ?_;refine tg [] rfl (by simp) ?_;exact Ad (ih (i+1,B3 t m (dp-x)) (by simp only;omega) ⟨by simp only;omega,hi2,by simp only;exact hz,by simp only;omega⟩) ⟨As (B9 (by omega) (by omega)),rfl,rfl,rfl,rfl,trivial⟩ ⟨congrArg (λz=>Cn z dp) (by simp only [hx,hdx]),trivial⟩ rfl
   ·exact Az [(1,1)] rfl (by simp) (V2 t m dp (IntKind.i64.wrap (x+1)) hi3 (by omega) hd0 hd1 (by omega) (by omega) (by rw [hx,hdx];omega)) ⟨⟨rfl,rfl,rfl⟩,trivial⟩ rfl rfl
  ·exfalso;simp at h;rw [List.drop_eq_nil_of_le (by omega)] at hi2;simp only [BO] at hi2;omega
termination_by t=>SizeOf.sizeOf t
decreasing_by
 all_goals
  have:=List.sizeOf_lt_of_mem (List.mem_of_getElem? ht);simp_wf;omega
theorem XH {s:Str} {pos:Nat} {c:UInt8} (h:s[pos]?=some c) (hc:c.toNat<128):DE s pos=(c.toNat,1):=by
 have hg:(ByteArray.mk s.toArray).get! pos=c:=by simp [ByteArray.get!,h]
 simp only [DE,Utf8.decode,Nat.add_zero,hg];rw [if_pos hc]
theorem VQ {s:Str} {pos:Nat} {c:UInt8} (h:s[pos]?=some c) (hc:128<=c.toNat):128<=(DE s pos).1:=by
 have hg:(ByteArray.mk s.toArray).get! pos=c:=by simp [ByteArray.get!,h]
 simp only [DE,Utf8.decode,Nat.add_zero,hg,Utf8.runeError];rw [if_neg (by omega)]
 repeat' split
 all_goals first | (simp only;omega) | decide | (simp only [Bool.and_eq_true,decide_eq_true_eq] at *;omega)
theorem RH (s:Str):Al Tryz.prog 205 [.str s] (.bool (Ef s)):=by
 refine Ae AH Tryz.func205 (by decide +kernel) rfl [1,2] rfl rfl ?_;refine tg [] rfl (by simp) ?_;refine fN AH rfl ?_;refine tg [] rfl (by simp) ?_;refine Aj (λi:Nat=>[(6,.iter 1)]) (λi=>[(1,some (.siter s i))]) [2] (λi=>s.length-i) (λi=>i<=s.length/\Ef s=Ef (s.drop i)) 0
  ⟨Nat.zero_le _,rfl⟩ ⟨rfl,trivial⟩ ⟨rfl,trivial⟩ rfl λi hi ih=>?_
 refine td [] rfl (by simp) ?_;by_cases hl:i<s.length
 ·obtain ⟨c,hc⟩:=Am hl;have e:=hi.2;rw [N8 hc] at e;by_cases hlow:c.toNat<128
  ·refine YE rfl hl (XH hc hlow) ?_;refine tg [.a] rfl (by simp) ?_;refine Aa rfl (λh=>?_) (λh=>?_)
   ·refine td [] rfl (by simp) ?_;refine Ab ⟨_,rfl,tV (congrArg _ ?_),trivial⟩;rw [e];simp at h;simp [UInt8.le_iff_toNat_le];omega
   ·refine td [] rfl (by simp) ?_;refine Ad (ih (i+1) (by omega) ⟨by omega,?_⟩) ⟨rfl,trivial⟩ ⟨rfl,trivial⟩ rfl;rw [e];simp at h;simp [UInt8.le_iff_toNat_le];omega
  ·refine YE (dc:=DE s i) rfl hl rfl ?_;have hh:=VQ hc (by omega);refine tg [.a] rfl (by simp) ?_;refine Aa rfl (λh=>?_) (λh=>?_)
   ·refine td [] rfl (by simp) ?_;refine Ab ⟨_,rfl,tV (congrArg _ ?_),trivial⟩;rw [e];simp [UInt8.le_iff_toNat_le];omega
   ·exfalso;simp at h;omega
 ·refine jO rfl (by omega) ?_;refine tg [.a] rfl (by simp) ?_;refine Ab ⟨_,rfl,tV (congrArg _ ?_),trivial⟩;rw [hi.2,List.drop_eq_nil_of_le (by omega)];rfl
theorem Xf (s:Str) (h:TA s=false):Al Tryz.prog 206 [.str s] (.bool false):=by
 simp only [TA,HV,FN,Bool.or_eq_false_iff] at h;refine Ae AH Tryz.func206 (by decide +kernel) rfl [1,2] rfl rfl ?_;refine tg [.f,.f,.f,.f,.f,.f,.f,.f,.f,.f,.f,.f,.f,.f,.f,.f,.f,.f,.f,.f,.f,.f,.f,.f,.f,.f,.f,.f,.f] rfl (by simp at h;simp;grind) ?_;exact Ab ⟨_,rfl,tV rfl,trivial⟩
theorem aG:Al Tryz.prog 206 [.str [98,111,111,108]] (.bool true):=by
 refine Ae AH Tryz.func206 (by decide +kernel) rfl [1,2] rfl rfl ?_;refine tg [.a,.a] rfl (by simp) ?_;exact Ab ⟨_,rfl,tV rfl,trivial⟩
theorem aF:Al Tryz.prog 206 [.str [99,101,108,108]] (.bool true):=by
 refine Ae AH Tryz.func206 (by decide +kernel) rfl [1,2] rfl rfl ?_;refine tg [.a,.a,.a] rfl (by simp) ?_;exact Ab ⟨_,rfl,tV rfl,trivial⟩
theorem aE:Al Tryz.prog 206 [.str [99,104,97,110]] (.bool true):=by
 refine Ae AH Tryz.func206 (by decide +kernel) rfl [1,2] rfl rfl ?_;refine tg [.a,.a,.a,.a] rfl (by simp) ?_;exact Ab ⟨_,rfl,tV rfl,trivial⟩
theorem aD:Al Tryz.prog 206 [.str [101,108,115,101]] (.bool true):=by
 refine Ae AH Tryz.func206 (by decide +kernel) rfl [1,2] rfl rfl ?_;refine tg [.a,.a,.a,.a,.a] rfl (by simp) ?_;exact Ab ⟨_,rfl,tV rfl,trivial⟩
theorem aC:Al Tryz.prog 206 [.str [102,97,108,115,101]] (.bool true):=by
 refine Ae AH Tryz.func206 (by decide +kernel) rfl [1,2] rfl rfl ?_;refine tg [.a,.a,.a,.a,.a,.a] rfl (by simp) ?_;exact Ab ⟨_,rfl,tV rfl,trivial⟩
theorem aB:Al Tryz.prog 206 [.str [102,117,110]] (.bool true):=by
 refine Ae AH Tryz.func206 (by decide +kernel) rfl [1,2] rfl rfl ?_;refine tg [.a,.a,.a,.a,.a,.a,.a] rfl (by simp) ?_;exact Ab ⟨_,rfl,tV rfl,trivial⟩
theorem ZZ:Al Tryz.prog 206 [.str [103,101,116]] (.bool true):=by
 refine Ae AH Tryz.func206 (by decide +kernel) rfl [1,2] rfl rfl ?_;refine tg [.a,.a,.a,.a,.a,.a,.a,.a] rfl (by simp) ?_;exact Ab ⟨_,rfl,tV rfl,trivial⟩
theorem ZY:Al Tryz.prog 206 [.str [105,102]] (.bool true):=by
 refine Ae AH Tryz.func206 (by decide +kernel) rfl [1,2] rfl rfl ?_;refine tg [.a,.a,.a,.a,.a,.a,.a,.a,.a] rfl (by simp) ?_;exact Ab ⟨_,rfl,tV rfl,trivial⟩
theorem ZX:Al Tryz.prog 206 [.str [105,110]] (.bool true):=by
 refine Ae AH Tryz.func206 (by decide +kernel) rfl [1,2] rfl rfl ?_;refine tg [.a,.a,.a,.a,.a,.a,.a,.a,.a,.a] rfl (by simp) ?_;exact Ab ⟨_,rfl,tV rfl,trivial⟩
theorem ZW:Al Tryz.prog 206 [.str [105,110,112,117,116]] (.bool true):=by
 refine Ae AH Tryz.func206 (by decide +kernel) rfl [1,2] rfl rfl ?_;refine tg [.a,.a,.a,.a,.a,.a,.a,.a,.a,.a,.a] rfl (by simp) ?_;exact Ab ⟨_,rfl,tV rfl,trivial⟩
theorem Xx:Al Tryz.prog 206 [.str [105,110,116]] (.bool true):=by
 refine Ae AH Tryz.func206 (by decide +kernel) rfl [1,2] rfl rfl ?_;refine tg [.a,.a,.a,.a,.a,.a,.a,.a,.a,.a,.a,.a] rfl (by simp) ?_;exact Ab ⟨_,rfl,tV rfl,trivial⟩
theorem Xw:Al Tryz.prog 206 [.str [106,111,105,110]] (.bool true):=by
 refine Ae AH Tryz.func206 (by decide +kernel) rfl [1,2] rfl rfl ?_;refine tg [.a,.a,.a,.a,.a,.a,.a,.a,.a,.a,.a,.a,.a] rfl (by simp) ?_;exact Ab ⟨_,rfl,tV rfl,trivial⟩
theorem Xv:Al Tryz.prog 206 [.str [108,101,116]] (.bool true):=by
 refine Ae AH Tryz.func206 (by decide +kernel) rfl [1,2] rfl rfl ?_;refine tg [.a,.a,.a,.a,.a,.a,.a,.a,.a,.a,.a,.a,.a,.a] rfl (by simp) ?_;exact Ab ⟨_,rfl,tV rfl,trivial⟩
theorem Xu:Al Tryz.prog 206 [.str [109,97,116,99,104]] (.bool true):=by
 refine Ae AH Tryz.func206 (by decide +kernel) rfl [1,2] rfl rfl ?_;refine tg [.a,.a,.a,.a,.a,.a,.a,.a,.a,.a,.a,.a,.a,.a,.a] rfl (by simp) ?_;exact Ab ⟨_,rfl,tV rfl,trivial⟩
theorem Xt:Al Tryz.prog 206 [.str [109,111,100,117,108,101]] (.bool true):=by
 refine Ae AH Tryz.func206 (by decide +kernel) rfl [1,2] rfl rfl ?_;refine tg [.a,.a,.a,.a,.a,.a,.a,.a,.a,.a,.a,.a,.a,.a,.a,.a] rfl (by simp) ?_;exact Ab ⟨_,rfl,tV rfl,trivial⟩
theorem Xs:Al Tryz.prog 206 [.str [111,117,116]] (.bool true):=by
 refine Ae AH Tryz.func206 (by decide +kernel) rfl [1,2] rfl rfl ?_;refine tg [.a,.a,.a,.a,.a,.a,.a,.a,.a,.a,.a,.a,.a,.a,.a,.a,.a] rfl (by simp) ?_;exact Ab ⟨_,rfl,tV rfl,trivial⟩
theorem Xr:Al Tryz.prog 206 [.str [112,97,117,115,101]] (.bool true):=by
 refine Ae AH Tryz.func206 (by decide +kernel) rfl [1,2] rfl rfl ?_;refine tg [.a,.a,.a,.a,.a,.a,.a,.a,.a,.a,.a,.a,.a,.a,.a,.a,.a,.a] rfl (by simp) ?_;exact Ab ⟨_,rfl,tV rfl,trivial⟩
theorem Xq:Al Tryz.prog 206 [.str [112,117,116]] (.bool true):=by
 refine Ae AH Tryz.func206 (by decide +kernel) rfl [1,2] rfl rfl ?_;refine tg [.a,.a,.a,.a,.a,.a,.a,.a,.a,.a,.a,.a,.a,.a,.a,.a,.a,.a,.a] rfl (by simp) ?_;exact Ab ⟨_,rfl,tV rfl,trivial⟩
theorem Xp:Al Tryz.prog 206 [.str [114,101,115,101,116]] (.bool true):=by
 refine Ae AH Tryz.func206 (by decide +kernel) rfl [1,2] rfl rfl ?_;refine tg [.a,.a,.a,.a,.a,.a,.a,.a,.a,.a,.a,.a,.a,.a,.a,.a,.a,.a,.a,.a] rfl (by simp) ?_;exact Ab ⟨_,rfl,tV rfl,trivial⟩
theorem Xo:Al Tryz.prog 206 [.str [115,101,110,100]] (.bool true):=by
 refine Ae AH Tryz.func206 (by decide +kernel) rfl [1,2] rfl rfl ?_;refine tg [.a,.a,.a,.a,.a,.a,.a,.a,.a,.a,.a,.a,.a,.a,.a,.a,.a,.a,.a,.a,.a] rfl (by simp) ?_;exact Ab ⟨_,rfl,tV rfl,trivial⟩
theorem Xn:Al Tryz.prog 206 [.str [115,104,105,102,116]] (.bool true):=by
 refine Ae AH Tryz.func206 (by decide +kernel) rfl [1,2] rfl rfl ?_;refine tg [.a,.a,.a,.a,.a,.a,.a,.a,.a,.a,.a,.a,.a,.a,.a,.a,.a,.a,.a,.a,.a,.a] rfl (by simp) ?_;exact Ab ⟨_,rfl,tV rfl,trivial⟩
theorem Xm:Al Tryz.prog 206 [.str [115,112,97,119,110]] (.bool true):=by
 refine Ae AH Tryz.func206 (by decide +kernel) rfl [1,2] rfl rfl ?_;refine tg [.a,.a,.a,.a,.a,.a,.a,.a,.a,.a,.a,.a,.a,.a,.a,.a,.a,.a,.a,.a,.a,.a,.a] rfl (by simp) ?_;exact Ab ⟨_,rfl,tV rfl,trivial⟩
theorem Xl:Al Tryz.prog 206 [.str [116,97,107,101]] (.bool true):=by
 refine Ae AH Tryz.func206 (by decide +kernel) rfl [1,2] rfl rfl ?_;refine tg [.a,.a,.a,.a,.a,.a,.a,.a,.a,.a,.a,.a,.a,.a,.a,.a,.a,.a,.a,.a,.a,.a,.a,.a] rfl (by simp) ?_;exact Ab ⟨_,rfl,tV rfl,trivial⟩
theorem Xk:Al Tryz.prog 206 [.str [116,97,115,107]] (.bool true):=by
 refine Ae AH Tryz.func206 (by decide +kernel) rfl [1,2] rfl rfl ?_;refine tg [.a,.a,.a,.a,.a,.a,.a,.a,.a,.a,.a,.a,.a,.a,.a,.a,.a,.a,.a,.a,.a,.a,.a,.a,.a] rfl (by simp) ?_;exact Ab ⟨_,rfl,tV rfl,trivial⟩
theorem Xj:Al Tryz.prog 206 [.str [116,104,101,110]] (.bool true):=by
 refine Ae AH Tryz.func206 (by decide +kernel) rfl [1,2] rfl rfl ?_;refine tg [.a,.a,.a,.a,.a,.a,.a,.a,.a,.a,.a,.a,.a,.a,.a,.a,.a,.a,.a,.a,.a,.a,.a,.a,.a,.a] rfl (by simp) ?_;exact Ab ⟨_,rfl,tV rfl,trivial⟩
theorem Xi:Al Tryz.prog 206 [.str [116,114,117,101]] (.bool true):=by
 refine Ae AH Tryz.func206 (by decide +kernel) rfl [1,2] rfl rfl ?_;refine tg [.a,.a,.a,.a,.a,.a,.a,.a,.a,.a,.a,.a,.a,.a,.a,.a,.a,.a,.a,.a,.a,.a,.a,.a,.a,.a,.a] rfl (by simp) ?_;exact Ab ⟨_,rfl,tV rfl,trivial⟩
theorem Xh:Al Tryz.prog 206 [.str [116,121,112,101]] (.bool true):=by
 refine Ae AH Tryz.func206 (by decide +kernel) rfl [1,2] rfl rfl ?_;refine tg [.a,.a,.a,.a,.a,.a,.a,.a,.a,.a,.a,.a,.a,.a,.a,.a,.a,.a,.a,.a,.a,.a,.a,.a,.a,.a,.a,.a] rfl (by simp) ?_;exact Ab ⟨_,rfl,tV rfl,trivial⟩
theorem Xg:Al Tryz.prog 206 [.str [117,110,105,116]] (.bool true):=by
 refine Ae AH Tryz.func206 (by decide +kernel) rfl [1,2] rfl rfl ?_;refine tg [.a,.a,.a,.a,.a,.a,.a,.a,.a,.a,.a,.a,.a,.a,.a,.a,.a,.a,.a,.a,.a,.a,.a,.a,.a,.a,.a,.a,.a] rfl (by simp) ?_;exact Ab ⟨_,rfl,tV rfl,trivial⟩
theorem Xe (s:Str):Al Tryz.prog 206 [.str s] (.bool (TA s)):=by
 cases h:TA s with
 | false=>exact Xf s h
 | true =>
  simp only [TA,HV,FN,Bool.or_eq_true,beq_iff_eq,Bool.or_false] at h;rcases h with rfl | rfl | rfl | rfl | rfl | rfl | rfl | rfl | rfl | rfl | rfl | rfl | rfl | rfl | rfl | rfl | rfl | rfl | rfl | rfl | rfl | rfl | rfl | rfl | rfl | rfl | rfl | rfl
  ·exact aG
  ·exact aF
  ·exact aE
  ·exact aD
  ·exact aC
  ·exact aB
  ·exact ZZ
  ·exact ZY
  ·exact ZX
  ·exact ZW
  ·exact Xx
  ·exact Xw
  ·exact Xv
  ·exact Xu
  ·exact Xt
  ·exact Xs
  ·exact Xr
  ·exact Xq
  ·exact Xp
  ·exact Xo
  ·exact Xn
  ·exact Xm
  ·exact Xl
  ·exact Xk
  ·exact Xj
  ·exact Xi
  ·exact Xh
  ·exact Xg
theorem Gv (s:Str):Al Tryz.prog 182 [.str s] (.bool (Ep s)):=by
 refine Ae AH Tryz.func182 (by decide +kernel) rfl [1,2] rfl rfl ?_;refine tg [] rfl (by simp) ?_;refine Ac rfl (v:=.bool (Ef s)) (λh=>RH s) (by simp [Ag]) ?_;refine tg [] rfl (by simp) ?_;refine Ac rfl (v:=.bool (TA s)) (λh=>Xe s) (by simp [Ag]) ?_;refine tg [] rfl (by simp) ?_;refine Ab ⟨_,rfl,tV (congrArg _ ?_),trivial⟩;cases s with
 | nil=>simp [Ep]
 | cons a r=>simp [Ep];norm_cast;simp
theorem Dp (s:Str):Al Tryz.prog 193 [.str s] (.bool (CM s)):=by
 refine Ae AH Tryz.func193 (by decide +kernel) rfl [1,2] rfl rfl ?_;refine tg [] rfl (by cases s with | nil=>simp [Ag] | cons a r=>simp [Ag];omega) ?_;refine Ac rfl (v:=.bool (Ef (s.drop 1))) (λh=>RH _) (by simp [Ag]) ?_;refine tg [] rfl (by simp) ?_;refine Ab ⟨_,rfl,tV (congrArg _ ?_),trivial⟩;cases s with
 | nil=>simp [CM]
 | cons a r=>simp [CM,UInt8.le_iff_toNat_le,Bool.and_assoc];norm_cast;simp
def Cz (n:Int):Bool:=decide (-1000000000<=n)&&decide (n<=1000000000)
theorem I4 (n:Int):Al Tryz.prog 192 [.int .i64 n] (.bool (Cz n)):=by
 refine Ae AH Tryz.func192 (by decide +kernel) rfl [1,2] rfl rfl ?_;refine tg [] rfl (by simp) ?_;refine Ab ⟨_,rfl,tV (congrArg _ ?_),trivial⟩;simp [Cz]
def Hd:D:=.imm (.tup [])
theorem K2 (holes:Bool):∀(t:Ty),CA holes t=true->AV Tryz.prog 188 [.imm (.agg (dTyc t)),.imm (.bool holes)] [] (.ret Hd [])
 | .mk s n x ps,hy=>by
  refine Eb 0 rfl λhok=>?_;have hv:ps.length<=9223372036854775807:=by
   simp [Cf,Ey,dTyc,maxLen] at hok;have:=hok.1;omega
  simp only [CA,Bool.and_eq_true_iff] at hy;refine Ae AH Tryz.func188 (by decide +kernel) rfl [1,2,3] rfl rfl ?_;have J:∀p:Nat,BQ holes s n x ps.length=(((ps.length:Int) == (p:Int))&&(s == 9||n == 0)&&(s == 8||x == []))->DGo Tryz.prog Tryz.f188.ntmps (DP []) (Nm lW Tryz.f188.results.toList (.ret Hd []))
    [.code (F9 Tryz.f188 3)] [(4,.imm (.int .i64 p)),(1,.imm (.bool holes)),(2,.ref 1 0)] [(1,some (.immb 26 4 (dTyc (.mk s n x ps))))] [2,3]:=by
   intro p hp;have hc:(((ps.length:Int) == (p:Int))&&(s == 9||n == 0)&&(s == 8||x == []))=true:=by rw [<- hp];exact hy.1
   refine td [] rfl (by simp [Ag];grind) ?_;refine Ac rfl (λ_=>Bx _ ?_) (by simp) ?_
   ·simp at hc ⊢;grind
   refine tg [] rfl (by simp) ?_;refine Aj (λi:Nat=>[(69,.imm (.int .i64 i)),(68,.imm (.int .i64 ps.length)),(67,.imm (.sl (AT ps))),(1,.imm (.bool holes)),(2,.ref 1 0)]) (λ_=>[(1,some (.immb 26 4 (dTyc (.mk s n x ps))))]) [2,3] (λi=>ps.length-i)
    (λi=>i<=ps.length/\CE holes (ps.drop i)=true) 0 ⟨Nat.zero_le _,hy.2⟩ ⟨rfl,As (by simp),rfl,rfl,rfl,trivial⟩ ⟨rfl,trivial⟩ rfl λi hi ih=>?_
   refine td [] rfl (by simp) ?_;have hi2:=hi.2;refine Aa rfl (λh=>?_) (λh=>?_)
   ·simp at h;obtain ⟨t,ht⟩:=Am h;rw [Ao ht] at hi2;simp only [CE,Bool.and_eq_true_iff] at hi2;refine td [] rfl (by simp) ?_;refine ti rfl (c:=dTyc t) (λ_=>⟨by simp,by simpa using Ax ht,by simp⟩) (by simp) ?_;refine tg [] rfl (by simp) ?_;refine Ay (fr:=[]) [] [] rfl (by simp) (K2 holes t hi2.1) trivial rfl rfl rfl rfl ?_;refine tg [] rfl (by simp) ?_;exact Ad (ih (i+1) (by omega) ⟨by omega,hi2.2⟩) ⟨As (B9 (by omega) (by omega)),rfl,rfl,rfl,rfl,trivial⟩ ⟨rfl,trivial⟩ rfl
   ·refine td [] rfl (by simp) ?_;exact Cp ⟨_,rfl,rfl,trivial⟩
  by_cases h1:s=1
  ·subst h1;refine tg [.a,.a,.s] rfl (by simp) ?_;exact Ad (J 0 (by simp [BQ])) ⟨rfl,rfl,rfl,trivial⟩ ⟨rfl,trivial⟩ rfl
  by_cases h2:s=2
  ·subst h2;refine tg [.a,.a,.a,.s] rfl (by simp) ?_;exact Ad (J 0 (by simp [BQ])) ⟨rfl,rfl,rfl,trivial⟩ ⟨rfl,trivial⟩ rfl
  by_cases h3:s=3
  ·subst h3;refine tg [.a,.a,.a,.s] rfl (by simp) ?_;exact Ad (J 0 (by simp [BQ])) ⟨rfl,rfl,rfl,trivial⟩ ⟨rfl,trivial⟩ rfl
  by_cases h4:s=4
  ·subst h4;refine tg [.a,.a,.a,.a,.s] rfl (by simp) ?_;exact Ad (J 2 (by simp [BQ])) ⟨rfl,rfl,rfl,trivial⟩ ⟨rfl,trivial⟩ rfl
  by_cases h5:s=5
  ·subst h5;refine tg [.a,.a,.a,.a,.a,.a,.s] rfl (by simp) ?_;exact Ad (J 1 (by simp [BQ])) ⟨rfl,rfl,rfl,trivial⟩ ⟨rfl,trivial⟩ rfl
  by_cases h6:s=6
  ·subst h6;refine tg [.a,.a,.a,.a,.a,.a,.a,.s] rfl (by simp) ?_;exact Ad (J 1 (by simp [BQ])) ⟨rfl,rfl,rfl,trivial⟩ ⟨rfl,trivial⟩ rfl
  by_cases h7:s=7
  ·subst h7;refine tg [.a,.a,.a,.a,.a,.a,.a,.s] rfl (by simp) ?_;exact Ad (J 1 (by simp [BQ])) ⟨rfl,rfl,rfl,trivial⟩ ⟨rfl,trivial⟩ rfl
  by_cases h8:s=8
  ·subst h8;by_cases hg:CM x=true
   ·refine tg [.a,.a,.a,.a,.a,.a,.a,.a] rfl (by simp [Ag]) ?_;refine Ac rfl (λ_=>Dp x) (by simp) ?_;refine tg [] rfl (by simp) ?_;refine Ac rfl (λ_=>Bx _ hg) (by simp) ?_;refine tg [.s] rfl (by simp) ?_;exact Ad (J 0 (by simp [BQ,hg])) ⟨rfl,rfl,rfl,trivial⟩ ⟨rfl,trivial⟩ rfl
   ·exfalso;have:=hy.1;simp [BQ] at this;simp at hg;grind
  by_cases h9:s=9
  ·subst h9;by_cases hg:(holes&&Fp n 0 99)=true
   ·refine tg [.a,.a,.a,.a,.a,.a,.a,.a,.a] rfl (by simp [Ag]) ?_;refine Ac rfl (λ_=>Bx _ (by simp [Fp] at hg ⊢;grind)) (by simp) ?_;refine tg [.s] rfl (by simp) ?_;exact Ad (J 0 (by simp [BQ,Fp] at hg ⊢;grind)) ⟨rfl,rfl,rfl,trivial⟩ ⟨rfl,trivial⟩ rfl
   ·exfalso;have:=hy.1;simp [BQ] at this;simp at hg;grind
  exfalso;have:=hy.1;simp [BQ,h1,h2,h3,h4,h5,h6,h7,h8,h9] at this
termination_by t=>SizeOf.sizeOf t
decreasing_by
 all_goals
  have:=List.sizeOf_lt_of_mem (List.mem_of_getElem? ht);simp_wf;omega
theorem RG (holes:Bool):∀(t:Ty),CA holes t=false->AV Tryz.prog 188 [.imm (.agg (dTyc t)),.imm (.bool holes)] [] (.pan EU)
 | .mk s n x ps,hy=>by
  refine Eb 0 rfl λhok=>?_;have hv:ps.length<=9223372036854775807:=by
   simp [Cf,Ey,dTyc,maxLen] at hok;have:=hok.1;omega
  simp only [CA,Bool.and_eq_false_iff] at hy;refine Ae AH Tryz.func188 (by decide +kernel) rfl [1,2,3] rfl rfl ?_;have J:∀p:Nat,BQ holes s n x ps.length=(((ps.length:Int) == (p:Int))&&(s == 9||n == 0)&&(s == 8||x == []))->DGo Tryz.prog Tryz.f188.ntmps (DP []) (Nm lW Tryz.f188.results.toList (.pan EU))
    [.code (F9 Tryz.f188 3)] [(4,.imm (.int .i64 p)),(1,.imm (.bool holes)),(2,.ref 1 0)] [(1,some (.immb 26 4 (dTyc (.mk s n x ps))))] [2,3]:=by
   intro p hp;by_cases hc:(((ps.length:Int) == (p:Int))&&(s == 9||n == 0)&&(s == 8||x == []))=true
   rotate_left
   ·refine td [] rfl (by simp [Ag];grind) ?_;exact Az [] rfl (by simp) (BP _ (by simp at hc ⊢;grind)) trivial rfl rfl
   rw [hp,hc] at hy;simp only [Bool.true_eq_false,false_or] at hy;refine td [] rfl (by simp [Ag];grind) ?_;refine Ac rfl (λ_=>Bx _ ?_) (by simp) ?_
   ·simp at hc ⊢;grind
   refine tg [] rfl (by simp) ?_;refine Aj (λi:Nat=>[(69,.imm (.int .i64 i)),(68,.imm (.int .i64 ps.length)),(67,.imm (.sl (AT ps))),(1,.imm (.bool holes)),(2,.ref 1 0)]) (λ_=>[(1,some (.immb 26 4 (dTyc (.mk s n x ps))))]) [2,3] (λi=>ps.length-i)
    (λi=>i<=ps.length/\CE holes (ps.drop i)=false) 0 ⟨Nat.zero_le _,hy⟩ ⟨rfl,As (by simp),rfl,rfl,rfl,trivial⟩ ⟨rfl,trivial⟩ rfl λi hi ih=>?_
   refine td [] rfl (by simp) ?_;have hi2:=hi.2;refine Aa rfl (λh=>?_) (λh=>?_)
   ·simp at h;obtain ⟨t,ht⟩:=Am h;rw [Ao ht] at hi2;simp only [CE,Bool.and_eq_false_iff] at hi2;refine td [] rfl (by simp) ?_;refine ti rfl (c:=dTyc t) (λ_=>⟨by simp,by simpa using Ax ht,by simp⟩) (by simp) ?_;refine tg [] rfl (by simp) ?_;by_cases hz:CA holes t=true
    ·refine Ay (fr:=[]) [] [] rfl (by simp) (K2 holes t hz) trivial rfl rfl rfl rfl ?_;refine tg [] rfl (by simp) ?_;exact Ad (ih (i+1) (by omega) ⟨by omega,by rw [hz] at hi2;simpa using hi2⟩) ⟨As (B9 (by omega) (by omega)),rfl,rfl,rfl,rfl,trivial⟩ ⟨rfl,trivial⟩ rfl
    ·exact Az [] rfl (by simp) (RG holes t (by simpa using hz)) trivial rfl rfl
   ·exfalso;simp at h;rw [List.drop_eq_nil_of_le (by omega)] at hi2;simp [CE] at hi2
  by_cases h1:s=1
  ·subst h1;refine tg [.a,.a,.s] rfl (by simp) ?_;exact Ad (J 0 (by simp [BQ])) ⟨rfl,rfl,rfl,trivial⟩ ⟨rfl,trivial⟩ rfl
  by_cases h2:s=2
  ·subst h2;refine tg [.a,.a,.a,.s] rfl (by simp) ?_;exact Ad (J 0 (by simp [BQ])) ⟨rfl,rfl,rfl,trivial⟩ ⟨rfl,trivial⟩ rfl
  by_cases h3:s=3
  ·subst h3;refine tg [.a,.a,.a,.s] rfl (by simp) ?_;exact Ad (J 0 (by simp [BQ])) ⟨rfl,rfl,rfl,trivial⟩ ⟨rfl,trivial⟩ rfl
  by_cases h4:s=4
  ·subst h4;refine tg [.a,.a,.a,.a,.s] rfl (by simp) ?_;exact Ad (J 2 (by simp [BQ])) ⟨rfl,rfl,rfl,trivial⟩ ⟨rfl,trivial⟩ rfl
  by_cases h5:s=5
  ·subst h5;refine tg [.a,.a,.a,.a,.a,.a,.s] rfl (by simp) ?_;exact Ad (J 1 (by simp [BQ])) ⟨rfl,rfl,rfl,trivial⟩ ⟨rfl,trivial⟩ rfl
  by_cases h6:s=6
  ·subst h6;refine tg [.a,.a,.a,.a,.a,.a,.a,.s] rfl (by simp) ?_;exact Ad (J 1 (by simp [BQ])) ⟨rfl,rfl,rfl,trivial⟩ ⟨rfl,trivial⟩ rfl
  by_cases h7:s=7
  ·subst h7;refine tg [.a,.a,.a,.a,.a,.a,.a,.s] rfl (by simp) ?_;exact Ad (J 1 (by simp [BQ])) ⟨rfl,rfl,rfl,trivial⟩ ⟨rfl,trivial⟩ rfl
  by_cases h8:s=8
  ·subst h8;by_cases hg:CM x=true
   ·refine tg [.a,.a,.a,.a,.a,.a,.a,.a] rfl (by simp [Ag]) ?_;refine Ac rfl (λ_=>Dp x) (by simp) ?_;refine tg [] rfl (by simp) ?_;refine Ac rfl (λ_=>Bx _ hg) (by simp) ?_;refine tg [.s] rfl (by simp) ?_;exact Ad (J 0 (by simp [BQ,hg])) ⟨rfl,rfl,rfl,trivial⟩ ⟨rfl,trivial⟩ rfl
   ·refine tg [.a,.a,.a,.a,.a,.a,.a,.a] rfl (by simp [Ag]) ?_;refine Ac rfl (λ_=>Dp x) (by simp) ?_;refine tg [] rfl (by simp) ?_;exact Az [] rfl (by simp) (BP _ (by simpa using hg)) trivial rfl rfl
  by_cases h9:s=9
  ·subst h9;by_cases hg:(holes&&Fp n 0 99)=true
   ·refine tg [.a,.a,.a,.a,.a,.a,.a,.a,.a] rfl (by simp [Ag]) ?_;refine Ac rfl (λ_=>Bx _ (by simp [Fp] at hg ⊢;grind)) (by simp) ?_;refine tg [.s] rfl (by simp) ?_;exact Ad (J 0 (by simp [BQ,Fp] at hg ⊢;grind)) ⟨rfl,rfl,rfl,trivial⟩ ⟨rfl,trivial⟩ rfl
   ·refine tg [.a,.a,.a,.a,.a,.a,.a,.a,.a] rfl (by simp [Ag]) ?_;exact Az [] rfl (by simp) (BP _ (by simp [Fp] at hg ⊢;grind)) trivial rfl rfl
  refine tg [.f,.f,.f,.f,.f,.f,.f,.f,.f] rfl (by simp [h1,h2,h3,h4,h5,h6,h7,h8,h9]) ?_;exact Az [] rfl (by simp) (BP _ rfl) trivial rfl rfl
termination_by t=>SizeOf.sizeOf t
decreasing_by
 all_goals
  have:=List.sizeOf_lt_of_mem (List.mem_of_getElem? ht);simp_wf;omega
theorem hmf:∀(fn:Fn) (first cap:Array Value) (w:World),(Instr.makeFunc fn first cap).run Tryz.prog w = .ok (.func fn first cap) w:=λ_ _ _ _=>rfl
theorem V0 (p:Addr) (w:World) :
  CallsD Tryz.prog 214 #[.pointer (some p)] .returning w λe u' w'=>e = .returned (.tuple #[])/\u' = .returning/\w'=w:=by
 refine callsD_of_wpS Tryz.func214 rfl λc₀ cs hu=>?_;apply wpS_seq;apply wpS_region;simp [wpOpsS,go_sem,recoverD,hu,Tryz.ntmps214,Exit.thenS];apply wpS_seq;apply wpS_region;simp [wpOpsS,go_sem,Exit.thenS];refine wpS_cond (t:=false) (by simp [Act.eval,Array.replicate]) ?_;simp only [if_false,Bool.false_eq_true];refine wpS_of_wp (wp_skip ?_);cases c₀;simp_all [bodyPostS,results,Tryz.results214]
theorem V1 (pb:Nat) (x:Value) (w:World) (hpb:pb<w.heap.size) (hx:w.cell? ⟨pb,0,none⟩=some x) (hz:w.frozen? ⟨pb,0,none⟩=false) :
  CallsD Tryz.prog 214 #[.pointer (some ⟨pb,0,none⟩)] (.panicking [{ v:=.iface 281 (.agg #[]),recovered:=false }]) w λe u' w'=>e = .returned (.tuple #[]) /\
   u' = .panicking [{ v:=.iface 281 (.agg #[]),recovered:=true }]/\w'=(w.setCell ⟨pb,0,none⟩ (.bool false)).alloc (.cells #[] 281):=by
 refine callsD_of_wpS Tryz.func214 rfl λc₀ cs hu=>?_;change Code.wpS _ _ _ { tmps:=#[.pointer (some ⟨pb,0,none⟩),undef,undef,undef,undef,undef,undef,undef,undef,undef,undef,undef,undef,undef,undef],defers:=[] } _ _;apply wpS_seq;apply wpS_region;simp [wpOpsS,go_sem,recoverD,hu,Tryz.ntmps214,Exit.thenS];apply wpS_seq;apply wpS_region;simp [wpOpsS,go_sem,Exit.thenS];refine wpS_cond (t:=true) (by simp [Act.eval,Array.replicate]) ?_;simp only [if_true];refine wpS_of_wp ?_;clear hu;have hta:∀w:World,(Instr.typeAssert (.iface 281 (.agg #[])) 20 281 true).run Tryz.prog w = .ok (.tuple #[.agg #[],.bool true]) w:=λ_=>by kernel_rfl
 have hx':(w.alloc (.cells #[] 281)).cell? ⟨pb,0,none⟩=some x:=by rw [World.cell?_alloc_past _ _ _ hpb];exact hx
 have hz':(w.alloc (.cells #[] 281)).frozen? ⟨pb,0,none⟩=false:=by rw [RowKit.frozen?_alloc_cells];exact hz
 go_wp2
 simp [bodyPostS,results,Tryz.results214]
theorem Vy (g:FuncId) (fi ca:Array Value) (w:World) (K:World->Prop) (Kp:World->Prop)
  (hen:(callFunc g (fi++ca)).run Tryz.prog (w.alloc (.cells #[.bool false] 4)) = .ok (.enter g (fi++ca)) (w.alloc (.cells #[.bool false] 4)))
  (hcall:Calls Tryz.prog g (fi++ca) (w.alloc (.cells #[.bool false] 4)) λe w'=>match e with
   | .returned _=>K w'
   | .panicked chain=>chain=[{ v:=.iface 281 (.agg #[]),recovered:=false }]/\Kp w'
   | .outgrown=>False)
  (hK:∀w',K w'->w'.heap[w.heap.size]?=some (.cells #[.bool false] 4 (0,0))) (hKp:∀w',Kp w'->w'.heap[w.heap.size]?=some (.cells #[.bool false] 4 (0,0))) :
  Calls Tryz.prog 189 #[.func (.func g) fi ca] w λe w'=>(e = .returned (.bool true)/\∃w1,K w1/\w'=w1.setCell ⟨w.heap.size,0,none⟩ (.bool true)) \/
   (e = .returned (.bool false)/\∃w1,Kp w1/\w'=(w1.setCell ⟨w.heap.size,0,none⟩ (.bool false)).alloc (.cells #[] 281)):=by
 go_enter_defers Tryz.func189,Tryz.ntmps189
 have hmf:=hmf
 go_wp2_with fail
 clear hen;refine hcall.mono ?_;intro e w' he;cases e with
 | outgrown=>exact he.elim
 | returned v =>
  have hc:w'.cell? ⟨w.heap.size,0,none⟩=some (.bool false):=by unfold World.cell?;simp [hK w' he]
  have hz:w'.frozen? ⟨w.heap.size,0,none⟩=false:=by unfold World.frozen?;simp [hK w' he]
  simp only
  go_wp2
  refine leaves_cons (f:=214) (args:=#[.pointer (some ⟨w.heap.size,0,none⟩)]) (by simp) (by simp [go_sem]) ?_;refine (V0 ⟨w.heap.size,0,none⟩ _).mono ?_;rintro e u' w'' ⟨rfl,rfl,rfl⟩;simp [Leaves,settle,results,Tryz.results189,go_sem,hc];exact ⟨w',he,rfl⟩
 | panicked chain =>
  obtain ⟨rfl,he⟩:=he;have hc:w'.cell? ⟨w.heap.size,0,none⟩=some (.bool false):=by unfold World.cell?;simp [hKp w' he]
  have hz:w'.frozen? ⟨w.heap.size,0,none⟩=false:=by unfold World.frozen?;simp [hKp w' he]
  have hlt:w.heap.size<w'.heap.size:=(Array.getElem?_eq_some_iff.1 (hKp w' he)).1;refine leaves_cons (f:=214) (args:=#[.pointer (some ⟨w.heap.size,0,none⟩)]) (by simp) (by simp [go_sem]) ?_;refine (V1 w.heap.size _ _ hlt hc hz).mono ?_;rintro e u' w'' ⟨rfl,rfl,rfl⟩;have hc2:((w'.setCell ⟨w.heap.size,0,none⟩ (.bool false)).alloc (.cells #[] 281)).cell? ⟨w.heap.size,0,none⟩=some (.bool false):=by
   rw [H5 (hKp w' he),World.cell?_alloc_past _ _ _ (by simpa using hlt)];unfold World.cell?;simp [hlt]
  simp [Leaves,settle,results,Tryz.results189,go_sem,hc2];exact ⟨w',he,rfl⟩
theorem I7:Nr Tryz.prog 189 281 4:=λg fi ca w K Kp h1 h2 h3 h4=>Vy g fi ca w K Kp h1 h2 h3 h4
theorem LY {g : FuncId} {fg : Func} {cg : Code} (hg : Tryz.prog.funcs[g]? = some fg) (hn : (fg.name == "runtime.NumGoroutine") = false) (hc : fg.body = some cg) {t1 : TypeId} {s1 : Nat} {x1 y1 : List V} (hE : AV Tryz.prog g [.ref 1 0] [(1, some (.immb t1 s1 x1))] (.ret Hd [(1, some (.immb t1 s1 y1))])) :
  AV Tryz.prog 146 [.fn (.func g) [] [.ref 1 0]] [(1,some (.immb t1 s1 x1))] (.ret (.imm (.int .i64 0)) [(1,some (.immb t1 s1 y1))]):=by
 refine Ae AH Tryz.func146 (by decide +kernel) rfl [2,3,4] rfl rfl ?_;refine tg [] rfl (by simp) ?_;refine Ay (fr:=[]) [(1,1)] [] rfl (by simp) (S8 Tryz.func189 (by decide +kernel) rfl I7 hg hn hc hE) ⟨⟨rfl,rfl,rfl⟩,trivial⟩ rfl rfl rfl rfl ?_;refine tg [.a] rfl (by simp) ?_;exact Ab ⟨_,rfl,tV rfl,⟨rfl,trivial⟩⟩
theorem Oi {g : FuncId} {fg : Func} {cg : Code} (hg : Tryz.prog.funcs[g]? = some fg) (hn : (fg.name == "runtime.NumGoroutine") = false) (hc : fg.body = some cg) {t1 : TypeId} {s1 : Nat} {x1 : List V} (hE : AV Tryz.prog g [.ref 1 0] [(1, some (.immb t1 s1 x1))] (.pan EU)) :
  AV Tryz.prog 146 [.fn (.func g) [] [.ref 1 0]] [(1,some (.immb t1 s1 x1))] (.ret (.imm (.int .i64 2)) []):=by
 refine Ae AH Tryz.func146 (by decide +kernel) rfl [2,3,4] rfl rfl ?_;refine tg [] rfl (by simp) ?_;refine Ay (fr:=[]) [(1,1)] [] rfl (by simp) (Vx Tryz.func189 (by decide +kernel) rfl I7 hg hn hc hE) ⟨⟨rfl,rfl,rfl⟩,trivial⟩ rfl rfl rfl rfl ?_;refine tg [.a] rfl (by simp) ?_;exact Ab ⟨_,rfl,tV rfl,trivial⟩
theorem TO {g : FuncId} {fg : Func} {cg : Code} (hg : Tryz.prog.funcs[g]? = some fg) (hn : (fg.name == "runtime.NumGoroutine") = false) (hc : fg.body = some cg) {t1 t2 : TypeId} {s1 s2 : Nat} {x1 x2 y1 y2 : List V} (hE : AV Tryz.prog g [.ref 1 0, .ref 2 0] [(1, some (.immb t1 s1 x1)), (2, some (.immb t2 s2 x2))] (.ret Hd [(1, some (.immb t1 s1 y1)), (2, some (.immb t2 s2 y2))])) :
  AV Tryz.prog 146 [.fn (.func g) [] [.ref 1 0,.ref 2 0]] [(1,some (.immb t1 s1 x1)),(2,some (.immb t2 s2 x2))] (.ret (.imm (.int .i64 0)) [(1,some (.immb t1 s1 y1)),(2,some (.immb t2 s2 y2))]):=by
 refine Ae AH Tryz.func146 (by decide +kernel) rfl [3,4,5] rfl rfl ?_;refine tg [] rfl (by simp) ?_;refine Ay (fr:=[]) [(1,1),(2,2)] [] rfl (by simp) (S8 Tryz.func189 (by decide +kernel) rfl I7 hg hn hc hE) ⟨⟨rfl,rfl,rfl⟩,⟨⟨rfl,rfl,rfl⟩,trivial⟩⟩ rfl rfl rfl rfl ?_;refine tg [.a] rfl (by simp) ?_;exact Ab ⟨_,rfl,tV rfl,⟨rfl,⟨rfl,trivial⟩⟩⟩
theorem Wf {g : FuncId} {fg : Func} {cg : Code} (hg : Tryz.prog.funcs[g]? = some fg) (hn : (fg.name == "runtime.NumGoroutine") = false) (hc : fg.body = some cg) {t1 t2 : TypeId} {s1 s2 : Nat} {x1 x2 : List V} (hE : AV Tryz.prog g [.ref 1 0, .ref 2 0] [(1, some (.immb t1 s1 x1)), (2, some (.immb t2 s2 x2))] (.pan EU)) :
  AV Tryz.prog 146 [.fn (.func g) [] [.ref 1 0,.ref 2 0]] [(1,some (.immb t1 s1 x1)),(2,some (.immb t2 s2 x2))] (.ret (.imm (.int .i64 2)) []):=by
 refine Ae AH Tryz.func146 (by decide +kernel) rfl [3,4,5] rfl rfl ?_;refine tg [] rfl (by simp) ?_;refine Ay (fr:=[]) [(1,1),(2,2)] [] rfl (by simp) (Vx Tryz.func189 (by decide +kernel) rfl I7 hg hn hc hE) ⟨⟨rfl,rfl,rfl⟩,⟨⟨rfl,rfl,rfl⟩,trivial⟩⟩ rfl rfl rfl rfl ?_;refine tg [.a] rfl (by simp) ?_;exact Ab ⟨_,rfl,tV rfl,trivial⟩
def Jv (b:Bool):V:=.int .i64 (bif b then 0 else 2)
def BM (holes:Bool) (t:Ty):Bool:=decide (Ai t<=12)&&CA holes t
theorem V8 (t:Ty) (holes:Bool) (h:BM holes t=true):AV Tryz.prog 186 [.ref 1 0,.ref 2 0] [(1,some (.immb 26 4 (dTyc t))),(2,some (.immb 4 1 [.bool holes]))] (.ret Hd [(1,some (.immb 26 4 (dTyc t))),(2,some (.immb 4 1 [.bool holes]))]):=by
 simp only [BM,Bool.and_eq_true,decide_eq_true_eq] at h;refine Ae AH Tryz.func186 (by decide +kernel) rfl [3,4,5] rfl rfl ?_;refine tg [] rfl (by simp) ?_;refine Ay (fr:=[]) [(3,1)] [] rfl (by simp) (JR t 12 (by omega) (by decide)) ⟨⟨rfl,rfl,rfl⟩,trivial⟩ rfl rfl rfl rfl ?_;refine tg [] rfl (by simp) ?_;refine Ay (fr:=[]) [] [] rfl (by simp) (K2 holes t h.2) trivial rfl rfl rfl rfl ?_;refine tg [] rfl (by simp) ?_;exact Cp ⟨_,rfl,rfl,⟨rfl,rfl,trivial⟩⟩
theorem X7 (t:Ty) (holes:Bool) (h:BM holes t=false):AV Tryz.prog 186 [.ref 1 0,.ref 2 0] [(1,some (.immb 26 4 (dTyc t))),(2,some (.immb 4 1 [.bool holes]))] (.pan EU):=by
 simp only [BM,Bool.and_eq_false_iff,decide_eq_false_iff_not] at h;refine Ae AH Tryz.func186 (by decide +kernel) rfl [3,4,5] rfl rfl ?_;refine tg [] rfl (by simp) ?_;by_cases h1:Ai t<=12
 ·refine Ay (fr:=[]) [(3,1)] [] rfl (by simp) (JR t 12 (by omega) (by decide)) ⟨⟨rfl,rfl,rfl⟩,trivial⟩ rfl rfl rfl rfl ?_;refine tg [] rfl (by simp) ?_;exact Az [] rfl (by simp) (RG holes t (by simpa [h1] using h)) trivial rfl rfl
 ·exact Az [(3,1)] rfl (by simp) (V3 t 12 (by omega) (by decide) (by decide)) ⟨⟨rfl,rfl,rfl⟩,trivial⟩ rfl rfl
theorem SD (t:Ty) (holes:Bool):Al Tryz.prog 144 [.agg (dTyc t),.bool holes] (Jv (BM holes t)):=by
 refine Ae AH Tryz.func144 (by decide +kernel) rfl [1,2,3] rfl rfl ?_;refine tg [] rfl (by simp) ?_;cases h:BM holes t with
 | true =>
  refine Ay (fr:=[]) [(1,1),(2,2)] [] rfl (by simp) (TO Tryz.func186 (by decide +kernel) rfl (V8 t holes h)) ⟨⟨rfl,rfl,rfl⟩,⟨rfl,rfl,rfl⟩,trivial⟩ rfl rfl rfl rfl ?_;refine tg [] rfl (by simp) ?_;exact Ab ⟨_,rfl,tV rfl,trivial⟩
 | false =>
  refine Ay (fr:=[]) [(1,1),(2,2)] [] rfl (by simp) (Wf Tryz.func186 (by decide +kernel) rfl (X7 t holes h)) ⟨⟨rfl,rfl,rfl⟩,⟨rfl,rfl,rfl⟩,trivial⟩ rfl rfl rfl rfl ?_;refine tg [] rfl (by simp) ?_;exact Ab ⟨_,rfl,tV rfl,trivial⟩
theorem TW (t:Ty):Al Tryz.prog 101 [.agg (dTyc t)] (Jv (BM true t)):=by
 refine Ae AH Tryz.func101 (by decide +kernel) rfl [1,2,3] rfl rfl ?_;refine tg [] rfl (by simp) ?_;refine Ac rfl (λ_=>SD t true) (by simp [Ag]) ?_;refine tg [] rfl (by simp) ?_;exact Ab ⟨_,rfl,tV rfl,trivial⟩
theorem Pa (t:Ty):Al Tryz.prog 212 [.agg (dTyc t)] (.bool (BM false t)):=by
 refine Ae AH Tryz.func212 (by decide +kernel) rfl [1,2,3] rfl rfl ?_;refine tg [] rfl (by simp) ?_;refine Ac rfl (λ_=>SD t false) (by simp [Ag]) ?_;refine tg [] rfl (by simp) ?_;refine Ab ⟨_,rfl,tV (congrArg _ ?_),trivial⟩;cases BM false t <;> rfl
def lY:TT:=lW++[
 (230,⟨.map 9 4,false,1,8,[.imm .nilmap]⟩)]
theorem Gu:TTok Tryz.prog lY:=.of_eq (l:=[4,3,9,186,26,62,183,27,5,24,23,193,184,60,188,192,90,22,190,87,85,36,281,227,1,230]) (by kernel_rfl)
section
variable {n:Nat} {F:List Nat} {Q:DQ} {env env':Env} {st st':St} {ids ids':List Nat} {k todo:List DI} {ob:List Prop}
theorem pd (path:List Pt) (h:run lY n 300 path todo env st ids [] = .at k env' st' ids' ob) (hob:A9 ob) (hd:G Tryz.prog n F Q k env' st' ids'):DGo Tryz.prog n F Q todo env st ids:=J2 Gu DJ 300 path h hob hd
theorem pg (path:List Pt) (h:run lY n 300 path todo env st ids [] = .at k env' st' ids' ob) (hob:A9 ob) (hd:G Tryz.prog n F Q k env' st' ids'):G Tryz.prog n F Q todo env st ids:=IK Gu DJ 300 path h hob hd
theorem pi {es:List (List V)} {m:Int} {sz:Nat} {e:TypeId} {g:Option (Bool×Bool)} {ob:List Prop} {t:Nat} {todo':List DI} {c:List V} (h:M7 lY n env todo=some ⟨es,m,sz,e,g,ob,some t,todo'⟩)
  (hc:Ag g->0<=m/\es[m.toNat]?=some c/\c.length=sz) (hob:A9 ob) (hk:G Tryz.prog n F Q todo' ((t,gD g (.ip e c 0))::env) st ids):G Tryz.prog n F Q todo env st ids:=EG Gu h hc hob hk
end
def Uy (l:List Str):List (V×V):=l.map λs=>(.str s,.bool true)
def Rk (l:List Str):Blk:=.map (Uy l)
theorem M1 (l:List Str):∀p∈Uy l,I3 .str p.1=true:=by
 intro p hp;obtain ⟨s,_,rfl⟩:=List.mem_map.1 hp;rfl
theorem gT (s x:Str):(s == x)=(x == s):=by
 rw [Bool.eq_iff_iff,beq_iff_eq,beq_iff_eq];exact ⟨Eq.symm,Eq.symm⟩
theorem Zt (l:List Str) (s:Str):Co (Uy l) (.str s)=if FN l s then some (.bool true) else none:=by
 induction l with
 | nil=>rfl
 | cons x r ih =>
  simp only [Uy,List.map_cons,Co,VH,FN] at ih ⊢;rw [ih];by_cases h:x=s
  ·subst h;simp
  ·have h1:(s == x)=false:=by simpa using λe=>h e.symm
   have h2:(x == s)=false:=by simpa using h
   simp [h1,h2]
theorem RR (l:List Str) (s:Str):DK false (Uy l) (.str s) (.bool false) = .imm (.bool (FN l s)):=by
 simp only [DK,Zt];cases FN l s <;> rfl
theorem dC (l:List Str) (s:Str) (h:FN l s=false):Ew (Uy l) (.str s) (.bool true)=Uy (l++[s]):=by
 induction l with
 | nil=>rfl
 | cons x r ih =>
  simp only [FN,Bool.or_eq_false_iff] at h;have h1:(s == x)=false:=by rw [gT];exact h.1
  simp only [Uy,List.map_cons,Ew,VH,h1,List.cons_append] at ih ⊢;simp [ih h.2]
theorem FO:∀(a b p:List Str),AP p (a++b)=(AP p a&&AP (p++a) b)
 | [],b,p=>by simp [AP]
 | x::r,b,p=>by simp [AP,FO r b (p++[x]),Bool.and_assoc]
theorem Mq:∀(t:Ty) (met:List Str),(BB t&&AP met (Bc t))=true->AV Tryz.prog 149 [.imm (.agg (dTyc t)),.mapr 1] [(1,some (Rk met))] (.ret Hd [(1,some (Rk (met++Bc t)))])
 | .mk s n x ps,met,hy=>by
  refine Eb 0 rfl λhok=>?_;have hv:ps.length<=9223372036854775807:=by
   simp [Cf,Ey,dTyc,maxLen] at hok;have:=hok.1;omega
  refine Ae Gu Tryz.func149 (by decide +kernel) rfl [2,3,4] rfl rfl ?_;have J:∀m0:List Str,(B7 ps&&AP m0 (A8 ps))=true->m0++A8 ps=met++Bc (.mk s n x ps)->DGo Tryz.prog Tryz.f149.ntmps (DP [(1,some (Rk met))]) (Nm lY Tryz.f149.results.toList (.ret Hd [(1,some (Rk (met++Bc (.mk s n x ps))))]))
    [.code (F9 Tryz.f149 2)] [(1,.mapr 1),(2,.ref 2 0)] [(2,some (.immb 62 4 (dTyc (.mk s n x ps)))),(1,some (Rk m0))] [3,4]:=by
   intro m0 hy he;refine pd [] rfl (by simp) ?_;refine Aj (λi:Nat=>[(113,.imm (.int .i64 i)),(112,.imm (.int .i64 ps.length)),(111,.imm (.sl (AT ps))),(1,.mapr 1),(2,.ref 2 0)]) (λi=>[(2,some (.immb 62 4 (dTyc (.mk s n x ps)))),(1,some (Rk (m0++A8 (ps.take i))))]) [3,4] (λi=>ps.length-i)
    (λi=>i<=ps.length/\(B7 (ps.drop i)&&AP (m0++A8 (ps.take i)) (A8 (ps.drop i)))=true) 0 ⟨Nat.zero_le _,by simpa [A8] using hy⟩ ⟨rfl,As (by simp),rfl,rfl,rfl,trivial⟩ ⟨rfl,by simp [A8];rfl,trivial⟩ rfl λi hi ih=>?_
   refine pd [] rfl (by simp) ?_;have hi2:=hi.2;refine Aa rfl (λh=>?_) (λh=>?_)
   ·simp at h;obtain ⟨t,ht⟩:=Am h;have htk:A8 (ps.take (i+1))=A8 (ps.take i)++Bc t:=by rw [Be ht,DZ];simp [A8]
    rw [Ao ht] at hi2;simp only [B7,A8,FO] at hi2;refine pd [] rfl (by simp) ?_;refine pi rfl (c:=dTyc t) (λ_=>⟨by simp,by simpa using Ax ht,by simp⟩) (by simp) ?_;refine pg [] rfl (by simp) ?_;refine Ay (fr:=[]) [(1,1)] [] rfl (by simp) (Mq t (m0++A8 (ps.take i)) (by simp only [Bool.and_eq_true] at hi2 ⊢;exact ⟨hi2.1.1,hi2.2.1⟩)) ⟨⟨rfl,rfl,rfl⟩,trivial⟩ rfl rfl rfl rfl ?_;refine pg [] rfl (by simp) ?_;exact Ad (ih (i+1) (by omega) ⟨by omega,by rw [htk,<- List.append_assoc];simp only [Bool.and_eq_true] at hi2 ⊢;exact ⟨hi2.1.2,hi2.2.2⟩⟩) ⟨As (B9 (by omega) (by omega)),rfl,rfl,rfl,rfl,trivial⟩ ⟨rfl,by rw [htk,<- List.append_assoc];rfl,trivial⟩ rfl
   ·refine pd [] rfl (by simp) ?_;simp at h;refine Cp ⟨_,rfl,rfl,⟨?_,trivial⟩⟩;rw [List.take_of_length_le (by omega),he];rfl
  simp only [BB,Bool.and_eq_true] at hy;obtain ⟨⟨hp,hps⟩,hdf⟩:=hy;by_cases h1:s=1
  ·subst h1;simp [D0,Fp] at hp;refine pg [.a,.a] rfl (by simp [Ag] <;> grind) ?_;refine Ac rfl (λ_=>Bx _ (by simp [Cz] at hp ⊢;grind)) (by simp) ?_;refine pg [.s] rfl (by simp) ?_;exact Ad (J met (by simpa [Bc,hps] using hdf) (by simp [Bc])) ⟨rfl,rfl,trivial⟩ ⟨rfl,rfl,trivial⟩ rfl
  by_cases h5:s=5
  ·subst h5;simp [D0,Fp] at hp;refine pg [.a,.a] rfl (by simp [Ag] <;> grind) ?_;refine Ac rfl (λ_=>Bx _ (by simp [Cz] at hp ⊢;grind)) (by simp) ?_;refine pg [.s] rfl (by simp) ?_;exact Ad (J met (by simpa [Bc,hps] using hdf) (by simp [Bc])) ⟨rfl,rfl,trivial⟩ ⟨rfl,rfl,trivial⟩ rfl
  by_cases h3:s=3
  ·subst h3;simp [D0,Fp] at hp;refine pg [.a,.a,.a,.a] rfl (by simp [Ag] <;> grind) ?_;refine Ac rfl (λ_=>I4 n) (by simp [Ag]) ?_;refine pg [] rfl (by simp [Ag]) ?_;refine Ac rfl (λ_=>Bx _ (by simp [Cz] at hp ⊢;grind)) (by simp) ?_;refine pg [.s] rfl (by simp) ?_;exact Ad (J met (by simpa [Bc,hps] using hdf) (by simp [Bc])) ⟨rfl,rfl,trivial⟩ ⟨rfl,rfl,trivial⟩ rfl
  by_cases h4:s=4
  ·subst h4;simp [D0,Fp] at hp;refine pg [.a,.a,.a,.a,.a] rfl (by simp [Ag] <;> grind) ?_;refine Ac rfl (λ_=>Bx _ (by obtain ⟨⟨rfl,rfl⟩,ha,hb⟩:=hp;have:n=0\/n=1:=(by omega);rcases this with rfl | rfl <;> simp)) (by simp) ?_;refine pg [.s] rfl (by simp) ?_;exact Ad (J met (by simpa [Bc,hps] using hdf) (by simp [Bc])) ⟨rfl,rfl,trivial⟩ ⟨rfl,rfl,trivial⟩ rfl
  by_cases h6:s=6
  ·subst h6;simp [D0,Fp] at hp;refine pg [.a,.a,.a,.a,.a,.a] rfl (by simp [Ag] <;> grind) ?_;refine Ac rfl (λ_=>Dp x) (by simp [Ag]) ?_;refine pg [] rfl (by simp [Ag]) ?_;refine Ac rfl (λ_=>Bx _ (by simp [Cz] at hp ⊢;grind)) (by simp) ?_;refine pg [.s] rfl (by simp) ?_;exact Ad (J met (by simpa [Bc,hps] using hdf) (by simp [Bc])) ⟨rfl,rfl,trivial⟩ ⟨rfl,rfl,trivial⟩ rfl
  by_cases h2:s=2
  ·subst h2;simp [D0,Fp] at hp;refine pg [.a,.a,.a] rfl (by simp [Ag] <;> grind) ?_;refine Ac rfl (λ_=>Gv x) (by simp [Ag]) ?_;refine pg [] rfl (by simp [Ag]) ?_;have hx:FN met x=false:=by simpa [Bc,AP] using hdf
   refine YF Gu 1 rfl rfl rfl (M1 met) (by simp [Ag]) (z:=.bool false) rfl (λ_=>.bool _) (RR met x) ?_;refine pg [] rfl (by simp [Ag]) ?_;refine Ac rfl (λ_=>Bx _ (by simp at hp ⊢;rw [hx];grind)) (by simp) ?_;refine pg [] rfl (by simp) ?_;refine X4 Gu rfl rfl rfl (M1 met) ?_;rw [dC met x hx];have he:ps=[]:=by simpa using hp.1.1
   subst he;refine pg [.s] rfl (by simp) ?_;exact Ad (J (met++[x]) (by simp [B7,A8,AP]) (by simp [Bc,A8])) ⟨rfl,rfl,trivial⟩ ⟨rfl,rfl,trivial⟩ rfl
  exfalso;simp [D0,h1,h2,h3,h4,h5,h6] at hp
termination_by t=>SizeOf.sizeOf t
decreasing_by
 all_goals
  have:=List.sizeOf_lt_of_mem (List.mem_of_getElem? ht);simp_wf;omega
theorem Ul:∀(t:Ty) (met:List Str),(BB t&&AP met (Bc t))=false->AV Tryz.prog 149 [.imm (.agg (dTyc t)),.mapr 1] [(1,some (Rk met))] (.pan EU)
 | .mk s n x ps,met,hy=>by
  refine Eb 0 rfl λhok=>?_;have hv:ps.length<=9223372036854775807:=by
   simp [Cf,Ey,dTyc,maxLen] at hok;have:=hok.1;omega
  refine Ae Gu Tryz.func149 (by decide +kernel) rfl [2,3,4] rfl rfl ?_;have J:∀m0:List Str,(B7 ps&&AP m0 (A8 ps))=false->DGo Tryz.prog Tryz.f149.ntmps (DP [(1,some (Rk met))]) (Nm lY Tryz.f149.results.toList (.pan EU))
    [.code (F9 Tryz.f149 2)] [(1,.mapr 1),(2,.ref 2 0)] [(2,some (.immb 62 4 (dTyc (.mk s n x ps)))),(1,some (Rk m0))] [3,4]:=by
   intro m0 hy;refine pd [] rfl (by simp) ?_;refine Aj (λi:Nat=>[(113,.imm (.int .i64 i)),(112,.imm (.int .i64 ps.length)),(111,.imm (.sl (AT ps))),(1,.mapr 1),(2,.ref 2 0)]) (λi=>[(2,some (.immb 62 4 (dTyc (.mk s n x ps)))),(1,some (Rk (m0++A8 (ps.take i))))]) [3,4] (λi=>ps.length-i)
    (λi=>i<=ps.length/\(B7 (ps.drop i)&&AP (m0++A8 (ps.take i)) (A8 (ps.drop i)))=false) 0 ⟨Nat.zero_le _,by simpa [A8] using hy⟩ ⟨rfl,As (by simp),rfl,rfl,rfl,trivial⟩ ⟨rfl,by simp [A8];rfl,trivial⟩ rfl λi hi ih=>?_
   refine pd [] rfl (by simp) ?_;have hi2:=hi.2;refine Aa rfl (λh=>?_) (λh=>?_)
   ·simp at h;obtain ⟨t,ht⟩:=Am h;have htk:A8 (ps.take (i+1))=A8 (ps.take i)++Bc t:=by rw [Be ht,DZ];simp [A8]
    rw [Ao ht] at hi2;simp only [B7,A8,FO] at hi2;refine pd [] rfl (by simp) ?_;refine pi rfl (c:=dTyc t) (λ_=>⟨by simp,by simpa using Ax ht,by simp⟩) (by simp) ?_;refine pg [] rfl (by simp) ?_;by_cases hz:(BB t&&AP (m0++A8 (ps.take i)) (Bc t))=true
    ·refine Ay (fr:=[]) [(1,1)] [] rfl (by simp) (Mq t (m0++A8 (ps.take i)) hz) ⟨⟨rfl,rfl,rfl⟩,trivial⟩ rfl rfl rfl rfl ?_;refine pg [] rfl (by simp) ?_;exact Ad (ih (i+1) (by omega) ⟨by omega,by rw [htk,<- List.append_assoc];simp only [Bool.and_eq_true] at hz;rw [hz.1,hz.2] at hi2;simpa using hi2⟩) ⟨As (B9 (by omega) (by omega)),rfl,rfl,rfl,rfl,trivial⟩ ⟨rfl,by rw [htk,<- List.append_assoc];rfl,trivial⟩ rfl
    ·exact Az [(1,1)] rfl (by simp) (Ul t (m0++A8 (ps.take i)) (by simpa using hz)) ⟨⟨rfl,rfl,rfl⟩,trivial⟩ rfl rfl
   ·exfalso;simp at h;rw [List.drop_eq_nil_of_le (by omega)] at hi2;simp [B7,A8,AP] at hi2
  by_cases h1:s=1
  ·subst h1;refine pg [.a,.a] rfl (by simp [Ag] <;> grind) ?_;by_cases hp:D0 1 n x ps.length=true
   ·have hps:(B7 ps&&AP met (A8 ps))=false:=by simpa [BB,hp,Bc] using hy
    simp [D0,Fp] at hp;refine Ac rfl (λ_=>Bx _ (by simp [Cz] at hp ⊢;grind)) (by simp) ?_;refine pg [.s] rfl (by simp) ?_;exact Ad (J met hps) ⟨rfl,rfl,trivial⟩ ⟨rfl,rfl,trivial⟩ rfl
   ·simp [D0,Fp] at hp;exact Az [] rfl (by simp) (BP _ (by simp [Cz] at hp ⊢;grind)) trivial rfl rfl
  by_cases h5:s=5
  ·subst h5;refine pg [.a,.a] rfl (by simp [Ag] <;> grind) ?_;by_cases hp:D0 5 n x ps.length=true
   ·have hps:(B7 ps&&AP met (A8 ps))=false:=by simpa [BB,hp,Bc] using hy
    simp [D0,Fp] at hp;refine Ac rfl (λ_=>Bx _ (by simp [Cz] at hp ⊢;grind)) (by simp) ?_;refine pg [.s] rfl (by simp) ?_;exact Ad (J met hps) ⟨rfl,rfl,trivial⟩ ⟨rfl,rfl,trivial⟩ rfl
   ·simp [D0,Fp] at hp;exact Az [] rfl (by simp) (BP _ (by simp [Cz] at hp ⊢;grind)) trivial rfl rfl
  by_cases h3:s=3
  ·subst h3;refine pg [.a,.a,.a,.a] rfl (by simp [Ag] <;> grind) ?_;refine Ac rfl (λ_=>I4 n) (by simp [Ag]) ?_;refine pg [] rfl (by simp [Ag]) ?_;by_cases hp:D0 3 n x ps.length=true
   ·have hps:(B7 ps&&AP met (A8 ps))=false:=by simpa [BB,hp,Bc] using hy
    simp [D0,Fp] at hp;refine Ac rfl (λ_=>Bx _ (by simp [Cz] at hp ⊢;grind)) (by simp) ?_;refine pg [.s] rfl (by simp) ?_;exact Ad (J met hps) ⟨rfl,rfl,trivial⟩ ⟨rfl,rfl,trivial⟩ rfl
   ·simp [D0,Fp] at hp;exact Az [] rfl (by simp) (BP _ (by simp [Cz] at hp ⊢;grind)) trivial rfl rfl
  by_cases h4:s=4
  ·subst h4;refine pg [.a,.a,.a,.a,.a] rfl (by simp [Ag] <;> grind) ?_;by_cases hp:D0 4 n x ps.length=true
   ·have hps:(B7 ps&&AP met (A8 ps))=false:=by simpa [BB,hp,Bc] using hy
    simp [D0,Fp] at hp;refine Ac rfl (λ_=>Bx _ (by obtain ⟨⟨rfl,rfl⟩,ha,hb⟩:=hp;have:n=0\/n=1:=(by omega);rcases this with rfl | rfl <;> simp)) (by simp) ?_;refine pg [.s] rfl (by simp) ?_;exact Ad (J met hps) ⟨rfl,rfl,trivial⟩ ⟨rfl,rfl,trivial⟩ rfl
   ·simp [D0,Fp] at hp;exact Az [] rfl (by simp) (BP _ (by simp [Cz] at hp ⊢;grind)) trivial rfl rfl
  by_cases h6:s=6
  ·subst h6;refine pg [.a,.a,.a,.a,.a,.a] rfl (by simp [Ag] <;> grind) ?_;refine Ac rfl (λ_=>Dp x) (by simp [Ag]) ?_;refine pg [] rfl (by simp [Ag]) ?_;by_cases hp:D0 6 n x ps.length=true
   ·have hps:(B7 ps&&AP met (A8 ps))=false:=by simpa [BB,hp,Bc] using hy
    simp [D0,Fp] at hp;refine Ac rfl (λ_=>Bx _ (by simp [Cz] at hp ⊢;grind)) (by simp) ?_;refine pg [.s] rfl (by simp) ?_;exact Ad (J met hps) ⟨rfl,rfl,trivial⟩ ⟨rfl,rfl,trivial⟩ rfl
   ·simp [D0,Fp] at hp;exact Az [] rfl (by simp) (BP _ (by simp [Cz] at hp ⊢;grind)) trivial rfl rfl
  by_cases h2:s=2
  ·subst h2;refine pg [.a,.a,.a] rfl (by simp [Ag] <;> grind) ?_;refine Ac rfl (λ_=>Gv x) (by simp [Ag]) ?_;refine pg [] rfl (by simp [Ag]) ?_;refine YF Gu 1 rfl rfl rfl (M1 met) (by simp [Ag]) (z:=.bool false) rfl (λ_=>.bool _) (RR met x) ?_;refine pg [] rfl (by simp [Ag]) ?_;refine Az [] rfl (by simp) (BP _ ?_) trivial rfl rfl;simp [BB,D0,Bc,AP] at hy;cases hm:FN met x with
   | true=>simp
   | false =>
    simp only [hm] at hy;by_cases hq:ps=[]
    ·subst hq;simp [B7] at hy ⊢;grind
    ·simp [hq]
  refine pg [.f,.f,.f,.f,.f,.f] rfl (by simp [h1,h2,h3,h4,h5,h6]) ?_;exact Az [] rfl (by simp) (BP _ rfl) trivial rfl rfl
termination_by t=>SizeOf.sizeOf t
decreasing_by
 all_goals
  have:=List.sizeOf_lt_of_mem (List.mem_of_getElem? ht);simp_wf;omega
def B2 (t:Ty):Bool:=decide (Ai t<=12)&&(BB t&&Bm (Bc t))
theorem Rz (t:Ty) (h:B2 t=true):AV Tryz.prog 147 [.ref 1 0] [(1,some (.immb 62 4 (dTyc t)))] (.ret Hd [(1,some (.immb 62 4 (dTyc t)))]):=by
 simp only [B2,Bool.and_eq_true,decide_eq_true_eq] at h;refine Ae Gu Tryz.func147 (by decide +kernel) rfl [2,3,4] rfl rfl ?_;refine pg [] rfl (by simp) ?_;refine Ay (fr:=[]) [(2,1)] [] rfl (by simp) (LH t 12 (by omega) (by decide)) ⟨⟨rfl,rfl,rfl⟩,trivial⟩ rfl rfl rfl rfl ?_;refine pg [] rfl (by simp) ?_;refine ON rfl ?_;refine pg [] rfl (by simp) ?_;refine Ay (fr:=[]) [(3,1)] [] rfl (by simp) (Mq t [] (by simpa [Bm] using h.2)) ⟨⟨rfl,rfl,rfl⟩,trivial⟩ rfl rfl rfl rfl ?_;refine pg [] rfl (by simp) ?_;exact Cp ⟨_,rfl,rfl,⟨rfl,trivial⟩⟩
theorem TP (t:Ty) (h:B2 t=false):AV Tryz.prog 147 [.ref 1 0] [(1,some (.immb 62 4 (dTyc t)))] (.pan EU):=by
 refine Ae Gu Tryz.func147 (by decide +kernel) rfl [2,3,4] rfl rfl ?_;refine pg [] rfl (by simp) ?_;by_cases h1:Ai t<=12
 ·refine Ay (fr:=[]) [(2,1)] [] rfl (by simp) (LH t 12 (by omega) (by decide)) ⟨⟨rfl,rfl,rfl⟩,trivial⟩ rfl rfl rfl rfl ?_;refine pg [] rfl (by simp) ?_;refine ON rfl ?_;refine pg [] rfl (by simp) ?_;exact Az [(3,1)] rfl (by simp) (Ul t [] (by simpa [B2,h1,Bm] using h)) ⟨⟨rfl,rfl,rfl⟩,trivial⟩ rfl rfl
 ·exact Az [(2,1)] rfl (by simp) (YA t 12 (by omega) (by decide) (by decide)) ⟨⟨rfl,rfl,rfl⟩,trivial⟩ rfl rfl
theorem JA (t:Ty):Al Tryz.prog 105 [.agg (dTyc t)] (Jv (B2 t)):=by
 refine Ae Gu Tryz.func105 (by decide +kernel) rfl [1,2,3] rfl rfl ?_;refine pg [] rfl (by simp) ?_;cases h:B2 t with
 | true =>
  refine Ay (fr:=[]) [(1,1)] [] rfl (by simp) (LY Tryz.func147 (by decide +kernel) rfl (Rz t h)) ⟨⟨rfl,rfl,rfl⟩,trivial⟩ rfl rfl rfl rfl ?_;refine pg [] rfl (by simp) ?_;exact Ab ⟨_,rfl,tV rfl,trivial⟩
 | false =>
  refine Ay (fr:=[]) [(1,1)] [] rfl (by simp) (Oi Tryz.func147 (by decide +kernel) rfl (TP t h)) ⟨⟨rfl,rfl,rfl⟩,trivial⟩ rfl rfl rfl rfl ?_;refine pg [] rfl (by simp) ?_;exact Ab ⟨_,rfl,tV rfl,trivial⟩
end Go.Hk
namespace Go.Hk
open Go.Proofs
def lX:TT:=lY++[
 (291,⟨.struct [(0,4),(1,4),(2,4),(3,3)],true,4,16,[.imm (.bool false),.imm (.bool false),.imm (.bool false),.imm (.int .i64 0)]⟩)]
theorem Gt:TTok Tryz.prog lX:=.of_eq (l:=[4,3,9,186,26,62,183,27,5,24,23,193,184,60,188,192,90,22,190,87,85,36,281,227,1,230,291]) (by kernel_rfl)
section
variable {n:Nat} {F:List Nat} {Q:DQ} {env env':Env} {st st':St} {ids ids':List Nat} {k todo:List DI} {ob:List Prop}
theorem sd (path:List Pt) (h:run lX n 300 path todo env st ids [] = .at k env' st' ids' ob) (hob:A9 ob) (hd:G Tryz.prog n F Q k env' st' ids'):DGo Tryz.prog n F Q todo env st ids:=J2 Gt DJ 300 path h hob hd
theorem sg (path:List Pt) (h:run lX n 300 path todo env st ids [] = .at k env' st' ids' ob) (hob:A9 ob) (hd:G Tryz.prog n F Q k env' st' ids'):G Tryz.prog n F Q todo env st ids:=IK Gt DJ 300 path h hob hd
theorem si {es:List (List V)} {m:Int} {sz:Nat} {e:TypeId} {g:Option (Bool×Bool)} {ob:List Prop} {t:Nat} {todo':List DI} {c:List V} (h:M7 lX n env todo=some ⟨es,m,sz,e,g,ob,some t,todo'⟩)
  (hc:Ag g->0<=m/\es[m.toNat]?=some c/\c.length=sz) (hob:A9 ob) (hk:G Tryz.prog n F Q todo' ((t,gD g (.ip e c 0))::env) st ids):G Tryz.prog n F Q todo env st ids:=EG Gt h hc hob hk
end
structure Has where
 n:Bool
 text:Bool
 pats:Bool
 kids:Int
 is:Bool
def B8 (op:Int) (k p:Nat):Has :=
 if op=1\/op=2 then ⟨true,false,false,0,true⟩
 else if op=3\/op=21\/op=25\/op=28 then ⟨false,false,false,0,true⟩
 else if op=4 then ⟨false,true,false,0,true⟩
 else if op=5\/op=27 then ⟨false,true,false,1,true⟩
 else if op=7 then ⟨false,true,false,2,true⟩
 else if op=8 then ⟨false,false,false,3,true⟩
 else if op=14 then ⟨false,true,false,(if (3:Int)<k then 3 else k),true⟩
 else if op=15 then ⟨false,false,true,(IntKind.i64.wrap (1+(p:Int))),true⟩
 else if op=16\/op=17\/op=19\/op=20\/op=23\/op=26 then ⟨false,false,false,1,true⟩
 else if op=24 then ⟨true,false,false,1,true⟩
 else if op=6\/op=9\/op=10\/op=11\/op=12\/op=13\/op=18\/op=22 then ⟨false,false,false,2,true⟩
 else ⟨false,false,false,0,false⟩
def Dx (h:Has):List V:=[.bool h.n,.bool h.text,.bool h.pats,.int .i64 h.kids]
set_option maxHeartbeats 1000000 in
theorem Ux (op n:Int) (x:Str) (ks:List Tm) (ps:List Ty):Al Tryz.prog 228 [.agg (C6 (.mk op n x ks ps))] (.tup [.agg (Dx (B8 op ks.length ps.length)),.bool (B8 op ks.length ps.length).is]):=by
 refine AI λhv=>?_;simp [Cf,Ey,C6,maxLen] at hv;refine Ae Gt Tryz.func228 (by decide +kernel) rfl [1,2,3] rfl rfl ?_;by_cases h1:op=1
 ·subst h1;refine sg [.a,.a] rfl (by simp) ?_;refine Ab ⟨_,rfl,tV ?_,trivial⟩;simp [B8,Dx]
 by_cases h2:op=2
 ·subst h2;refine sg [.a,.a] rfl (by simp) ?_;refine Ab ⟨_,rfl,tV ?_,trivial⟩;simp [B8,Dx]
 by_cases h3:op=3
 ·subst h3;refine sg [.a,.a,.a,.a] rfl (by simp) ?_;refine Ab ⟨_,rfl,tV ?_,trivial⟩;simp [B8,Dx]
 by_cases h21:op=21
 ·subst h21;refine sg [.a,.a,.a,.a,.a] rfl (by simp) ?_;refine Ab ⟨_,rfl,tV ?_,trivial⟩;simp [B8,Dx]
 by_cases h25:op=25
 ·subst h25;refine sg [.a,.a,.a,.a,.a,.a] rfl (by simp) ?_;refine Ab ⟨_,rfl,tV ?_,trivial⟩;simp [B8,Dx]
 by_cases h28:op=28
 ·subst h28;refine sg [.a,.a,.a,.a,.a,.a] rfl (by simp) ?_;refine Ab ⟨_,rfl,tV ?_,trivial⟩;simp [B8,Dx]
 by_cases h4:op=4
 ·subst h4;refine sg [.a,.a,.a,.a,.a,.a,.a] rfl (by simp) ?_;refine Ab ⟨_,rfl,tV ?_,trivial⟩;simp [B8,Dx]
 by_cases h5:op=5
 ·subst h5;refine sg [.a,.a,.a,.a,.a,.a,.a,.a,.a] rfl (by simp) ?_;refine Ab ⟨_,rfl,tV ?_,trivial⟩;simp [B8,Dx]
 by_cases h27:op=27
 ·subst h27;refine sg [.a,.a,.a,.a,.a,.a,.a,.a,.a] rfl (by simp) ?_;refine Ab ⟨_,rfl,tV ?_,trivial⟩;simp [B8,Dx]
 by_cases h7:op=7
 ·subst h7;refine sg [.a,.a,.a,.a,.a,.a,.a,.a,.a,.a] rfl (by simp) ?_;refine Ab ⟨_,rfl,tV ?_,trivial⟩;simp [B8,Dx]
 by_cases h8:op=8
 ·subst h8;refine sg [.a,.a,.a,.a,.a,.a,.a,.a,.a,.a,.a] rfl (by simp) ?_;refine Ab ⟨_,rfl,tV ?_,trivial⟩;simp [B8,Dx]
 by_cases h14:op=14
 ·subst h14;refine sg [.a,.a,.a,.a,.a,.a,.a,.a,.a,.a,.a,.a] rfl (by simp) ?_;refine Ab ⟨_,rfl,tV ?_,trivial⟩;simp [B8,Dx]
 by_cases h15:op=15
 ·subst h15;refine sg [.a,.a,.a,.a,.a,.a,.a,.a,.a,.a,.a,.a,.a] rfl (by simp) ?_;refine Ab ⟨_,rfl,tV ?_,trivial⟩;simp [B8,Dx]
 by_cases h16:op=16
 ·subst h16;refine sg [.a,.a,.a,.a,.a,.a,.a,.a,.a,.a,.a,.a,.a,.a,.a] rfl (by simp) ?_;refine Ab ⟨_,rfl,tV ?_,trivial⟩;simp [B8,Dx]
 by_cases h17:op=17
 ·subst h17;refine sg [.a,.a,.a,.a,.a,.a,.a,.a,.a,.a,.a,.a,.a,.a,.a,.a] rfl (by simp) ?_;refine Ab ⟨_,rfl,tV ?_,trivial⟩;simp [B8,Dx]
 by_cases h19:op=19
 ·subst h19;refine sg [.a,.a,.a,.a,.a,.a,.a,.a,.a,.a,.a,.a,.a,.a,.a,.a,.a] rfl (by simp) ?_;refine Ab ⟨_,rfl,tV ?_,trivial⟩;simp [B8,Dx]
 by_cases h20:op=20
 ·subst h20;refine sg [.a,.a,.a,.a,.a,.a,.a,.a,.a,.a,.a,.a,.a,.a,.a,.a,.a,.a] rfl (by simp) ?_;refine Ab ⟨_,rfl,tV ?_,trivial⟩;simp [B8,Dx]
 by_cases h23:op=23
 ·subst h23;refine sg [.a,.a,.a,.a,.a,.a,.a,.a,.a,.a,.a,.a,.a,.a,.a,.a,.a,.a,.a] rfl (by simp) ?_;refine Ab ⟨_,rfl,tV ?_,trivial⟩;simp [B8,Dx]
 by_cases h26:op=26
 ·subst h26;refine sg [.a,.a,.a,.a,.a,.a,.a,.a,.a,.a,.a,.a,.a,.a,.a,.a,.a,.a,.a] rfl (by simp) ?_;refine Ab ⟨_,rfl,tV ?_,trivial⟩;simp [B8,Dx]
 by_cases h24:op=24
 ·subst h24;refine sg [.a,.a,.a,.a,.a,.a,.a,.a,.a,.a,.a,.a,.a,.a,.a,.a,.a,.a,.a,.a] rfl (by simp) ?_;refine Ab ⟨_,rfl,tV ?_,trivial⟩;simp [B8,Dx]
 by_cases h6:op=6
 ·subst h6;refine sg [.a,.a,.a,.a,.a,.a,.a,.a,.a,.a,.a,.a,.a,.a,.a,.a,.a,.a,.a,.a,.a,.a] rfl (by simp) ?_;refine Ab ⟨_,rfl,tV ?_,trivial⟩;simp [B8,Dx]
 by_cases h9:op=9
 ·subst h9;refine sg [.a,.a,.a,.a,.a,.a,.a,.a,.a,.a,.a,.a,.a,.a,.a,.a,.a,.a,.a,.a,.a,.a,.a] rfl (by simp) ?_;refine Ab ⟨_,rfl,tV ?_,trivial⟩;simp [B8,Dx]
 by_cases h10:op=10
 ·subst h10;refine sg [.a,.a,.a,.a,.a,.a,.a,.a,.a,.a,.a,.a,.a,.a,.a,.a,.a,.a,.a,.a,.a,.a,.a,.a] rfl (by simp) ?_;refine Ab ⟨_,rfl,tV ?_,trivial⟩;simp [B8,Dx]
 by_cases h11:op=11
 ·subst h11;refine sg [.a,.a,.a,.a,.a,.a,.a,.a,.a,.a,.a,.a,.a,.a,.a,.a,.a,.a,.a,.a,.a,.a,.a,.a,.a] rfl (by simp) ?_;refine Ab ⟨_,rfl,tV ?_,trivial⟩;simp [B8,Dx]
 by_cases h12:op=12
 ·subst h12;refine sg [.a,.a,.a,.a,.a,.a,.a,.a,.a,.a,.a,.a,.a,.a,.a,.a,.a,.a,.a,.a,.a,.a,.a,.a,.a,.a] rfl (by simp) ?_;refine Ab ⟨_,rfl,tV ?_,trivial⟩;simp [B8,Dx]
 by_cases h13:op=13
 ·subst h13;refine sg [.a,.a,.a,.a,.a,.a,.a,.a,.a,.a,.a,.a,.a,.a,.a,.a,.a,.a,.a,.a,.a,.a,.a,.a,.a,.a,.a] rfl (by simp) ?_;refine Ab ⟨_,rfl,tV ?_,trivial⟩;simp [B8,Dx]
 by_cases h18:op=18
 ·subst h18;refine sg [.a,.a,.a,.a,.a,.a,.a,.a,.a,.a,.a,.a,.a,.a,.a,.a,.a,.a,.a,.a,.a,.a,.a,.a,.a,.a,.a,.a] rfl (by simp) ?_;refine Ab ⟨_,rfl,tV ?_,trivial⟩;simp [B8,Dx]
 by_cases h22:op=22
 ·subst h22;refine sg [.a,.a,.a,.a,.a,.a,.a,.a,.a,.a,.a,.a,.a,.a,.a,.a,.a,.a,.a,.a,.a,.a,.a,.a,.a,.a,.a,.a] rfl (by simp) ?_;refine Ab ⟨_,rfl,tV ?_,trivial⟩;simp [B8,Dx]
 refine sg [.f,.f,.f,.f,.f,.f,.f,.f,.f,.f,.f,.f,.f,.f,.f,.f,.f,.f,.f,.f,.f,.f,.f,.f,.f,.f,.f,.f] rfl (by simp [h1,h2,h3,h21,h25,h28,h4,h5,h27,h7,h8,h14,h15,h16,h17,h19,h20,h23,h26,h24,h6,h9,h10,h11,h12,h13,h18,h22]) ?_;refine Ab ⟨_,rfl,tV ?_,trivial⟩;simp [B8,Dx,h1,h2,h3,h21,h25,h28,h4,h5,h27,h7,h8,h14,h15,h16,h17,h19,h20,h23,h26,h24,h6,h9,h10,h11,h12,h13,h18,h22]
end Go.Hk
