/- Contracts of package kind: ContainsFunc of types, all, checked. (And what it stands on.) -/
import Derived.Test.YtcdpbkolkeeopaaGreatRc
import Derived.Sort.Walk0
import Derived.Laws.MakeOwn
import Derived.Test.YtcdpbkolkeeopaaGreatRb
set_option linter.all false
set_option maxRecDepth 100000
set_option maxHeartbeats 4000000
namespace Go.Hk
open Go.Proofs.Tryz
open Go.Proofs
variable {st st' st1 st0:St} {P:Program} {n sz b i off j:Nat} {env env' E:Env} {F ids ids' fr:List Nat} {Q:DQ} {todo todo' k:List DI} {tt:TT} {w w':World} {I J:Imm} {μ ν:Mu} {a:Act} {ob ob':List Prop} {d:D} {l:List Tok} {Pn:V->Prop} {cx:Prop} {e t T:TypeId} {es:List (List V)} {g:Option (Bool×Bool)} {o:Oper} {v:Value} {s x:Str} {f:FuncId} {α:Type} {A B:Asn} {ds das:List D} {cs:List Value} {c vs:List V} {dst:Option Nat} {m:String} {q:D->Option V} {ts:Array TypeId} {c':Code} {σ τ1:List (Nat×Nat)}
def OR:List (Nat×Value×Blk)->St
 | []=>[]
 | (i,_,b)::r=>(i,some b)::OR r
def OS:List (Nat×Value×Blk)->List Nat
 | []=>[]
 | (i,_,_)::r=>i::OS r
def Eo (new:List (Nat×Value×Blk)) (μ:Mu):Mu:=λi=>match lk new i with
 | some p=>some p.1
 | none=>μ i
def eE (R:List Nat) (μ:Mu) (st:St) (b:Nat):Prop:=∃r blk g,r∈R/\A1 st r blk/\μ r=some g/\E6 g b
theorem Zy {new:List (Nat×Value×Blk)} {b:Blk}:A1 (OR new++st) i b->(∃g,(i,g,b)∈new/\lk new i=some (g,b))\/(lk new i=none/\A1 st i b):=by
 induction new with
 | nil=>intro h;exact .inr ⟨rfl,h⟩
 | cons p r ih =>
  obtain ⟨k,g,x⟩:=p;intro h;simp only [OR,De] at h;rcases AB.1 h with ⟨rfl,rfl⟩ | ⟨h1,h2⟩
  ·exact .inl ⟨g,by simp,A0 _ _ _⟩
  ·rw [A6 _ _ (λe=>h1 e.symm)];rcases ih h2 with ⟨g',q1,q2⟩ | h
   ·exact .inl ⟨g',by simp [q1],q2⟩
   ·exact .inr h
theorem WX {new:List (Nat×Value×Blk)}:lk new i=none↔i∉OS new:=by
 induction new with
 | nil=>simp [lk,OS]
 | cons p r ih =>
  obtain ⟨k,g,x⟩:=p;by_cases h:k=i
  ·subst h;rw [A0];simp [OS]
  ·rw [A6 _ _ h,ih];simp [OS];exact λ_ e=>h e.symm
theorem StRep.relay {R:List Nat} {new:List (Nat×Value×Blk)} (hst:StRep I μ st (OS new++ids') w)
  (hown:∀p∈new,∀b,E6 p.2.1 b->eE R μ st b) (hdisj:∀p∈new,∀q∈new,∀b,E6 p.2.1 b->E6 q.2.1 b->p.1=q.1)
  (hI:I.le J) (hJ:J.ok w) (hold:∀b o,J b=some o->I b=some o\/(eE R μ st b/\∀p∈new,¬E6 p.2.1 b))
  (hrep:μ.le (Eo new μ)->∀p∈new,BlkRep J (Eo new μ) w p.2.1 p.2.2) :
  μ.le (Eo new μ)/\StRep J (Eo new μ) (OR new++(Co R++st)) ids' w/\Ext I μ st w J (Eo new μ) (OR new++(Co R++st)) w:=by
 have hnd:=HM.1 hst.nodup;have hle:μ.le (Eo new μ):=λi v h=>by
  have:i∉OS new:=λhi=>by rw [hst.idsFree i (by simp [hi])] at h;cases h
  simp [Eo,WX.2 this,h]
 have hcase:∀{i b},A1 (OR new++(Co R++st)) i b->(∃g,(i,g,b)∈new/\Eo new μ i=some g)\/(i∉R/\A1 st i b/\Eo new μ i=μ i):=by
  intro i b h;rcases Zy h with ⟨g,q1,q2⟩ | ⟨q1,q2⟩
  ·exact .inl ⟨g,q1,by simp [Eo,q2]⟩
  ·obtain ⟨h3,h4⟩:=Mm q2;exact .inr ⟨h3,h4,by simp [Eo,q1]⟩
 have hold':∀{b},Bq μ st b->(∀r∈R,∀blk g,A1 st r blk->μ r=some g->¬E6 g b)->J b=none:=by
  intro b ⟨i,blk,g,q1,q2,q3⟩ hR;have hI0:=(hst.apart i blk g b q1 q2 q3).1;cases hJb:J b with
  | none=>rfl
  | some o =>
   rcases hold b o hJb with h | ⟨⟨r,blk',g',k1,k2,k3,k4⟩,_⟩
   ·rw [hI0] at h;cases h
   ·exact absurd k4 (hR r k1 blk' g' k2 k3)
 have hE:Ext I μ st w J (Eo new μ) (OR new++(Co R++st)) w :=
  {imm:=hI,os:=rfl,tape:=rfl,output:=rfl,size:=BQ _,block:=λ_ _ _=>rfl
   fresh:=λb _ ⟨i,blk,g,q1,q2,q3⟩=>by
    rcases hcase q1 with ⟨g',k1,k2⟩ | ⟨_,k2,k3⟩
    ·rw [k2] at q2;cases q2;obtain ⟨r,blk',g',_,a2,a3,a4⟩:=hown _ k1 b q3;exact ⟨r,blk',g',a2,a3,a4⟩
    ·exact ⟨i,blk,g,k2,by rw [<- k3];exact q2,q3⟩
   old:=λb _ ho=>by
    cases hJb:J b with
    | none =>
     cases hIb:I b with
     | none=>rfl
     | some o=>rw [hI b o hIb] at hJb;cases hJb
    | some o =>
     rcases hold b o hJb with h | ⟨⟨r,blk,g,_,k2,k3,k4⟩,_⟩
     ·exact h.symm
     ·exact absurd ⟨r,blk,g,k2,k3,k4⟩ ho }
 refine ⟨hle,{ imm:=hJ,blk:=λi b hl=>?_,apart:=λi b g k hl hg hk=>?_,inj:=λi j bi bj gi gj k hi hj hgi hgj hki hkj=>?_,nodup:=hnd.2.1,idsFree:=λi hi=>?_ },hE⟩
 ·rcases hcase hl with ⟨g,k1,k2⟩ | ⟨_,k2,k3⟩
  ·exact ⟨g,k2,hrep hle _ k1⟩
  ·obtain ⟨g,q1,q2⟩:=hst.blk i b k2;exact ⟨g,by rw [k3];exact q1,q2.mono hI hle⟩
 ·rcases hcase hl with ⟨g',k1,k2⟩ | ⟨kR,k2,k3⟩
  ·rw [k2] at hg;cases hg;obtain ⟨r,blk',g',a1,a2,a3,a4⟩:=hown _ k1 k hk;obtain ⟨z1,z2⟩:=hst.apart r blk' g' k a2 a3 a4;refine ⟨?_,z2⟩;cases hJb:J k with
   | none=>rfl
   | some o =>
    rcases hold k o hJb with h | ⟨_,h⟩
    ·rw [z1] at h;cases h
    ·exact absurd hk (h _ k1)
  ·rw [k3] at hg;obtain ⟨z1,z2⟩:=hst.apart i b g k k2 hg hk;refine ⟨hold' ⟨i,b,g,k2,hg,hk⟩ λr hr blk' g' h1 h2 h3=>?_,z2⟩;exact kR (by rw [hst.inj i r b blk' g g' k k2 h1 hg h2 hk h3];exact hr)
 ·rcases hcase hi with ⟨g1,k1,k2⟩ | ⟨kR,k2,k3⟩
  ·rw [k2] at hgi;cases hgi;rcases hcase hj with ⟨g2,l1,l2⟩ | ⟨lR,l2,l3⟩
   ·rw [l2] at hgj;cases hgj;exact hdisj _ k1 _ l1 k hki hkj
   ·rw [l3] at hgj;obtain ⟨r,blk',g',a1,a2,a3,a4⟩:=hown _ k1 k hki;exact absurd (by rw [hst.inj j r bj blk' gj g' k l2 a2 hgj a3 hkj a4];exact a1) lR
  ·rw [k3] at hgi;rcases hcase hj with ⟨g2,l1,l2⟩ | ⟨lR,l2,l3⟩
   ·rw [l2] at hgj;cases hgj;obtain ⟨r,blk',g',a1,a2,a3,a4⟩:=hown _ l1 k hkj;exact absurd (by rw [hst.inj i r bi blk' gi g' k k2 a2 hgi a3 hki a4];exact a1) kR
   ·rw [l3] at hgj;exact hst.inj i j bi bj gi gj k k2 l2 hgi hgj hki hkj
 ·have:i∉OS new:=λh=>hnd.2.2 i h i hi rfl;simp only [Eo,WX.2 this];exact hst.idsFree i (by simp [hi])
theorem EY (h:∀I μ a w,Conc n I μ env st ids a w->∃J ν env' st' ids',StRep J ν st' ids' w/\(∀t d,lk env' t=some d->RepD J ν (a.tmps.getD t undef) d)/\Ext I μ st w J ν st' w/\Pin F μ ν/\DGo P n F Q todo env' st' ids') :
  DGo P n F Q todo env st ids:=by
 intro b cs I μ a w items hd hc;obtain ⟨J,ν,env',st',ids',h1,h2,h3,h4,h5⟩:=h I μ a w hc;exact (h5 b cs J ν a w items hd { h1 with size:=hc.size,env:=h2,defers:=hc.defers.ext h3 }).mono λe a' w' hp=>hp.back h4 h3
theorem xX (id i j:Nat) (B C:α->Asn) (hl:lk st id=some (some (.hp A))) (hA:∀vs I w bs,A.P vs I w bs->∃x b1 b2,(∀b∈b1,b∈bs)/\(∀b∈b2,b∈bs)/\(∀b∈b1,b∉b2)/\(B x).P [] I w b1/\(C x).P [] I w b2) (h:∀x,DGo P n F Q todo env ((i,some (.hp (B x)))::(j,some (.hp (C x)))::(id,none)::st) ids'):DGo P n F Q todo env st (i::j::ids'):=by
 refine EY λI μ a w hc=>?_;obtain ⟨g,hg,vs,bs,rfl,hP⟩:=hc.blk id _ hl;obtain ⟨x,b1,b2,k1,k2,k3,k4,k5⟩:=hA vs I w bs hP;obtain ⟨q1,q2,q3⟩:=StRep.relay (R:=[id]) (new:=[(i,X9 [] b1,.hp (B x)),(j,X9 [] b2,.hp (C x))]) (ids':=ids') hc.toStRep
  (λp hp b hb=>by
   simp only [Cy,LZ,or_false] at hp;rcases hp with rfl | rfl
   ·exact ⟨id,_,_,by simp,hl,hg,C4.2 (k1 b (C4.1 hb))⟩
   ·exact ⟨id,_,_,by simp,hl,hg,C4.2 (k2 b (C4.1 hb))⟩)
  (λp hp q hq b e1 e2=>by
   simp only [Cy,LZ,or_false] at hp hq;rcases hp with rfl | rfl <;> rcases hq with rfl | rfl <;> first
    | rfl
    | exact absurd (C4.1 e2) (k3 b (C4.1 e1))
    | exact absurd (C4.1 e1) (k3 b (C4.1 e2))) (Imm.le_refl I) hc.imm (λb o h=>.inl h)
  (λ_ p hp=>by
   simp only [Cy,LZ,or_false] at hp;rcases hp with rfl | rfl
   ·exact ⟨[],b1,rfl,k4⟩
   ·exact ⟨[],b2,rfl,k5⟩)
 exact ⟨I,_,env,_,ids',q2,λt d hd=>(hc.env t d hd).mono (Imm.le_refl I) q1,q3,.of_le q1,h x⟩
mutual
def Zt (id:Nat) (vs:List Value):D->D
 | .hv i k=>match Nat.beq i id,Ms vs k with
  | true,some v=>.raw v
  | _,_=>.hv i k
 | .agg cs=>.agg (Zs id vs cs)
 | .tup cs=>.tup (Zs id vs cs)
 | d=>d
def Zs (id:Nat) (vs:List Value):List D->List D
 | []=>[]
 | d::r=>Zt id vs d::Zs id vs r
end
def jB (id:Nat) (vs:List Value):Env->Env
 | []=>[]
 | (t,d)::r=>(t,Zt id vs d)::jB id vs r
def zcs (id:Nat) (vs:List Value):Blk->Blk
 | .cells t sz cs=>.cells t sz (Zs id vs cs)
 | b=>b
def Sw (id:Nat) (vs:List Value):St->St
 | []=>[]
 | (i,some b)::r=>(i,some (zcs id vs b))::Sw id vs r
 | (i,none)::r=>(i,none)::Sw id vs r
theorem Jq (id:Nat) (vs:List Value):∀l:List D,Zs id vs l=l.map (Zt id vs)
 | []=>rfl
 | d::r=>by simp [Zs,Jq id vs r]
theorem RepD.opn {id:Nat} {vs:List Value} {bs:List Nat} (hm:μ id=some (X9 vs bs)) (h:RepD I μ v d):RepD I μ v (Zt id vs d):=by
 have at_:∀{l:List D} {i:Nat} {x:D},(Zs id vs l)[i]?=some x->∃y,l[i]?=some y/\x=Zt id vs y:=by
  intro l i x hx;rw [Jq,Ep] at hx;cases hl:l[i]? with
  | none=>rw [hl] at hx;cases hx
  | some y=>rw [hl] at hx;cases hx;exact ⟨y,rfl,rfl⟩
 induction h with
 | hv v i k us cs h hi h1 =>
  simp only [Zt]
  split
  ·rename_i u he hu;rw [CD he,hm] at h;have hvs:vs=us/\bs=cs:=by
    simp only [X9,Ce,Value.tuple.injEq,Array.mk.injEq,DM,Value.agg.injEq,and_true] at h;refine ⟨by simpa using h.1,?_⟩;have h2:=congrArg Array.toList h.2;simp only [UU] at h2;exact (List.map_inj_right (λx y e=>by simpa using e)).1 h2
   rw [Gv,hvs.1,hi] at hu;cases hu;exact .raw _ h1
  ·exact .hv v i k us cs h hi h1
 | agg cs ds hl h1 _ ih =>
  refine .agg cs _ (by rw [Jq,Dn,hl]) h1 λi c x hc hx=>?_;obtain ⟨y,hy,rfl⟩:=at_ hx;exact ih i c y hc hy
 | tup cs ds hl _ ih =>
  refine .tup cs _ (by rw [Jq,Dn,hl]) λi c x hc hx=>?_;obtain ⟨y,hy,rfl⟩:=at_ hx;exact ih i c y hc hy
 | undef v=>exact .undef v
 | imm v x hx=>exact .imm v x hx
 | nils=>exact .nils
 | ref b id off hm=>exact .ref b id off hm
 | ip b o t cs off vs hcell hrep=>exact .ip b o t cs off vs hcell hrep
 | own i len a cap hm=>exact .own i len a cap hm
 | elp b i len cap k sz f hm=>exact .elp b i len cap k sz f hm
 | mapr i b hm=>exact .mapr i b hm
 | iter i b hm=>exact .iter i b hm
 | fn f first cap df dc hf hc h1 h2 _ _=>exact .fn f first cap df dc hf hc h1 h2
 | iface t v d h _=>exact .iface t v d h
 | guard c want v d h hu _=>exact .guard c want v d h hu
 | clip a len es hr=>exact .clip a len es hr
 | slc b i off len cap hm hl hx=>exact .slc b i off len cap hm hl hx
 | yld b i hm=>exact .yld b i hm
 | raw v h=>exact .raw v h
theorem eF {id:Nat} {vs:List Value}:∀{env:Env} {t:Nat} {d:D},lk (jB id vs env) t=some d->∃d0,lk env t=some d0/\d=Zt id vs d0
 | [],t,d,h=>by simp [jB,lk] at h
 | (s,x)::r,t,d,h=>by
  simp only [jB] at h;by_cases hs:s=t
  ·subst hs;rw [A0] at h ⊢;cases h;exact ⟨x,rfl,rfl⟩
  ·rw [A6 _ _ hs] at h ⊢;exact eF h
theorem NT {id:Nat} {vs:List Value} {i:Nat} {b:Blk}:∀{st:St},A1 (Sw id vs st) i b->∃b0,A1 st i b0/\b=zcs id vs b0
 | [],h=>by simp [Sw,A1,lk] at h
 | (k,some x)::r,h=>by
  simp only [Sw] at h;rcases AB.1 h with ⟨h1,h2⟩ | ⟨h1,h2⟩
  ·exact ⟨x,by unfold A1;rw [h1,A0],h2⟩
  ·obtain ⟨b0,q1,q2⟩:=NT h2;exact ⟨b0,AB.2 (.inr ⟨h1,q1⟩),q2⟩
 | (k,none)::r,h=>by
  simp only [Sw] at h;obtain ⟨h1,h2⟩:=BZ.1 h;obtain ⟨b0,q1,q2⟩:=NT h2;exact ⟨b0,BZ.2 ⟨h1,q1⟩,q2⟩
theorem StRep.retell (hst:StRep I μ st ids w) (h:∀i b,A1 st1 i b->∃b0,A1 st i b0/\∀g,BlkRep I μ w g b0->BlkRep I μ w g b):StRep I μ st1 ids w/\Ext I μ st w I μ st1 w:=by
 refine ⟨{ imm:=hst.imm,blk:=λi b hl=>?_,apart:=λi b g k hl hg hk=>?_,inj:=λi j bi bj gi gj k hi hj=>?_,nodup:=hst.nodup,idsFree:=hst.idsFree },?_⟩
 ·obtain ⟨b0,h1,h2⟩:=h i b hl;obtain ⟨g,hg,hr⟩:=hst.blk i b0 h1;exact ⟨g,hg,h2 g hr⟩
 ·obtain ⟨b0,h1,_⟩:=h i b hl;exact hst.apart i b0 g k h1 hg hk
 ·obtain ⟨b0,h1,_⟩:=h i bi hi;obtain ⟨b1,h2,_⟩:=h j bj hj;exact hst.inj i j b0 b1 gi gj k h1 h2
 ·exact { imm:=Imm.le_refl I,os:=rfl,tape:=rfl,output:=rfl,size:=BQ _,block:=λ_ _ _=>rfl,old:=λ_ _ _=>rfl
          fresh:=λb _ ⟨i,bi,g,h1,h2⟩=>let ⟨b0,q,_⟩:=h i bi h1;⟨i,b0,g,q,h2⟩ }
theorem RI (id j:Nat) (val:α->List Value) (B:α->Asn) (hl:lk st id=some (some (.hp A))) (hA:∀vs I w bs,A.P vs I w bs->∃x,vs=val x/\(B x).P [] I w bs) (h:∀x,DGo P n F Q todo (jB id (val x) env) ((j,some (.hp (B x)))::(id,none)::Sw id (val x) st) ids'):DGo P n F Q todo env st (j::ids'):=by
 refine EY λI μ a w hc=>?_;obtain ⟨g,hg,vs,bs,rfl,hP⟩:=hc.blk id _ hl;obtain ⟨x,rfl,h2⟩:=hA vs I w bs hP;obtain ⟨p1,p2⟩:=hc.toStRep.retell (st1:=Sw id (val x) st) (λi b hlb=>by
  obtain ⟨b0,q1,rfl⟩:=NT hlb;refine ⟨b0,q1,λgb hb=>?_⟩;cases b0 with
  | cells t sz cs =>
   obtain ⟨hs,b,us,e1,e2,e3,e4⟩:=hb;exact ⟨by rw [Jq,Dn,hs],b,us,e1,e2,⟨by rw [Jq,Dn,e3.1],λi v y hv hy=>by
    rw [Jq,Ep] at hy;cases hc':cs[i]? with
    | none=>rw [hc'] at hy;cases hy
    | some z=>rw [hc'] at hy;cases hy;exact (e3.2 i v z hv hc').opn hg⟩,e4⟩
  | _=>exact hb)
 have hl':A1 (Sw id (val x) st) id (.hp A):=by
  have:∀{st:St},A1 st id (.hp A)->A1 (Sw id (val x) st) id (.hp A):=by
   intro st
   induction st with
   | nil=>intro h;simp [A1,lk] at h
   | cons p r ih =>
    obtain ⟨k,y⟩:=p;intro h;cases y with
    | none=>obtain ⟨h1,h2⟩:=BZ.1 h;exact BZ.2 ⟨h1,ih h2⟩
    | some y =>
     rcases AB.1 h with ⟨h1,h2⟩ | ⟨h1,h2⟩
     ·exact AB.2 (.inl ⟨h1,by rw [<- h2];rfl⟩)
     ·exact AB.2 (.inr ⟨h1,ih h2⟩)
  exact this hl
 obtain ⟨q1,q2,q3⟩:=StRep.relay (R:=[id]) (new:=[(j,X9 [] bs,.hp (B x))]) (ids':=ids') p1
  (λp hp b hb=>by
   rw [AP.1 hp] at hb;exact ⟨id,_,_,by simp,hl',hg,C4.2 (C4.1 hb)⟩)
  (λp hp q hq b _ _=>by rw [AP.1 hp,AP.1 hq]) (Imm.le_refl I) hc.imm (λb o h=>.inl h)
  (λ_ p hp=>by rw [AP.1 hp];exact ⟨[],bs,rfl,h2⟩)
 refine ⟨I,_,jB id (val x) env,_,ids',q2,λt d hd=>?_,p2.trans q3,.of_le q1,h x⟩;obtain ⟨d0,h0,rfl⟩:=eF hd;exact ((hc.env t d0 h0).opn hg).mono (Imm.le_refl I) q1
def clD (j:Nat) (vs:List Value) (d d':D):Prop:=d=d'\/∃k v,d = .raw v/\d' = .hv j k/\vs[k]?=some v
def clL (j:Nat) (vs:List Value):List D->List D->Prop
 | [],[]=>True
 | d::r,d'::r'=>clD j vs d d'/\clL j vs r r'
 | _,_=>False
theorem Yu {j:Nat} {vs:List Value}:∀{ds ds':List D},clL j vs ds ds'->ds.length=ds'.length/\∀(i:Nat) (d':D),ds'[i]?=some d'->∃d,ds[i]?=some d/\clD j vs d d'
 | [],[],_=>⟨rfl,λi d h=>by simp at h⟩
 | d::r,d'::r',h=>by
  obtain ⟨h1,h2⟩:=Yu h.2;refine ⟨by simp [h1],λi x hx=>?_⟩;cases i with
  | zero=>simp at hx;subst hx;exact ⟨d,rfl,h.1⟩
  | succ i=>exact h2 i x (by simpa using hx)
 | [],_::_,h=>h.elim
 | _::_,[],h=>h.elim
theorem Ov (id k j:Nat) (vs:List Value) (ds':List D) (hl:lk st id=some (some (.hp B))) (hk:lk st k=some (some (.cells t sz ds))) (hA:∀us I w bs,B.P us I w bs->A.P vs I w bs) (hcl:clL j vs ds ds') (h:DGo P n F Q todo env ((k,some (.cells t sz ds'))::(j,some (.hp A))::(id,none)::st) ids'):DGo P n F Q todo env st (j::ids'):=by
 refine EY λI μ a w hc=>?_;obtain ⟨g,hg,us,bs,rfl,hP⟩:=hc.blk id _ hl;obtain ⟨gk,hgk,hs,b,xs,rfl,hheap,hrep,hone⟩:=hc.blk k _ hk;have hjk:j≠k:=λe=>by rw [<- e,hc.idsFree j (by simp)] at hgk;cases hgk
 have hik:id≠k:=λe=>by subst e;rw [hl] at hk;cases hk
 obtain ⟨q1,q2,q3⟩:=StRep.relay (R:=[id]) (new:=[(j,X9 vs bs,.hp A)]) (ids':=ids') hc.toStRep
  (λp hp b hb=>by
   rw [AP.1 hp] at hb;exact ⟨id,_,_,by simp,hl,hg,C4.2 (C4.1 hb)⟩)
  (λp hp q hq b _ _=>by rw [AP.1 hp,AP.1 hq]) (Imm.le_refl I) hc.imm (λb o h=>.inl h)
  (λ_ p hp=>by rw [AP.1 hp];exact ⟨vs,bs,rfl,hA us I w bs hP⟩)
 have hk2:A1 ((j,some (.hp A))::(id,none)::st) k (.cells t sz ds):=AB.2 (.inr ⟨hjk.symm,BZ.2 ⟨hik.symm,hk⟩⟩);have hmj:Eo [(j,X9 vs bs,.hp A)] μ j=some (X9 vs bs):=by simp [Eo,lk]
 obtain ⟨c1,c2⟩:=Yu hcl;obtain ⟨p1,p2⟩:=q2.retell (st1:=(k,some (.cells t sz ds'))::(j,some (.hp A))::(id,none)::st) (λi bb hlb=>by
  rcases AB.1 hlb with ⟨rfl,rfl⟩ | ⟨_,h2⟩
  ·refine ⟨_,hk2,λgb hb=>?_⟩;obtain ⟨hs,b,us,e1,e2,e3,e4⟩:=hb;refine ⟨by rw [<- c1,hs],b,us,e1,e2,⟨by rw [<- c1,e3.1],λi v y hv hy=>?_⟩,e4⟩;obtain ⟨d,y1,y2⟩:=c2 i y hy;have hr:=e3.2 i v d hv y1;rcases y2 with rfl | ⟨kk,u,rfl,rfl,hu⟩
   ·exact hr
   ·have:=hr.rawInv;subst this;exact .hv _ j kk vs bs hmj hu (e4 _ (AF hv))
  ·exact ⟨_,h2,λ_ h=>h⟩)
 exact ⟨I,_,env,_,ids',p1,λt d hd=>(hc.env t d hd).mono (Imm.le_refl I) q1,q3.trans p2,.of_le q1,h⟩
def Imm.plus (I:Imm) (bs:List Nat) (w:World):Imm:=λb=>if Fp bs b=true then w.heap[b]? else I b
theorem VG (id k:Nat) (xs:List V) (hl:lk st id=some (some (.hp A))) (hk:lk st k=some (some (.cells t sz ds))) (hA:∀vs I J w bs,A.P vs I w bs->I.le J->(∀b∈bs,J b=w.heap[b]?)->∀(cs:List Value),RepL J noMu cs ds->RepVL J cs xs) (hnm:IB ds=[]) (h:DGo P n F Q todo env ((k,some (.immb t sz xs))::(id,none)::st) ids):DGo P n F Q todo env st ids:=by
 refine EY λI μ a w hc=>?_;obtain ⟨g,hg,vs,bs,rfl,hP⟩:=hc.blk id _ hl;obtain ⟨gk,hgk,hs,b,us,rfl,hheap,hrep,hone⟩:=hc.blk k _ hk;have hik:id≠k:=λe=>by subst e;rw [hl] at hk;cases hk
 have hbs:∀b∈bs,I b=none/\b<w.heap.size:=λb hb=>hc.apart id _ _ b hl hg (C4.2 hb);have hle:I.le (I.plus bs w):=λb o h=>by
  have:Fp bs b=false:=by
   cases hm:Fp bs b with
   | false=>rfl
   | true=>rw [(hbs b (BT.1 hm)).1] at h;cases h
  simp [Imm.plus,this,h]
 have hJb:∀b∈bs,I.plus bs w b=w.heap[b]?:=λb hb=>by simp [Imm.plus,BT.2 hb]
 obtain ⟨q1,q2,q3⟩:=StRep.relay (R:=[id]) (new:=[]) (ids':=ids) (J:=I.plus bs w) hc.toStRep (λp hp=>by cases hp) (λp hp=>by cases hp) hle
  (λb o h=>by
   unfold Imm.plus at h
   split at h
   ·exact h
   ·exact hc.imm b o h)
  (λb o h=>by
   unfold Imm.plus at h
   split at h
   ·rename_i hm;exact .inr ⟨⟨id,_,_,by simp,hl,hg,C4.2 (BT.1 hm)⟩,λp hp=>by cases hp⟩
   ·exact .inl h)
  (λ_ p hp=>by cases hp)
 have hk2:A1 ((id,none)::st) k (.cells t sz ds):=BZ.2 ⟨hik.symm,hk⟩;obtain ⟨p1,p2⟩:=q2.retell (st1:=(k,some (.immb t sz xs))::(id,none)::st) (λi bb hlb=>by
  rcases AB.1 hlb with ⟨rfl,rfl⟩ | ⟨_,h2⟩
  ·refine ⟨_,hk2,λgb hb=>?_⟩;obtain ⟨hs',b',us',e1,e2,e3,e4⟩:=hb;have hmu:Eo ([]:List (Nat×Value×Blk)) μ=μ:=by funext i;simp [Eo,lk]
   rw [hmu] at e3;have e3':RepL (I.plus bs w) noMu us'.toList ds:=e3.sub λj hj=>by rw [hnm] at hj;cases hj
   have hx':=hA vs I (I.plus bs w) w bs hP hle hJb us'.toList e3';exact ⟨by rw [<- hx'.1,e3.1,hs'],b',us',e1,e2,hx',e4⟩
  ·exact ⟨_,h2,λ_ h=>h⟩)
 exact ⟨_,_,env,_,ids,p1,λt d hd=>(hc.env t d hd).mono hle q1,q3.trans p2,.of_le q1,h⟩
def yM (e:TypeId) (sz:Nat) (es:List (List V)) (v:Value):Asn where
 P:=λ_ I w bs=>(v = .slice none 0 0/\es=[]/\bs=[])\/∃b cap cur,v = .slice (some ⟨b,0,none⟩) es.length cap/\bs=[b]/\w.heap[b]?=some (.cells cur e (0,0))/\es.length<=cap/\cap<=maxLen /\
  cur.size=cap*sz/\RepVL I (cur.toList.take (es.length*sz)) es.flatten/\(∀c∈es,c.length=sz)/\(∀c∈es,∀x∈c,V.one x=true)/\0<sz
 mono:=λh hp=>by
  rcases hp with hp | ⟨b,cap,cur,h1,h2,h3,h4,h5,h6,h7,h8⟩
  ·exact .inl hp
  ·exact .inr ⟨b,cap,cur,h1,h2,h3,h4,h5,h6,h7.mono h,h8⟩
 loc:=λh hp=>by
  rcases hp with hp | ⟨b,cap,cur,h1,h2,h3,h4⟩
  ·exact .inl hp
  ·exact .inr ⟨b,cap,cur,h1,h2,(h b (by simp [h2])).trans h3,h4⟩
structure PA0 where
 dx:D
 dst:Option Nat
 todo:List DI
def zL (tt:TT) (n:Nat) (env:Env) (todo:List DI):Option PA0 :=
 match Bm todo ([],[]) with
 | some (_,o,todo')=>match o.guard,o.op with
  | none,.call { callee:=.builtin .append,args:=⟨[x,y]⟩,argTypes:=⟨[t,t']⟩ }=>match Nat.beq t t',lk tt t,Eg env x,Eg env y with
   | true,some { sh:=.sl e,.. },some (.clip es),some (.imm (.sl []))=>match lk tt e,BM n o.dst with
    | some _,true=>some ⟨.clip es,o.dst,todo'⟩
    | _,_=>none
   | true,some { sh:=.sl e,.. },some (.imm (.sl es)),some (.imm (.sl []))=>match lk tt e,BM n o.dst with
    | some _,true=>some ⟨.imm (.sl es),o.dst,todo'⟩
    | _,_=>none
   | _,_,_,_=>none
  | _,_=>none
 | none=>none
structure PEn where
 es:List (List V)
 eq:Bool
 dst:Option Nat
 todo:List DI
def zcq (tt:TT) (n:Nat) (env:Env) (todo:List DI):Option PEn :=
 match Bm todo ([],[]) with
 | some (_,o,todo')=>match o.guard,o.op with
  | none,.binOp .eql t x y _=>match lk tt t,Eg env x,Eg env y,BM n o.dst with
   | some { sh:=.sl _,.. },some (.imm (.sl es)),some .nils,true=>some ⟨es,true,o.dst,todo'⟩
   | _,_,_,_=>none
  | none,.binOp .neq t x y _=>match lk tt t,Eg env x,Eg env y,BM n o.dst with
   | some { sh:=.sl _,.. },some (.imm (.sl es)),some .nils,true=>some ⟨es,false,o.dst,todo'⟩
   | _,_,_,_=>none
  | _,_=>none
 | none=>none
def zb4 (x:V):Asn where
 P:=λvs I _ bs=>bs=[]/\∃v,vs=[v]/\RepV I v x/\v.oneCell'=true
 mono:=λh ⟨h1,v,h2,h3,h4⟩=>⟨h1,v,h2,h3.mono h,h4⟩
 loc:=λ_ h=>h
def zbx (e:TypeId) (sz:Nat) (es:List (List V)):Asn where
 P:=λvs I w bs=>∃v,vs=[v]/\(yM e sz es v).P [] I w bs
 mono:=λh ⟨v,h1,h2⟩=>⟨v,h1,(yM e sz es v).mono h h2⟩
 loc:=λh ⟨v,h1,h2⟩=>⟨v,h1,(yM e sz es v).loc h h2⟩
def hvOk (I:Imm) (j:Nat) (vs:List Value) (c:Value) (d:D):Prop:=match d with
 | .hv i k=>i=j/\vs[k]?=some c
 | d=>RepD I noMu c d
def N7 (A B:Asn) (A':Asn) (j b off:Nat) (ds:List D):Prop:=∀us vs I w b1 b2,A.P us I w b1->B.P vs I w b2->(∀b∈b1,b∉b2)->b∈b1/\∃cur t,w.heap[b]?=some (.cells cur t (0,0))/\off+ds.length<=cur.size /\
 ∀cs:List Value,cs.length=ds.length->(∀(i:Nat) (c:Value) (d:D),cs[i]?=some c->ds[i]?=some d->hvOk I j vs c d)->(∀c∈cs,c.oneCell'=true) ->
  ∃bs,(∀b∈bs,b∈b1\/b∈b2)/\A'.P [] I (w.setRow b (cur.toList.take off++cs++cur.toList.drop (off+ds.length)).toArray) bs
def TI (j:Nat):List D->Bool
 | []=>true
 | .hv i _::r=>Nat.beq i j&&TI j r
 | d::r=>(match JQ d with | []=>true | _=>false)&&TI j r
structure PRj where
 b:Nat
 off:Nat
 ds:List D
 todo:List DI
def WI (tt:TT) (env:Env) (id j id':Nat) (todo:List DI):Option PRj :=
 match Bm todo ([id,j],[id',id,j]) with
 | some (_,o,todo')=>match o.guard,o.dst,o.op with
  | none,none,.store t p x=>match lk tt t,Eg env p,Eg env x with
   | some i,some (.raw (.pointer (some ⟨b,off,none⟩))),some dx=>match Mz dx with
    | some ds=>match Nat.beq ds.length i.size,TI j ds with
     | true,true=>some ⟨b,off,ds,todo'⟩
     | _,_=>none
    | none=>none
   | _,_,_=>none
  | _,_,_=>none
 | none=>none
theorem Q1 (h:RepV I v (.sl es)):∃ad len cap,v = .slice ad len cap/\len<=cap/\len=es.length:=by
 cases h with
 | slnil=>exact ⟨_,_,_,rfl,BQ _,rfl⟩
 | sl0 ad=>exact ⟨_,_,_,rfl,BQ _,rfl⟩
 | sl b o len cap sz _ vs hl hc=>exact ⟨_,_,_,rfl,hc,hl⟩
theorem Uk (htt:TTok P tt) {c:PA0} (h:zL tt n env todo=some c) (hk:G P n F Q c.todo (BK c.dst c.dx env) st ids):G P n F Q todo env st ids:=by
 have key:∀{todo':List DI} {o:Oper} {all:List Oper} {x y:Operand} {t e:TypeId} {dx:D} {es:List (List V)} {ti:TyI},Bm todo ([],[])=some (all,o,todo')->o.guard=none->o.op = .call { callee:=.builtin .append,args:=⟨[x,y]⟩,argTypes:=⟨[t,t]⟩ } ->
   P.underlying t=some (.slice e)->lk tt e=some ti->Eg env x=some dx->Eg env y=some (.imm (.sl []))->(∀I μ v,RepD I μ v dx->RepV I v (.sl es))->BM n o.dst=true->G P n F Q todo' (BK o.dst dx env) st ids->G P n F Q todo env st ids:=by
  intro todo' o all x y t e dx es ti h1 hg hop hu hi hx hy hd hdst hk;refine BF (fr:=[]) (wr:=[]) (rd:=[]) h1 ?_ hdst (λc hc=>by rw [hop] at hc;cases hc) hk;intro I μ st1 ids1 a w hag hst hon;refine ⟨λ_=>?_,λhw=>by rw [AH hg] at hw;cases hw⟩;have hops:=Bj hon;rw [hop] at hops;have rx:=hops x (by simp [Op.operands,Call.operands]) _ hx;have ry:=(hops y (by simp [Op.operands,Call.operands]) _ hy).immInv;obtain ⟨ad,len,cap,e1,e2,_⟩:=Q1 (hd _ _ _ rx);obtain ⟨ady,ly,capy,e3,e4,e5⟩:=Q1 ry;obtain ⟨inf,z,z1,z2,z3,z4,z5,z6⟩:=(htt e ti hi).info;simp only [Cz] at e5;subst e5;have hr:(Builtin.append_ #[t,t] o.type #[a.eval x,a.eval y]).run P w = .ok (a.eval x) w:=by
   rw [e1,e3];cases ad <;> cases ady <;> simp [Builtin.append_,run_underlying hu,sizeOf,typeInfo,z1,Builtin.lenOf,e2,Builtin.firstCells,loadCells,loadCellsFrom,storeCells]
  have hrun:(execOp a.eval o).run P w = .ok (.value (a.eval x)) w:=by
   simp only [execOp,hop,resolve,invoke,builtin,Sem.run_bind,Sem.run_pure,Result.andThen_ok,MU,C6,HL,hr]
  rw [hrun];exact ⟨I,μ,hst,rx,Mu.le_refl μ,Ext.refl _ _ _ _⟩
 unfold zL at h
 split at h
 ·rename_i all o todo' h1
  split at h
  ·rename_i x y t t' hg hop
   split at h
   ·rename_i e _ _ _ _ es htt' ht hx hy;have:=CD htt';subst this
    split at h
    ·rename_i ti hi hd;cases h;exact key h1 hg hop (htt.sh ht) hi hx hy (λI μ v h=>by cases h;assumption) hd hk
    ·cases h
   ·rename_i e _ _ _ _ es htt' ht hx hy;have:=CD htt';subst this
    split at h
    ·rename_i ti hi hd;cases h;exact key h1 hg hop (htt.sh ht) hi hx hy (λI μ v h=>h.immInv) hd hk
    ·cases h
   ·cases h
  ·cases h
 ·cases h
theorem tI {all rest:List Oper} (f:α->D) (good:α->Prop) (hnd:∀c,o.op ≠ .defer c) (hg:o.guard=none) (hn:∀t,o.dst=some t->t<n) (hy:∀I μ a w,StRep I μ st ids w->DR I μ env a o.op->∃x v,good x/\(execOp a.eval o).run P w = .ok (.value v) w/\RepD I μ v (f x)) (h:∀x,good x->DGo P n F Q (.ops all rest::k) (BK o.dst (f x) env) st ids):DGo P n F Q (.ops all (o::rest)::k) env st ids:=by
 intro b cs I μ a w items hd hc;obtain ⟨j,is,rfl,hr,hk⟩:=Iw hd;obtain ⟨hj,hr'⟩:=DW hr;have hon:JN (o.looksAt all.toArray) I μ env a:=λt _ d hl=>hc.env t d hl;obtain ⟨x,v,hx,hrun,hv⟩:=hy I μ a w hc.toStRep (Bj hon);obtain ⟨p1,p2,p3⟩:=Ij (n:=n) (w:=w) (dst:=o.dst) (λt d hl=>hc.env t d hl) hc.size hn hv;have:=h x hx b cs I μ (a.put o.dst v) w (.inRegion all.toArray (List.range' (j+1) rest.length)::is) ⟨⟨rfl,j+1,hr',rfl⟩,hk⟩
  {hc.toStRep with size:=p2,env:=by cases hdst:o.dst <;> simpa [BK,hdst] using p1,defers:=by rw [p3];exact hc.defers }
 rw [p3] at this;have hlen:(o::rest).length=rest.length+1:=rfl;rw [hlen,OX];refine FN hj (AH hg) hnd ?_;unfold O9;rw [hrun];exact this
theorem SJ (m:Nat) (hs:P.underlying t=some (.slice e)) (ad:Option Addr) (len cap:Nat):(Op.equalIn (m+1) t (.slice ad len cap) (.slice none 0 0)).run P w = .ok ad.isNone w:=by
 cases ad <;> simp [Op.equalIn,run_underlying hs]
theorem Pm (hs:P.underlying t=some (.slice e)) (ad:Option Addr) (len cap:Nat):(Op.equal t (.slice ad len cap) (.slice none 0 0)).run P w = .ok ad.isNone w:=SJ 9999 hs ad len cap
theorem LL (hs:P.underlying t=some (.slice e)) (x y:Operand) (ad:Option Addr) (len cap:Nat) :
  (do eqGuard .eql t x y (.slice ad len cap) (.slice none 0 0);binOp .eql t (.slice ad len cap) (.slice none 0 0):Sem Value).run P w = .ok (.bool ad.isNone) w /\
  (do eqGuard .neq t x y (.slice ad len cap) (.slice none 0 0);binOp .neq t (.slice ad len cap) (.slice none 0 0):Sem Value).run P w = .ok (.bool (!ad.isNone)) w:=by
 constructor
 ·simp only [Sem.run_bind,D4 .eql t x y (.slice ad len cap) (.slice none 0 0) (by simp) (by simp),Result.andThen_ok,binOp,Pm hs,Sem.run_pure]
 ·simp only [Sem.run_bind,D4 .neq t x y (.slice ad len cap) (.slice none 0 0) (by simp) (by simp),Result.andThen_ok,binOp,Pm hs,Sem.run_pure]
theorem Lj (htt:TTok P tt) {all rest:List Oper} {c:PEn} (h:zcq tt n env (.ops all (o::rest)::k)=some c) (hk:∀b:Bool,(c.es≠[]->b = !c.eq)->DGo P n F Q c.todo (BK c.dst (.imm (.bool b)) env) st ids) :
  DGo P n F Q (.ops all (o::rest)::k) env st ids:=by
 unfold zcq at h;simp only [Bm] at h;have hnone:∀{I:Imm} {v:Value} {es:List (List V)},RepV I v (.sl es)->∃ad len cap,v = .slice ad len cap/\(es≠[]->ad.isNone=false):=by
  intro I v es h;cases h with
  | slnil=>exact ⟨_,_,_,rfl,λh=>absurd rfl h⟩
  | sl0 ad=>exact ⟨_,_,_,rfl,λ_=>rfl⟩
  | sl b o len cap sz _ vs hl hc=>exact ⟨_,_,_,rfl,λ_=>rfl⟩
 split at h
 ·rename_i t x y t' hg hop
  split at h
  ·rename_i e _ _ _ _ es ht hx hy hd;cases h;have hn:∀t,o.dst=some t->t<n:=λt ht=>by
    unfold BM at hd;rw [ht] at hd;simpa [HG] using hd
   refine tI (λb=>.imm (.bool b)) (λb=>es≠[]->b=false) (λc hc=>by rw [hop] at hc;cases hc) hg hn (λI μ a w hst hops=>?_) λb hb=>hk b hb;rw [hop] at hops;obtain ⟨ad,len,cap,e1,e2⟩:=hnone (hops x (by simp [Op.operands]) _ hx).immInv;have e3:a.eval y = .slice none 0 0:=by
    have:=hops y (by simp [Op.operands]) _ hy;generalize a.eval y=v at this;cases this;rfl
   refine ⟨ad.isNone,.bool ad.isNone,e2,?_,.imm _ _ (.bool _)⟩;simp only [execOp,hop,e1,e3];exact A7 (LL (htt.sh ht) x y ad len cap).1
  ·cases h
 ·rename_i t x y t' hg hop
  split at h
  ·rename_i e _ _ _ _ es ht hx hy hd;cases h;have hn:∀t,o.dst=some t->t<n:=λt ht=>by
    unfold BM at hd;rw [ht] at hd;simpa [HG] using hd
   refine tI (λb=>.imm (.bool b)) (λb=>es≠[]->b=true) (λc hc=>by rw [hop] at hc;cases hc) hg hn (λI μ a w hst hops=>?_) λb hb=>hk b hb;rw [hop] at hops;obtain ⟨ad,len,cap,e1,e2⟩:=hnone (hops x (by simp [Op.operands]) _ hx).immInv;have e3:a.eval y = .slice none 0 0:=by
    have:=hops y (by simp [Op.operands]) _ hy;generalize a.eval y=v at this;cases this;rfl
   refine ⟨!ad.isNone,.bool (!ad.isNone),λh=>by rw [e2 h];rfl,?_,.imm _ _ (.bool _)⟩;simp only [execOp,hop,e1,e3];exact A7 (LL (htt.sh ht) x y ad len cap).2
  ·cases h
 ·cases h
theorem Pr (t j:Nat) {d0:D} {x:V} (ht:lk env t=some d0) (hd:vI d0=some x) (hx:V.one x=true) (h:DGo P n F Q todo ((t,.hv j 0)::env) ((j,some (.hp (zb4 x)))::st) ids'):DGo P n F Q todo env st (j::ids'):=by
 refine EY λI μ a w hc=>?_;have hr:RepV I (a.tmps.getD t undef) x:=PO hd (hc.env t _ ht);have h1:=hr.one hx;obtain ⟨q1,q2,q3⟩:=StRep.relay (R:=[]) (new:=[(j,X9 [a.tmps.getD t undef] [],.hp (zb4 x))]) (ids':=ids') hc.toStRep
  (λp hp b hb=>by rw [AP.1 hp] at hb;cases C4.1 hb)
  (λp hp q hq b _ _=>by rw [AP.1 hp,AP.1 hq]) (Imm.le_refl I) hc.imm (λb o h=>.inl h)
  (λ_ p hp=>by rw [AP.1 hp];exact ⟨_,[],rfl,rfl,_,rfl,hr,h1⟩)
 refine ⟨I,_,_,_,ids',q2,λt' d hd=>?_,q3,.of_le q1,h⟩;by_cases e:t=t'
 ·subst e;rw [A0] at hd;cases hd;exact .hv _ j 0 [a.tmps.getD t undef] [] (by simp [Eo,lk]) rfl h1
 ·rw [A6 _ _ e] at hd;exact (hc.env t' d hd).mono (Imm.le_refl I) q1
theorem Yi (t id j:Nat) {len:Nat} (ht:lk env t=some (.own id len)) (hl:lk st id=some (some (.row e sz es))) (h:DGo P n F Q todo ((t,.hv j 0)::env) ((j,some (.hp (zbx e sz es)))::(id,none)::st) ids'):DGo P n F Q todo env st (j::ids'):=by
 refine EY λI μ a w hc=>?_;obtain ⟨g,hg,xs,⟨_,hown⟩,hrep,hsz,hone,hp⟩:=hc.blk id _ hl;have hv:a.tmps.getD t undef=g:=by
  have:=hc.env t _ ht;generalize a.tmps.getD t undef=v at this;cases this with
  | own _ _ ad cap hm=>rw [hm] at hg;cases hg;rfl
 have hg1:g.oneCell'=true:=by
  rcases hown with ⟨rfl,_⟩ | ⟨b,cap,cur,rfl,_⟩ <;> rfl
 obtain ⟨bs,hP,hbs⟩:∃bs,(yM e sz es g).P [] I w bs/\∀b∈bs,E6 g b:=by
  rcases hown with ⟨rfl,h0⟩ | ⟨b,cap,cur,rfl,_,h2,h3,h4,h5,h6⟩
  ·exact ⟨[],.inl ⟨rfl,L7 h0,rfl⟩,λb hb=>by cases hb⟩
  ·rw [<- h6] at hrep;exact ⟨[b],.inr ⟨b,cap,cur,rfl,rfl,h2,h3,h4,h5,hrep,hsz,hone,hp⟩,λb hb=>by rw [AP.1 hb];rfl⟩
 obtain ⟨q1,q2,q3⟩:=StRep.relay (R:=[id]) (new:=[(j,X9 [g] bs,.hp (zbx e sz es))]) (ids':=ids') hc.toStRep
  (λp hp b hb=>by
   rw [AP.1 hp] at hb;exact ⟨id,_,_,by simp,hl,hg,hbs b (C4.1 hb)⟩)
  (λp hp q hq b _ _=>by rw [AP.1 hp,AP.1 hq]) (Imm.le_refl I) hc.imm (λb o h=>.inl h)
  (λ_ p hp=>by rw [AP.1 hp];exact ⟨_,bs,rfl,_,rfl,hP⟩)
 refine ⟨I,_,_,_,ids',q2,λt' d hd=>?_,q3,.of_le q1,h⟩;by_cases e:t=t'
 ·subst e;rw [A0] at hd;cases hd;rw [hv];exact .hv _ j 0 [g] bs (by simp [Eo,lk]) rfl hg1
 ·rw [A6 _ _ e] at hd;exact (hc.env t' d hd).mono (Imm.le_refl I) q1
theorem WT {j:Nat}:∀{ds:List D} {i:Nat} {d:D},TI j ds=true->ds[i]?=some d->(∃k,d = .hv j k)\/JQ d=[]
 | [],i,d,_,h=>by simp at h
 | x::r,i,d,hn,h=>by
  cases i with
  | zero =>
   simp at h;subst h;cases x <;> simp only [TI,Ap] at hn <;> first
    | exact .inl ⟨_,by rw [CD hn.1]⟩
    | (right;revert hn;split <;> simp_all)
  | succ i =>
   refine WT (ds:=r) (i:=i) ?_ (by simpa using h);cases x <;> simp only [TI,Ap] at hn <;> exact hn.2
theorem Uj (htt:TTok P tt) (id j id':Nat) (A':Asn) {c:PRj} (h:WI tt env id j id' todo=some c) (hl:lk st id=some (some (.hp A))) (hlj:lk st j=some (some (.hp B))) (hne:id≠j) (hA:N7 A B A' j c.b c.off c.ds) (hk:G P n F Q c.todo env ((id',some (.hp A'))::(id,none)::(j,none)::st) ids'):G P n F Q todo env st (id'::ids'):=by
 unfold WI at h
 split at h
 ·rename_i all o todo' h1
  split at h
  ·rename_i t p x hgd hdst hop
   split at h
   ·rename_i i b off dx ht hp hx
    split at h
    ·rename_i ds hds
     split at h
     ·rename_i hsz hnm;cases h;simp only at hA hk;have hk:G P n F Q todo' (BK o.dst .undef env) ([(id',some (.hp A')),(id,none),(j,none)]++st) ids':=by rw [hdst];exact hk
      refine BF (fr:=[id']) (wr:=[(id',some (.hp A')),(id,none),(j,none)]) (rd:=[id,j]) h1 ?_ (by simp [BM,hdst]) (λc hc=>by rw [hop] at hc;cases hc) hk;intro I μ st1 ids1 a w hag hst hon;refine ⟨λ_=>?_,λhw=>by rw [AH hgd] at hw;cases hw⟩;have hops:=Bj hon;rw [hop] at hops;have rp:=(hops p (by simp [Op.operands]) _ hp).rawInv;obtain ⟨r1,r2⟩:=JX hds (hops x (by simp [Op.operands]) _ hx);have hl1:A1 st1 id (.hp A):=by unfold A1;rw [hag id (by simp)];exact hl
      have hl2:A1 st1 j (.hp B):=by unfold A1;rw [hag j (by simp)];exact hlj
      obtain ⟨g1,hg1,us,b1,rfl,hP1⟩:=hst.blk id _ hl1;obtain ⟨g2,hg2,vs,b2,rfl,hP2⟩:=hst.blk j _ hl2;obtain ⟨k1,cur,bt,k2,k3,k4⟩:=hA us vs I w b1 b2 hP1 hP2 λb h1 h2=>hne (hst.inj id j _ _ _ _ b hl1 hl2 hg1 hg2 (C4.2 h1) (C4.2 h2));have hvl:(a.eval x).cells.toList.length=ds.length:=r1.1;have hs:=CD hsz;have hrun:(execOp a.eval o).run P w = .ok .skip (w.setRow b (cur.toList.take off++(a.eval x).cells.toList++cur.toList.drop (off+(a.eval x).cells.toList.length)).toArray):=by
       simp only [execOp,hop,rp,Sem.run_bind,LT (htt t i ht) k2 (by rw [<- hs,<- hvl];simp) r2 (show off+(a.eval x).cells.toList.length<=cur.size by rw [hvl];exact k3),Result.andThen_ok,Sem.run_pure]
      rw [hrun,hvl];obtain ⟨bs,z1,z2⟩:=k4 (a.eval x).cells.toList hvl (λq c d hc hd=>by
       have hr:=r1.2 q c d hc hd;rcases WT hnm hd with ⟨kk,rfl⟩ | hno
       ·cases hr with
        | hv _ _ _ us' bs' hm hi h1 =>
         rw [hg2] at hm;have:vs=us':=by
          simp only [X9,Ce,Value.tuple.injEq,Array.mk.injEq,DM,Value.agg.injEq,and_true] at hm;simpa using hm.1
         exact ⟨rfl,by rw [this];exact hi⟩
       ·have:RepD I noMu c d:=hr.sub λj hj=>by rw [hno] at hj;cases hj
        cases d <;> first | exact this | simp [JQ] at hno) r2
      obtain ⟨p1,p2⟩:=hst.update (id:=id) (blk:=.hp A) (blk':=.hp { P:=λ_ _ w' bs'=>w'=w.setRow b (cur.toList.take off++(a.eval x).cells.toList++cur.toList.drop (off+ds.length)).toArray/\bs'=b1\/True,mono:=λ_ h=>h,loc:=λ_ _=>.inr trivial }) (g:=X9 us b1) (b:=b) hl1 hg1 (C4.2 k1) (w':=w.setRow b (cur.toList.take off++(a.eval x).cells.toList++cur.toList.drop (off+ds.length)).toArray) (setRow_size w b _) rfl rfl rfl (λk hk=>setRow_other w b k _ hk) ⟨us,b1,rfl,.inr trivial⟩;obtain ⟨q1,q2,q3⟩:=StRep.relay (R:=[id,j]) (new:=[(id',X9 [] bs,.hp A')]) (ids':=ids1) p1
       (λp hp b hb=>by
        rw [AP.1 hp] at hb;rcases z1 b (C4.1 hb) with h | h
        ·exact ⟨id,_,_,by simp,AB.2 (.inl ⟨rfl,rfl⟩),hg1,C4.2 h⟩
        ·exact ⟨j,_,_,by simp,AB.2 (.inr ⟨λe=>hne e.symm,hl2⟩),hg2,C4.2 h⟩)
       (λp hp q hq b _ _=>by rw [AP.1 hp,AP.1 hq]) (Imm.le_refl I) p1.imm (λb o h=>.inl h)
       (λ_ p hp=>by rw [AP.1 hp];exact ⟨[],bs,rfl,z2⟩)
      have hsame:∀i bb,A1 ([(id',some (.hp A')),(id,none),(j,none)]++st1) i bb->A1 (OR [(id',X9 [] bs,Blk.hp A')]++(Co [id,j]++(id,some (.hp { P:=λ_ _ w' bs'=>w'=w.setRow b (cur.toList.take off++(a.eval x).cells.toList++cur.toList.drop (off+ds.length)).toArray/\bs'=b1\/True,mono:=λ_ h=>h,loc:=λ_ _=>.inr trivial }))::st1)) i bb:=by
       intro i bb hlb;rcases AB.1 hlb with ⟨h1,h2⟩ | ⟨h1,h2⟩
       ·exact AB.2 (.inl ⟨h1,h2⟩)
       ·obtain ⟨h3,h4⟩:=BZ.1 h2;obtain ⟨h5,h6⟩:=BZ.1 h4;exact AB.2 (.inr ⟨h1,BZ.2 ⟨h3,BZ.2 ⟨h5,AB.2 (.inr ⟨h3,h6⟩)⟩⟩⟩)
      obtain ⟨y1,y2⟩:=q2.retell (st1:=[(id',some (.hp A')),(id,none),(j,none)]++st1) λi bb hlb=>⟨bb,hsame i bb hlb,λ_ h=>h⟩
      exact ⟨I,_,y1,.undef _,q1,(p2.trans q3).trans y2⟩
     ·cases h
    ·cases h
   ·cases h
  ·cases h
 ·cases h
def vQ (l:Str):Value:=.string ⟨l.toArray⟩
inductive An where
 | mk (s:Bool) (o n:Int) (x:Str) (v:Value) (ks:List An) (u:Value) (ps:List An)
 | im (s:Bool) (cs:List Value) (c:List V)
mutual
def vA:An->List V
 | .mk s o n x _ ks _ ps=>match s with
  | true=>[.int .i64 o,.int .i64 n,.str x,.sl (vAs ks),.sl (vAs ps)]
  | false=>[.int .i64 o,.int .i64 n,.str x,.sl (vAs ks)]
 | .im _ _ c=>c
def vAs:List An->List (List V)
 | []=>[]
 | a::r=>vA a::vAs r
end
theorem mS:∀l:List An,vAs l=l.map vA
 | []=>rfl
 | a::r=>by simp [vAs,mS r]
@[simp] theorem vAs_length (l:List An):(vAs l).length=l.length:=by rw [mS];simp
mutual
def zcx:An->Prop
 | .mk _ _ _ _ _ ks _ ps=>bO ks/\bO ps
 | .im _ _ _=>False
def bO:List An->Prop
 | []=>True
 | a::r=>zcx a/\bO r
end
def FD:Value->Nat
 | .slice (some a) _ _=>a.block
 | _=>0
def HF (v:Value):Nat->List Nat
 | 0=>[]
 | _+1=>[FD v]
def W6 (w:World) (ty:TypeId) (sz:Nat) (v:Value) (len:Nat):Prop :=
 (len=0/\(∃a c,v = .slice a 0 c)/\∀I,RepV I v (.sl [])) \/
 (0<len/\∃b cap cur,v = .slice (some ⟨b,0,none⟩) len cap/\w.heap[b]?=some (.cells cur ty (0,0))/\len<=cap/\cap<=maxLen/\cur.size=cap*sz)
def yI (w:World) (b off:Nat) (cs:List Value):Prop:=∃cur ty k,w.heap[b]?=some (.cells cur ty k)/\∀(j:Nat) (c:Value),cs[j]?=some c->cur[off+j]?=some c
theorem W5 {ty:TypeId} {len:Nat} (h:∀k∈HF v len,w'.heap[k]?=w.heap[k]?) (hr:W6 w ty sz v len):W6 w' ty sz v len:=by
 rcases hr with hr | ⟨h0,b,cap,cur,rfl,h1,h2⟩
 ·exact .inl hr
 ·refine .inr ⟨h0,b,cap,cur,rfl,(h b ?_).trans h1,h2⟩;cases len with
  | zero=>omega
  | succ n=>simp [HF,FD]
theorem yG (h:w'.heap[b]?=w.heap[b]?) (ha:yI w b off cs):yI w' b off cs:=by
 obtain ⟨cur,ty,k,h1,h2⟩:=ha;exact ⟨cur,ty,k,h.trans h1,h2⟩
theorem W4 {ty:TypeId} {len:Nat} (h:W6 w ty sz v len):v.oneCell'=true:=by
 rcases h with ⟨_,⟨a,c,rfl⟩,_⟩ | ⟨_,b,cap,cur,rfl,_⟩ <;> rfl
theorem RepV.encStr (I:Imm) (l:List UInt8):RepV I (vQ l) (.str l):=.str _ _ (by simp)
theorem NM {cur:Array Value} {ty:TypeId} {k:Nat×Nat} (h:w.heap[b]?=some (.cells cur ty k)) :
  (w.setRow b (cur.toList.take off++cs++cur.toList.drop (off+cs.length)).toArray).heap[b]?=some (.cells (cur.toList.take off++cs++cur.toList.drop (off+cs.length)).toArray ty k):=setRow_heap w b cur _ ty k h
theorem Qz {cur:List Value} (hf:off+cs.length<=cur.length) (i:Nat) :
  (cur.take off++cs++cur.drop (off+cs.length))[i]?=if i<off then cur[i]? else if i<off+cs.length then cs[i-off]? else cur[i]?:=by
 rw [CF,Mg,HH,Xe (by omega)];by_cases h:i<off
 ·rw [if_pos h,if_pos h,D6,if_pos h]
 ·rw [if_neg h,if_neg h,Mg];by_cases h2:i<off+cs.length
  ·rw [if_pos h2,if_pos (by omega)]
  ·rw [if_neg h2,if_neg (by omega),Fj];congr 1;omega
theorem yH {cur:Array Value} {ty:TypeId} {k:Nat×Nat} (h:w.heap[b]?=some (.cells cur ty k)) (hf:off+cs.length<=cur.size) :
  yI (w.setRow b (cur.toList.take off++cs++cur.toList.drop (off+cs.length)).toArray) b off cs:=by
 refine ⟨_,ty,k,NM h,λj c hj=>?_⟩;have hlt:=(AL.1 hj).1;have:=Qz (cur:=cur.toList) (off:=off) (cs:=cs) (by simpa using hf) (off+j);rw [if_neg (by omega),if_pos (by omega),qP,hj] at this;simpa using this
theorem uA {off1:Nat} {cur:Array Value} {ty:TypeId} {k:Nat×Nat} {cs1:List Value} (h:w.heap[b]?=some (.cells cur ty k)) (hf:off+cs.length<=cur.size) (ha:yI w b off1 cs1) (hd:off1+cs1.length<=off\/off+cs.length<=off1) :
  yI (w.setRow b (cur.toList.take off++cs++cur.toList.drop (off+cs.length)).toArray) b off1 cs1:=by
 obtain ⟨cur',ty',k',h1,h2⟩:=ha;rw [h] at h1;cases h1;refine ⟨_,ty,k,NM h,λj c hj=>?_⟩;have hlt:=(AL.1 hj).1;have h3:=h2 j c hj;have:=Qz (cur:=cur.toList) (off:=off) (cs:=cs) (by simpa using hf) (off1+j);rcases hd with hd | hd
 ·rw [if_pos (by omega)] at this;simpa [h3] using this
 ·rw [if_neg (by omega),if_neg (by omega)] at this;simpa [h3] using this
theorem RepV.strEq {l:List UInt8} (h:RepV I v (.str l)):v=vQ l:=by
 cases h with
 | str s _ hs =>
  subst hs;obtain ⟨⟨l⟩⟩:=s;rfl
theorem J9 (id:Nat) (B:α->Asn) (hl:lk st id=some (some (.hp A))) (hA:∀vs I w bs,A.P vs I w bs->∃x,(B x).P vs I w bs) (h:∀x,DGo P n F Q todo env ((id,some (.hp (B x)))::st) ids):DGo P n F Q todo env st ids:=by
 refine EY λI μ a w hc=>?_;obtain ⟨g,hg,vs,bs,rfl,hP⟩:=hc.blk id _ hl;obtain ⟨x,hx⟩:=hA vs I w bs hP;have hlive:∀i b,A1 ((id,some (.hp (B x)))::st) i b->(i=id/\b = .hp (B x))\/(i≠id/\A1 st i b):=λi b hl=>by
  rcases AB.1 hl with ⟨rfl,rfl⟩ | h
  ·exact .inl ⟨rfl,rfl⟩
  ·exact .inr h
 have hold:∀i b,A1 ((id,some (.hp (B x)))::st) i b->∃b0,A1 st i b0:=λi b hl=>by
  rcases hlive i b hl with ⟨rfl,_⟩ | ⟨_,h⟩
  ·exact ⟨_,‹lk st i=_›⟩
  ·exact ⟨_,h⟩
 refine ⟨I,μ,env,_,ids,{ imm:=hc.imm,blk:=λi b hlb=>?_,apart:=λi b g k hlb hg' hk=>?_,inj:=λi j bi bj gi gj k hi hj=>?_,nodup:=hc.nodup,idsFree:=hc.idsFree },λt d hd=>hc.env t d hd,?_,Pin.refl _ _,h x⟩
 ·rcases hlive i b hlb with ⟨rfl,rfl⟩ | ⟨_,h⟩
  ·exact ⟨_,hg,vs,bs,rfl,hx⟩
  ·exact hc.blk i b h
 ·obtain ⟨b0,h0⟩:=hold i b hlb;exact hc.apart i b0 g k h0 hg' hk
 ·obtain ⟨b0,h0⟩:=hold i bi hi;obtain ⟨b1,h1⟩:=hold j bj hj;exact hc.inj i j b0 b1 gi gj k h0 h1
 ·exact { imm:=Imm.le_refl I,os:=rfl,tape:=rfl,output:=rfl,size:=BQ _,block:=λ_ _ _=>rfl,old:=λ_ _ _=>rfl
          fresh:=λb _ ⟨i,bi,g,h1,h2⟩=>let ⟨b0,q⟩:=hold i bi h1;⟨i,b0,g,q,h2⟩ }
mutual
def Zm:Tm->Prop
 | .mk op _ _ ks ps=>ks.length<=1000000/\(∀i:Nat,i<ks.length->FP op i=false->Gi op i=true->∃p,ps[((i:Int)-1).toNat]?=some p/\(oR p).length<=1000000)/\UW ks
def UW:List Tm->Prop
 | []=>True
 | k::r=>Zm k/\UW r
end
def BX:Tm->Int->List Str
 | .mk op _ x _ ps,kid=>if FP op kid then [x] else if Gi op kid then (match ps[(kid-1).toNat]? with | some p=>AV p | none=>[]) else []
theorem uV (op n:Int) (x:Str) (ks:List Tm) (ps:List Ty) (kid:Int) (hk:kid<=1000000) (hp:FP op kid=false->Gi op kid=true->∃p,ps[(kid-1).toNat]?=some p/\Bl p<=1000000) :
  Tq3 103 [.agg (dTmc (.mk op n x ks ps)),.int .i64 kid] (.sl (Dv (BX (.mk op n x ks ps) kid))):=by
 refine Ad Jk func103 rfl [1,2,3]<|JM rfl ?_;by_cases e5:op=5
 ·have e:BX (.mk op n x ks ps) kid=[x]:=by simp [BX,FP,e5]
  rw [e];refine Ab rfl (λh=>?_) (λh=>by simp [e5] at h);refine DP rfl<|Ab rfl (λh=>?_) (λh=>by simp [e5] at h);exact DP rfl<|Aa rfl rfl rfl
 refine Ab rfl (λh=>by simp at h;exact absurd h e5) (λh=>?_);refine DP rfl ?_;by_cases e27:op=27
 ·have e:BX (.mk op n x ks ps) kid=[x]:=by simp [BX,FP,e27]
  rw [e];refine Ab rfl (λh=>?_) (λh=>by simp [e27] at h);exact DP rfl<|Aa rfl rfl rfl
 refine Ab rfl (λh=>by simp at h;exact absurd h e27) (λh=>?_);refine DP rfl ?_;by_cases e7:op=7
 ·refine Ab rfl (λh=>?_) (λh=>by simp [e7] at h);refine DP rfl ?_;by_cases k1:kid=1
  ·have e:BX (.mk op n x ks ps) kid=[x]:=by simp [BX,FP,e7,k1]
   rw [e];refine Ab rfl (λh=>?_) (λh=>by simp [k1] at h);exact DP rfl<|Aa rfl rfl rfl
  ·have e:BX (.mk op n x ks ps) kid=[]:=by simp [BX,FP,Gi,e7,k1]
   rw [e];refine Ab rfl (λh=>by simp at h;exact absurd h k1) (λh=>?_);exact DP rfl<|Aa rfl rfl rfl
 refine Ab rfl (λh=>by simp at h;exact absurd h e7) (λh=>?_);refine DP rfl ?_;have o:FP op kid=false:=by simp [FP,e5,e27,e7]
 by_cases e15:op=15
 ·refine Ab rfl (λh=>?_) (λh=>by simp [e15] at h);refine DP rfl ?_;by_cases k0:0<kid
  ·have pb:Gi op kid=true:=by simp [Gi,e15,k0]
   obtain ⟨p,hp1,hp2⟩:=hp o pb;have e:BX (.mk op n x ks ps) kid=AV p:=by
    show (if FP op kid then [x] else if Gi op kid then (match ps[(kid-1).toNat]? with | some p=>AV p | none=>[]) else [])=AV p;rw [o,pb,hp1];rfl
   rw [e];refine Ab rfl (λh=>?_) (λh=>by simp at h;omega);exact DP rfl<|xL rfl (c:=dTyc p) (λ_=>⟨by rw [GR (by omega) (by omega)];omega,by rw [GR (by omega) (by omega)];exact AE hp1,by simp⟩) (by simp)<|JM rfl<|Aj rfl (λ_=>I0 p hp2) (by simp)<|JM rfl<|Aa rfl rfl rfl
  ·have e:BX (.mk op n x ks ps) kid=[]:=by simp [BX,o,Gi,k0]
   rw [e];refine Ab rfl (λh=>by simp at h;omega) (λh=>?_);exact DP rfl<|Aa rfl rfl rfl
 ·have e:BX (.mk op n x ks ps) kid=[]:=by simp [BX,o,Gi,e15]
  rw [e];refine Ab rfl (λh=>by simp at h;exact absurd h e15) (λh=>?_);exact DP rfl<|Aa rfl rfl rfl
def Lv:List Str->Str->List Str
 | [],s=>[s]
 | x::r,s=>if Op.bytesLess x s then x::Lv r s else if x == s then x::r else s::x::r
theorem dP (s:Str):∀(l:List Str) (i:Nat),i<=l.length->(∀x∈l.take i,Op.bytesLess x s=true)->(∀x,l[i]?=some x->Op.bytesLess x s=false) ->
  Lv l s=if l[i]?=some s then l else l.take i++[s]++l.drop i
 | [],i,hi,_,_=>by
  have:i=0:=by simpa using hi
  subst this;rfl
 | x::r,0,_,_,h2=>by
  have:=h2 x rfl;simp only [Lv,this];by_cases e:x=s
  ·subst e;simp
  ·simp [e]
 | x::r,i+1,hi,h1,h2=>by
  have hx:Op.bytesLess x s=true:=h1 x (by simp);have:=dP s r i (by simpa using hi) (λy hy=>h1 y (by simp [hy])) (λy hy=>h2 y (by simpa using hy));simp only [Lv,hx,if_true,this,ZW];by_cases e:r[i]?=some s
  ·rw [if_pos e,if_pos e]
  ·rw [if_neg e,if_neg e];simp
theorem Zh (l:List Str) (s:Str) (hlen:l.length<=1000000):Tq3 104 [.sl (Dv l),.str s] (.sl (Dv (Lv l s))):=by
 refine Ad Jk func104 rfl [1,2,3,4]<|JM rfl<|Ak (λi:Nat=>[(5,.imm (.int .i64 i)),(0,.imm (.sl (Dv l))),(1,.imm (.str s))]) (λ_=>[]) [1,2,3,4] (λi=>l.length-i) (λi=>i<=l.length/\∀x∈l.take i,Op.bytesLess x s=true) 0
  ⟨AJ _,λx hx=>by simp at hx⟩ AC trivial rfl λi hi ih=>?_
 obtain ⟨hi1,hi2⟩:=hi;have out:(∀x,l[i]?=some x->Op.bytesLess x s=false)->Tq2 Tryz.f104.ntmps (D8 []) (JD mE Tryz.f104.results.toList (.ret (.imm (.sl (Dv (Lv l s)))) []))
   [.code (FK Tryz.f104 3)] [(5,.imm (.int .i64 i)),(0,.imm (.sl (Dv l))),(1,.imm (.str s))] [] [1,2,3,4]:=λh2=>by
  rw [dP s l i hi1 hi2 h2];have one:∀c∈Dv l,c.length=1:=Nv l;refine DP rfl ?_;have add:¬l[i]?=some s->Tq2 Tryz.f104.ntmps (D8 []) (JD mE Tryz.f104.results.toList (.ret (.imm (.sl (Dv (l.take i++[s]++l.drop i)))) []))
    [.code (FK Tryz.f104 4)] [(5,.imm (.int .i64 i)),(0,.imm (.sl (Dv l))),(1,.imm (.str s))] [] [1,2,3,4]:=λhne=>by
   refine fd_ [] rfl ⟨λ_=>⟨by omega,by simp;omega⟩,one,trivial⟩<|B7 Jk rfl ⟨λc hc=>one c (LA hc),by simp [maxLen];omega,by simp;omega,trivial⟩ ?_;have ht:(Dv l).take ((i:Int)).toNat=Dv (l.take i):=by rw [Ux];rfl
   have hd:(Dv l).drop ((i:Int)).toNat=Dv (l.drop i):=by simp [Dv,List.map_drop]
   refine JM rfl<|B7 Jk rfl ⟨by simp,by simp [maxLen];omega,by simp;omega,trivial⟩<|fg_ [] rfl ⟨λ_=>⟨by omega,by simp;omega⟩,one,trivial⟩<|B7 Jk rfl ⟨λc hc=>one c (Pd hc),by simp [maxLen];omega,by simp;omega,trivial⟩<|fg_ [] rfl A9<|BC 3 rfl<|Aa rfl rfl (congrArg _ ?_);rw [Ix,Ix,<- ht,<- hd];rfl
  by_cases hlt:i<l.length
  ·obtain ⟨x,hx⟩:=Ao hlt;refine xL rfl (c:=[.str x]) (λ_=>⟨by simp,by simpa using HW hx,rfl⟩) (by simp [Am])<|fL rfl<|Ab rfl (λh=>?_) (λh=>?_)
   ·have hl:x=s:=by simpa [hlt] using h
    subst hl;rw [if_pos hx];exact DP rfl<|Aa rfl rfl rfl
   ·have hl:¬x=s:=by simpa [hlt] using h
    have hne:¬l[i]?=some s:=λe=>by rw [hx] at e;cases e;exact hl rfl
    rw [if_neg hne];exact IX<|Ac (add hne) AC trivial rfl
  ·have hne:¬l[i]?=some s:=λe=>by rw [JK (by omega)] at e;cases e
   rw [if_neg hne];refine xL rfl (c:=[.str []]) (λh=>by simp [Am] at h;omega) (by simp [Am])<|fL rfl<|Ab rfl (λh=>by simp [hlt] at h) (λh=>?_);exact IX<|Ac (add hne) AC trivial rfl
 refine DP rfl ?_;by_cases hlt:i<l.length
 ·obtain ⟨x,hx⟩:=Ao hlt;refine xL rfl (c:=[.str x]) (λ_=>⟨by simp,by simpa using HW hx,rfl⟩) (by simp [Am])<|fL rfl<|Ab rfl (λh=>?_) (λh=>?_)
  ·have hl:Op.bytesLess x s=true:=by simpa [hlt] using h
   refine DP rfl<|Ac (ih (i+1) (by omega) ⟨by omega,λy hy=>?_⟩) ⟨AU,AK⟩ trivial rfl;rw [Bp hx] at hy;rcases BN.1 hy with hy | hy
   ·exact hi2 y hy
   ·simp at hy;subst hy;exact hl
  ·have hl:Op.bytesLess x s=false:=by simpa [hlt] using h
   exact Az rfl<|Ac (out λy hy=>by rw [hx] at hy;cases hy;exact hl) AC trivial rfl
 ·refine xL rfl (c:=[.str []]) (λh=>by simp [Am] at h;omega) (by simp [Am])<|fL rfl<|Ab rfl (λh=>by simp [hlt] at h) (λh=>?_);exact Az rfl<|Ac (out λy hy=>by rw [JK (by omega)] at hy;cases hy) AC trivial rfl
def G5 (b:List Str):List Str->List Str->List Str
 | [],out=>out
 | x::r,out=>G5 b r (if BE b x then out else Lv out x)
mutual
def Fh:Tm->List Str
 | .mk op n x ks ps=>if op=4 then [x] else Fu (.mk op n x ks ps) 0 ks []
def Fu (t:Tm):Nat->List Tm->List Str->List Str
 | _,[],out=>out
 | i,k::r,out=>Fu t (i+1) r (G5 (BX t i) (Fh k) out)
end
mutual
def Je:Tm->Nat
 | .mk _ _ _ ks _=>1+Fl ks
def Fl:List Tm->Nat
 | []=>0
 | k::r=>Je k+Fl r
end
mutual
def KT:Tm->Prop
 | .mk op _ _ ks ps=>ks.length<=1000000/\(∀i:Nat,i<ks.length->FP op i=false->Gi op i=true->∃p,ps[((i:Int)-1).toNat]?=some p/\Bl p<=1000000)/\MA ks
def MA:List Tm->Prop
 | []=>True
 | k::r=>KT k/\MA r
end
theorem Jp:∀{l:List Tm} {t:Tm},MA l->t∈l->KT t
 | [],_,_,h=>by simp at h
 | k::r,t,h,hm=>by
  rcases Cy.1 hm with rfl | hm
  ·exact h.1
  ·exact Jp h.2 hm
theorem QD:∀(l:List Str) (s:Str),(Lv l s).length<=l.length+1
 | [],s=>by simp [Lv]
 | x::r,s=>by
  have:=QD r s;simp only [Lv]
  split
  ·simp only [Da];omega
  ·split <;> simp
theorem Sc (b:List Str):∀(l out:List Str),(G5 b l out).length<=out.length+l.length
 | [],out=>by simp [G5]
 | x::r,out=>by
  simp only [G5];have h1:=Sc b r (if BE b x then out else Lv out x);have h2:=QD out x;have h3:(if BE b x then out else Lv out x).length<=out.length+1:=by split <;> omega
  simp only [Da];omega
mutual
theorem Tx:∀t:Tm,(Fh t).length<=Je t
 | .mk op n x ks ps=>by
  simp only [Fh,Je]
  split
  ·simp
  ·have:=OL (.mk op n x ks ps) 0 ks [];simp at this;omega
theorem OL (t:Tm):∀(i:Nat) (ks:List Tm) (out:List Str),(Fu t i ks out).length<=out.length+Fl ks
 | _,[],out=>by simp [Fu,Fl]
 | i,k::r,out=>by
  simp only [Fu,Fl];have h1:=OL t (i+1) r (G5 (BX t i) (Fh k) out);have h2:=Sc (BX t i) (Fh k) out;have h3:=Tx k;omega
end
theorem WG:∀(t:Tm),KT t->Je t<=1000000->Tq3 39 [.agg (dTmc t)] (.sl (Dv (Fh t)))
 | .mk op n x ks ps,hok,hc=>by
  obtain ⟨hk1,hk2,hk3⟩:=hok;refine Ad Jk func39 rfl [1,2,3]<|JM rfl<|Ab rfl (λh=>?_) (λh=>?_)
  ·have e:op=4:=by simpa using h
   have e2:Fh (.mk op n x ks ps)=[x]:=by simp [Fh,e]
   rw [e2];exact DP rfl<|Aa rfl rfl rfl
  ·have e:¬op=4:=by simpa using h
   have e2:Fh (.mk op n x ks ps)=Fu (.mk op n x ks ps) 0 ks []:=by simp [Fh,e]
   rw [e2];refine DP rfl<|Ak (λy:Nat×List Str=>[(4,.imm (.int .i64 y.1)),(3,.imm (.sl (Dv y.2))),(1,.ref 1 0)]) (λ_=>[(1,some (.immb 49 5 (dTmc (.mk op n x ks ps))))]) [2,3] (λy=>ks.length-y.1)
    (λy=>y.1<=ks.length/\Fu (.mk op n x ks ps) 0 ks []=Fu (.mk op n x ks ps) y.1 (ks.drop y.1) y.2/\y.2.length+Fl (ks.drop y.1)<=1000000) (0,[])
    ⟨AJ _,rfl,by simp only [Je] at hc;simp;omega⟩ AC A9 rfl λy hi ih=>?_
   obtain ⟨i,out⟩:=y;obtain ⟨hi1,hi2,hi3⟩:=hi;simp only at hi1 hi2 hi3;refine DP rfl<|Ab rfl (λh=>?_) (λh=>?_)
   ·simp at h;obtain ⟨k,hk⟩:=Ao h;rw [Av hk] at hi2 hi3;simp only [Fl] at hi3;have hkc:=Tx k;refine DP rfl<|fi_z rfl (Eu hk)<|JM rfl<|Aj rfl (λ_=>WG k (Jp hk3 (AF hk)) (by omega)) (by simp)<|JM rfl<|Aj rfl (λ_=>uV op n x ks ps i (by omega) (hk2 i h)) (by simp)<|fg_ [] rfl (by simp;rfl) ?_;have hbnd:out.length+(Fh k).length<=1000000:=by omega
    refine Ak (λz:Nat×List Str=>[(7,.imm (.int .i64 z.1)),(6,.imm (.sl (Dv (BX (.mk op n x ks ps) i)))),(5,.imm (.sl (Dv (Fh k)))),(3,.imm (.sl (Dv z.2))),(4,.imm (.int .i64 i)),(1,.ref 1 0)])
     (λ_=>[(1,some (.immb 49 5 (dTmc (.mk op n x ks ps))))]) [2,3] (λz=>(Fh k).length-z.1)
     (λz=>z.1<=(Fh k).length/\G5 (BX (.mk op n x ks ps) i) (Fh k) out=G5 (BX (.mk op n x ks ps) i) ((Fh k).drop z.1) z.2/\z.2.length<=out.length+z.1) (0,out)
     ⟨AJ _,rfl,by simp⟩ GU A9 rfl λz hz ihz=>?_
    obtain ⟨j,o⟩:=z;obtain ⟨hj1,hj2,hj3⟩:=hz;simp only at hj1 hj2 hj3;refine DP rfl<|Ab rfl (λh4=>?_) (λh4=>?_)
    ·simp at h4;obtain ⟨s,hs⟩:=Ao h4;rw [Av hs] at hj2;simp only [G5] at hj2;refine DP rfl<|xL rfl (c:=[.str s]) (λ_=>⟨by simp,by simpa using HW hs,rfl⟩) (by simp)<|JM rfl<|Aj rfl (λ_=>VV (BX (.mk op n x ks ps) i) s) (by simp)<|JM rfl<|Ab rfl (λh5=>?_) (λh5=>?_)
     ·have hh:BE (BX (.mk op n x ks ps) i) s=false:=by simpa using h5
      rw [hh] at hj2;refine DP rfl<|xL rfl (c:=[.str s]) (λ_=>⟨by simp,by simpa using HW hs,rfl⟩) (by simp)<|JM rfl<|Aj rfl (λ_=>Zh o s (by omega)) (by simp)<|JM rfl ?_;have:=QD o s;exact Ac (ihz (j+1,Lv o s) (by simp only;omega) ⟨by simp only;omega,hj2,by simp only;omega⟩) ⟨BB (GR (by simp only;omega) (by simp only;omega)),B6⟩ A9 rfl
     ·have hh:BE (BX (.mk op n x ks ps) i) s=true:=by simpa using h5
      rw [hh] at hj2;exact DP rfl<|Ac (ihz (j+1,o) (by simp only;omega) ⟨by simp only;omega,hj2,by simp only;omega⟩) ⟨BB (GR (by simp only;omega) (by simp only;omega)),B6⟩ A9 rfl
    ·simp at h4;rw [Bo (by omega)] at hj2;have hj2:G5 (BX (.mk op n x ks ps) i) (Fh k) out=o:=hj2;exact Az rfl<|DP rfl<|Ac (ih (i+1,o) (by simp only;omega) ⟨by simp only;omega,by simp only;rw [hi2];simp only [Fu];rw [hj2],by simp only;omega⟩) ⟨AU,AK⟩ A9 rfl
   ·simp at h;rw [Bo (by omega)] at hi2;refine Az rfl<|DP rfl<|Aa rfl rfl ?_;rw [hi2];rfl
termination_by t=>SizeOf.sizeOf t
decreasing_by
 all_goals
  have:=Cj (AF hk);simp_wf;omega
mutual
theorem Qk:∀(t:Ty) (l:Int),(Bl t:Int)<=l->0<=Ci t l
 | .mk _ _ _ ps,l,h=>by
  simp only [Bl] at h;simp only [Ci];rw [if_neg (by omega)];exact O4 ps (l-1) (by omega)
theorem O4:∀(ts:List Ty) (l:Int),(A2 ts:Int)<=l->0<=Cl ts l
 | [],l,h=>by simpa [Cl,A2] using h
 | t::r,l,h=>by
  simp only [A2] at h;simp only [Cl];rw [if_pos (by omega)];have h1:=Qk t l (by omega);have h2:=Ex t l h1;exact O4 r _ (by omega)
end
theorem NF (t:Ty) (l:Nat):decide (0<=Ci t l)=decide (Bl t<=l):=by
 by_cases h:Bl t<=l
 ·rw [decide_eq_true h,decide_eq_true (Qk t l (by omega))]
 ·rw [decide_eq_false h];refine decide_eq_false λh1=>h ?_;have:=Ex t l h1;omega
theorem XP (t:Ty):AO true t=cW t:=by
 simp only [AO,cW];rw [<- NF t 12];rfl
theorem Nm (t:Ty):AO false t=Cw t:=by
 simp only [AO,Cw];rw [<- NF t 12];rfl
theorem lS (t:Ty):CM t=EM t:=by
 simp only [CM,EM];rw [<- NF t 12,Me];rfl
theorem YG (p:Nat) (h:p<=1000):IntKind.i64.wrap (1+(p:Int))=1+(p:Int):=GR (by omega) (by omega)
theorem pO (op n:Int) (x:Str) (k:Nat) (ps:List Ty) (hp:ps.length<=1000):CO op n x k ps=(Bv op n x k ps.length&&ps.all EM):=by
 have hc:CM=EM:=funext lS;have hw:=YG ps.length hp;by_cases h1:op=1
 ·subst h1;cases ps <;> simp [CO,CX,Bz,C1,Bv,AS,Bk,Dz,AW] <;> grind
 by_cases h2:op=2
 ·subst h2;cases ps <;> simp [CO,CX,Bz,C1,Bv,AS,Bk,Dz,AW] <;> grind
 by_cases h3:op=3
 ·subst h3;cases ps <;> simp [CO,CX,Bz,C1,Bv,AS,Bk,Dz,AW] <;> grind
 by_cases h4:op=4
 ·subst h4;cases ps <;> simp [CO,CX,Bz,C1,Bv,AS,Bk,Dz,AW] <;> grind
 by_cases h5:op=5
 ·subst h5;cases ps <;> simp [CO,CX,Bz,C1,Bv,AS,Bk,Dz,AW] <;> grind
 by_cases h6:op=6
 ·subst h6;cases ps <;> simp [CO,CX,Bz,C1,Bv,AS,Bk,Dz,AW] <;> grind
 by_cases h7:op=7
 ·subst h7;cases ps <;> simp [CO,CX,Bz,C1,Bv,AS,Bk,Dz,AW] <;> grind
 by_cases h8:op=8
 ·subst h8;cases ps <;> simp [CO,CX,Bz,C1,Bv,AS,Bk,Dz,AW] <;> grind
 by_cases h9:op=9
 ·subst h9;cases ps <;> simp [CO,CX,Bz,C1,Bv,AS,Bk,Dz,AW] <;> grind
 by_cases h10:op=10
 ·subst h10;cases ps <;> simp [CO,CX,Bz,C1,Bv,AS,Bk,Dz,AW] <;> grind
 by_cases h11:op=11
 ·subst h11;cases ps <;> simp [CO,CX,Bz,C1,Bv,AS,Bk,Dz,AW] <;> grind
 by_cases h12:op=12
 ·subst h12;cases ps <;> simp [CO,CX,Bz,C1,Bv,AS,Bk,Dz,AW] <;> grind
 by_cases h13:op=13
 ·subst h13;cases ps <;> simp [CO,CX,Bz,C1,Bv,AS,Bk,Dz,AW] <;> grind
 by_cases h14:op=14
 ·subst h14;have hk:(if (3:Int)<k then 3 else (k:Int))=k↔(k:Int)<=3:=by split <;> omega
  cases ps <;> simp [CO,CX,Bz,C1,Bv,AS,Bk] <;> grind
 by_cases h15:op=15
 ·subst h15;simp only [CO,CX,Bz,C1,Bv,AS,Bk,Dz,hc];simp [hw];grind
 by_cases h16:op=16
 ·subst h16;cases ps <;> simp [CO,CX,Bz,C1,Bv,AS,Bk,Dz,AW] <;> grind
 by_cases h17:op=17
 ·subst h17;cases ps <;> simp [CO,CX,Bz,C1,Bv,AS,Bk,Dz,AW] <;> grind
 by_cases h18:op=18
 ·subst h18;cases ps <;> simp [CO,CX,Bz,C1,Bv,AS,Bk,Dz,AW] <;> grind
 by_cases h19:op=19
 ·subst h19;cases ps <;> simp [CO,CX,Bz,C1,Bv,AS,Bk,Dz,AW] <;> grind
 by_cases h20:op=20
 ·subst h20;cases ps <;> simp [CO,CX,Bz,C1,Bv,AS,Bk,Dz,AW] <;> grind
 by_cases h21:op=21
 ·subst h21;cases ps <;> simp [CO,CX,Bz,C1,Bv,AS,Bk,Dz,AW] <;> grind
 by_cases h22:op=22
 ·subst h22;cases ps <;> simp [CO,CX,Bz,C1,Bv,AS,Bk,Dz,AW] <;> grind
 by_cases h23:op=23
 ·subst h23;cases ps <;> simp [CO,CX,Bz,C1,Bv,AS,Bk,Dz,AW] <;> grind
 by_cases h24:op=24
 ·subst h24;cases ps <;> simp [CO,CX,Bz,C1,Bv,AS,Bk,Dz,AW] <;> grind
 by_cases h25:op=25
 ·subst h25;cases ps <;> simp [CO,CX,Bz,C1,Bv,AS,Bk,Dz,AW] <;> grind
 by_cases h26:op=26
 ·subst h26;cases ps <;> simp [CO,CX,Bz,C1,Bv,AS,Bk,Dz,AW] <;> grind
 by_cases h27:op=27
 ·subst h27;cases ps <;> simp [CO,CX,Bz,C1,Bv,AS,Bk,Dz,AW] <;> grind
 by_cases h28:op=28
 ·subst h28;cases ps <;> simp [CO,CX,Bz,C1,Bv,AS,Bk,Dz,AW] <;> grind
 simp [CO,CX,Bv,AS,h1,h2,h3,h4,h5,h6,h7,h8,h9,h10,h11,h12,h13,h14,h15,h16,h17,h18,h19,h20,h21,h22,h23,h24,h25,h26,h27,h28]
mutual
theorem LX:∀(t:Tm),FM t=true->Ho t=BU t
 | .mk op n x ks ps,h=>by
  simp only [FM,Ap,decide_eq_true_eq] at h;simp only [Ho,BU];rw [pO op n x ks.length ps (by omega),OQ ks h.2]
theorem OQ:∀(ts:List Tm),Ek ts=true->FQ ts=Cm ts
 | [],_=>rfl
 | t::r,h=>by
  simp only [Ek,Ap] at h;simp only [FQ,Cm];rw [LX t h.1,OQ r h.2]
end
theorem cG (t:Tm) (h:D1 t=true):G3 t=EB t:=by
 simp only [D1,Ap] at h;simp only [G3,EB];rw [LX t h.2]
theorem yB (c:Cd):Ps c=Lz c:=by
 simp only [Ps,Lz];rw [show AO false=Cw from funext Nm]
theorem tL (d:Dt):HU d=He d:=by
 simp only [HU,He,Dz];rw [show Ps=Lz from funext yB];simp only [Me]
theorem fJ (f:Fd) (h:Ez f=true):K4 f=K5 f:=by
 simp only [Ez,Ap] at h;simp only [K4,K5,Nm,cG f.body h.2]
theorem Vc (m:Md) (h:BY m=true):Hc m=BV m:=by
 simp only [BY,Ap] at h;have hf:m.funs.all K4=m.funs.all K5:=by
  rw [Fq];simp only [CS];exact ⟨λq f hf=>by rw [<- fJ f (CS.1 h.2 f hf)];exact q f hf,λq f hf=>by rw [fJ f (CS.1 h.2 f hf)];exact q f hf⟩
 simp only [Hc,BV,Dz];rw [show HU=He from funext tL,hf];simp only [Me]
mutual
theorem T8:∀t:Ty,(UV t).length<=Bl t
 | .mk s n x ps=>by
  have:=QG ps;simp only [UV,Bl,B5]
  split <;> simp <;> omega
theorem QG:∀ts:List Ty,(M9 ts).length<=A2 ts
 | []=>by simp [M9]
 | t::r=>by
  have h1:=T8 t;have h2:=QG r;simp only [M9,A2,B5];omega
end
theorem oM (l:List Str) (s x:Str):x∈Lv l s↔x=s\/x∈l:=by
 induction l with
 | nil=>simp [Lv]
 | cons y r ih =>
  simp only [Lv]
  split
  ·simp only [Cy,ih];constructor
   ·rintro (h | h | h)
    ·exact .inr (.inl h)
    ·exact .inl h
    ·exact .inr (.inr h)
   ·rintro (h | h | h)
    ·exact .inr (.inl h)
    ·exact .inl h
    ·exact .inr (.inr h)
  ·split
   ·rename_i h;have e:y=s:=by simpa using h
    subst e;simp only [Cy];constructor
    ·intro h;exact .inr h
    ·rintro (h | h)
     ·exact .inl h
     ·exact h
   ·simp only [Cy]
theorem Sa (b:List Str) (x:Str):∀(l out:List Str),x∈G5 b l out↔x∈out\/(x∈l/\BE b x=false)
 | [],out=>by simp [G5]
 | y::r,out=>by
  simp only [G5];rw [Sa b x r];cases h:BE b y with
  | true =>
   simp only [if_true,Cy];constructor
   ·rintro (h1 | ⟨h1,h2⟩)
    ·exact .inl h1
    ·exact .inr ⟨.inr h1,h2⟩
   ·rintro (h1 | ⟨h1 | h1,h2⟩)
    ·exact .inl h1
    ·subst h1;rw [h] at h2;cases h2
    ·exact .inr ⟨h1,h2⟩
  | false =>
   simp only [DK,if_false,oM,Cy];constructor
   ·rintro ((h1 | h1) | ⟨h1,h2⟩)
    ·subst h1;exact .inr ⟨.inl rfl,h⟩
    ·exact .inl h1
    ·exact .inr ⟨.inr h1,h2⟩
   ·rintro (h1 | ⟨h1 | h1,h2⟩)
    ·exact .inl (.inr h1)
    ·exact .inl (.inl h1)
    ·exact .inr ⟨h1,h2⟩
mutual
def mG:Tm->Str->Prop
 | .mk op n x ks ps,y=>if op=4 then y=x else Ry (.mk op n x ks ps) 0 ks y
def Ry (t:Tm):Nat->List Tm->Str->Prop
 | _,[],_=>False
 | i,k::r,y=>(mG k y/\BE (BX t i) y=false)\/Ry t (i+1) r y
end
mutual
theorem WA:∀(t:Tm) (y:Str),y∈Fh t↔mG t y
 | .mk op n x ks ps,y=>by
  simp only [Fh,mG]
  split
  ·simp
  ·rw [QA (.mk op n x ks ps) 0 ks [] y];simp
theorem QA (t:Tm):∀(i:Nat) (ks:List Tm) (out:List Str) (y:Str),y∈Fu t i ks out↔y∈out\/Ry t i ks y
 | _,[],out,y=>by simp [Fu,Ry]
 | i,k::r,out,y=>by
  simp only [Fu,Ry];rw [QA t (i+1) r _ y,Sa,WA k y];constructor
  ·rintro ((h | h) | h)
   ·exact .inl h
   ·exact .inr (.inl h)
   ·exact .inr (.inr h)
  ·rintro (h | h | h)
   ·exact .inl (.inl h)
   ·exact .inl (.inr h)
   ·exact .inr h
end
theorem Oi {l:List Str}:BE l s=true↔s∈l:=by
 induction l with
 | nil=>simp [BE]
 | cons x r ih =>
  simp only [BE,Ha,beq_iff_eq,Cy,ih];constructor
  ·rintro (h | h)
   ·exact .inl h.symm
   ·exact .inr h
  ·rintro (h | h)
   ·exact .inl h.symm
   ·exact .inr h
mutual
def Fv:Tm->Prop
 | .mk _ _ _ ks ps=>(∀p∈ps,CZ p=true)/\Kd ks
def Kd:List Tm->Prop
 | []=>True
 | k::r=>Fv k/\Kd r
end
mutual
theorem L5:∀t:Tm,BU t=true->Fv t
 | .mk op n x ks ps,h=>by
  simp only [BU,Ap] at h;simp only [Fv];refine ⟨λp hp=>?_,Kg ks h.2⟩;have h1:ps.all EM=true:=by
   first
    | exact h.1.2
    | exact h.1.1
  have h2:=CS.1 h1 p hp;simp only [EM,Ap] at h2;exact h2.1.2
theorem Kg:∀ts:List Tm,Cm ts=true->Kd ts
 | [],_=>trivial
 | t::r,h=>by
  simp only [Cm,Ap] at h;exact ⟨L5 t h.1,Kg r h.2⟩
end
theorem fV (t:Tm):1<=Je t:=by obtain ⟨_,_,_,_,_⟩:=t;simp [Je]
theorem eQ:∀ks:List Tm,ks.length<=Fl ks
 | []=>by simp [Fl]
 | k::r=>by have:=eQ r;have:=fV k;simp only [Da,Fl];omega
theorem iZ {p:Ty} (h:EM p=true):Bl p<=12:=by
 simp only [EM,Ap,decide_eq_true_eq] at h;have:=Ex p 12 h.1.1;omega
theorem Zv {op n:Int} {k p:Nat} (h:Bv op n x k p=true) (hp:Gi op i=true) (hi:i<k):((i:Int)-1).toNat<p:=by
 simp only [Gi,Ap,beq_iff_eq,decide_eq_true_eq] at hp;obtain ⟨rfl,h0⟩:=hp;simp [Bv] at h;omega
mutual
theorem OP:∀t:Tm,BU t=true->Je t<=1000000->KT t/\Zm t
 | .mk op n x ks ps,h,hc=>by
  simp only [BU,Ap] at h;obtain ⟨⟨h1,h2⟩,h3⟩:=h;simp only [Je] at hc;have hl:=eQ ks;obtain ⟨q1,q2⟩:=ML ks h3 (by omega);have get:∀i:Nat,i<ks.length->Gi op i=true->∃p,ps[((i:Int)-1).toNat]?=some p/\Bl p<=12:=λi hi hp=>by
   have hlt:=Zv h1 hp hi;exact ⟨ps[((i:Int)-1).toNat],by simp [hlt],iZ (CS.1 h2 _ (by simp))⟩
  refine ⟨⟨by omega,λi hi _ hp=>?_,q1⟩,⟨by omega,λi hi _ hp=>?_,q2⟩⟩
  ·obtain ⟨p,e1,e2⟩:=get i hi hp;exact ⟨p,e1,by omega⟩
  ·obtain ⟨p,e1,e2⟩:=get i hi hp;have:=T8 p;exact ⟨p,e1,by simp only [oR,Dn];omega⟩
theorem ML:∀ts:List Tm,Cm ts=true->Fl ts<=1000000->MA ts/\UW ts
 | [],_,_=>⟨trivial,trivial⟩
 | t::r,h,hc=>by
  simp only [Cm,Ap] at h;simp only [Fl] at hc;obtain ⟨a1,a2⟩:=OP t h.1 (by omega);obtain ⟨b1,b2⟩:=ML r h.2 (by omega);exact ⟨⟨a1,b1⟩,⟨a2,b2⟩⟩
end
mutual
theorem SV:∀(t:Tm) (l d:Int),0<=AY t l d->AY t l d+Je t<=l
 | .mk _ _ _ ks _,l,d,h=>by
  simp only [AY] at h ⊢;by_cases h0:l<1\/d<1
  ·rw [if_pos h0] at h;omega
  ·rw [if_neg h0] at h ⊢;have:=Qj ks (l-1) (d-1) h;simp only [Je];omega
theorem Qj:∀(ts:List Tm) (l d:Int),0<=Bs ts l d->Bs ts l d+Fl ts<=l
 | [],l,_,h=>by simp [Bs,Fl]
 | t::r,l,d,h=>by
  simp only [Bs] at h ⊢;by_cases h0:0<=l
  ·rw [if_pos h0] at h ⊢;have h1:=Qj r (AY t l d) d h;by_cases h2:0<=AY t l d
   ·have:=SV t l d h2;simp only [Fl];omega
   ·have:=(If r (AY t l d) d (Gn t l d).1).2;omega
  ·rw [if_neg h0] at h;omega
end
theorem Ti (t:Tm) (h:EB t=true):Fv t/\Zm t/\KT t/\Je t<=60:=by
 simp only [EB,Ap,decide_eq_true_eq] at h;have hc:=SV t 60 14 h.1;have hc2:Je t<=60:=by omega
 obtain ⟨a,b⟩:=OP t h.2 (by omega);exact ⟨L5 t h.2,b,a,hc2⟩
theorem XR:∀(vs pre post:List Value),post.length=vs.length->(∀v∈vs,v.oneCell'=true) ->
  Instr.fill (λi=>some (i*1,1)) (pre++post).toArray (vs.zipIdx pre.length |>.map λp=>(p.2,p.1))=some (pre++vs).toArray
 | [],pre,post,h,_=>by
  have:post=[]:=L7 h;subst this;rfl
 | v::r,pre,post,h,h1=>by
  cases post with
  | nil=>simp at h
  | cons p q =>
   have hc:=H6 (h1 v (by simp));simp only [qG,C6,Instr.fill,hc];rw [if_neg (by simp)];have ih:=XR r (pre++[v]) q (by simpa using h) (λu hu=>h1 u (by simp [hu]));simp only [B5,Da,Cz,CF,De,IO] at ih;rw [<- ih];congr 1;simp [Nat.mul_one]
def Ke (env:Env):Nat->List (Nat×Operand)->Option (List D)
 | _,[]=>some []
 | i,(j,x)::r=>match Nat.beq i j,Eg env x,Ke env (i+1) r with
  | true,some d,some ds=>match d.one with
   | true=>some (d::ds)
   | false=>none
  | _,_,_=>none
structure PBa where
 ds:List D
 dst:Option Nat
 todo:List DI
theorem ON {a:Act}:∀{ps:List (Nat×Operand)} {i:Nat} {ds:List D},Ke env i ps=some ds->(∀x∈ps.map (·.2),∀d,Eg env x=some d->RepD I μ (a.eval x) d) ->
  ps.map (λp=>(p.1,a.eval p.2))=((ps.map λp=>a.eval p.2).zipIdx i).map (λp=>(p.2,p.1))/\RepL I μ (ps.map λp=>a.eval p.2) ds/\∀v∈ps.map (λp=>a.eval p.2),v.oneCell'=true
 | [],i,ds,h,_=>by
  simp only [Ke,Ce] at h;subst h;exact ⟨rfl,⟨rfl,λi v d h=>by simp at h⟩,λv h=>by simp at h⟩
 | (j,x)::r,i,ds,h,hx=>by
  simp only [Ke] at h
  split at h
  ·rename_i d ds' hj hd hr
   split at h
   ·rename_i h1;cases h;have hj:=CD hj;subst hj;have hv:=hx x (by simp) d hd;obtain ⟨q1,q2,q3⟩:=ON (a:=a) hr (λy hy=>hx y (by simp at hy ⊢;exact .inr hy));refine ⟨by simp [q1],⟨by simp [q2.1],λk v d' h1 h2=>?_⟩,λv hv'=>?_⟩
    ·cases k with
     | zero=>simp at h1 h2;rw [<- h1,<- h2];exact hv
     | succ k=>exact q2.2 k v d' (by simpa using h1) (by simpa using h2)
    ·simp only [C6,Cy] at hv';rcases hv' with rfl | hv'
     ·exact hv.one h1
     ·exact q3 v hv'
   ·cases h
  ·cases h
mutual
def uX:Tm->Nat
 | .mk _ _ _ ks _=>SK ks 0+1
def SK:List Tm->Nat->Nat
 | [],m=>m
 | k::r,m=>SK r (max m (uX k))
end
theorem VF:∀(ks:List Tm) (m:Nat),m<=SK ks m
 | [],m=>by simp [SK]
 | k::r,m=>by
  have:=VF r (max m (uX k));simp only [SK];omega
structure Upd (w w':World) (b off sz:Nat):Prop where
 other:∀k,k≠b->w'.heap[k]?=w.heap[k]?
 same:∀cur ty k,w.heap[b]?=some (.cells cur ty k)->∃cur',w'.heap[b]?=some (.cells cur' ty k)/\cur'.size=cur.size/\∀i,(i<off\/off+sz<=i)->cur'[i]?=cur[i]?
theorem Upd.row (h:Upd w w' b off sz) {ty:TypeId} {s:Nat} {len:Nat} (hr:W6 w ty s v len):W6 w' ty s v len:=by
 rcases hr with hr | ⟨h0,b',cap,cur,rfl,h1,h2,h3,h4⟩
 ·exact .inl hr
 ·by_cases e:b'=b
  ·subst e;obtain ⟨cur',q1,q2,_⟩:=h.same cur ty (0,0) h1;exact .inr ⟨h0,b',cap,cur',rfl,q1,h2,h3,by rw [q2,h4]⟩
  ·exact .inr ⟨h0,b',cap,cur,rfl,(h.other b' e).trans h1,h2,h3,h4⟩
theorem Upd.at (h:Upd w w' b off sz) {b1 off1:Nat} (ha:yI w b1 off1 cs) (hd:b1=b->off1+cs.length<=off\/off+sz<=off1):yI w' b1 off1 cs:=by
 obtain ⟨cur,ty,k,h1,h2⟩:=ha;by_cases e:b1=b
 ·subst e;obtain ⟨cur',q1,q2,q3⟩:=h.same cur ty k h1;refine ⟨cur',ty,k,q1,λj c hj=>?_⟩;have hlt:=(AL.1 hj).1;rw [q3 (off1+j) (by rcases hd rfl with h | h <;> omega)];exact h2 j c hj
 ·exact ⟨cur,ty,k,(h.other b1 e).trans h1,h2⟩
def zaa (l:List Int):List (List V):=l.map λx=>[.int .i64 x]
@[simp] theorem dInts_length (l:List Int):(zaa l).length=l.length:=by simp [zaa]
def zTm:Tm:=.mk 0 0 [] [] []
def kidT:Tm->Int->Option Tm
 | .mk _ _ _ ks _,k=>if 0<=k then ks[k.toNat]? else none
def rF:Tm->List Int->Option Tm
 | t,[]=>some t
 | t,k::r=>match kidT t k with
  | some c=>rF c r
  | none=>none
mutual
def Ib:Ty->Ty->Bool
 | .mk s n x ps,.mk s' n' x' ps'=>s == s'&&n == n'&&x == x'&&FY ps ps'
def FY:List Ty->List Ty->Bool
 | [],[]=>true
 | a::r,b::q=>Ib a b&&FY r q
 | _,_=>false
end
mutual
theorem K7:∀a b:Ty,Ib a b=true↔a=b
 | .mk s n x ps,.mk s' n' x' ps'=>by
  simp only [Ib,Ap,beq_iff_eq,Ty.mk.injEq,Oq ps ps',and_assoc]
theorem Oq:∀a b:List Ty,FY a b=true↔a=b
 | [],[]=>by simp [FY]
 | a::r,b::q=>by simp only [FY,Ap,K7 a b,Oq r q,DM]
 | [],_::_=>by simp [FY]
 | _::_,[]=>by simp [FY]
end
theorem Ut {a b:List Ty} (h:a.length≠b.length):FY a b=false:=by
 cases he:FY a b with
 | false=>rfl
 | true=>exact absurd (congrArg List.length ((Oq a b).1 he)) h
def Tt:V->Bool
 | .bool _ | .int .. | .str _=>true
 | _=>false
def UI:List V->Bool
 | []=>true
 | x::r=>Tt x&&UI r
theorem iH {x:V} (h:Tt x=true) (hr:RepV J v x):RepV I v x:=by
 cases hr <;> first | (simp [Tt] at h;done) | constructor <;> assumption
theorem K9 (t j:Nat) (hsz:0<sz) (ht:lk env t=some .nils) (h:DGo P n F Q todo ((t,.own j 0)::env) ((j,some (.row e sz []))::st) ids'):DGo P n F Q todo env st (j::ids'):=by
 refine EY λI μ a w hc=>?_;have hv:a.tmps.getD t undef = .slice none 0 0:=by
  have:=hc.env t _ ht;generalize a.tmps.getD t undef=v at this;cases this with
  | nils=>rfl
 obtain ⟨q1,q2,q3⟩:=StRep.relay (R:=[]) (new:=[(j,.slice none 0 0,.row e sz [])]) (ids':=ids') hc.toStRep
  (λp hp b hb=>by rw [AP.1 hp] at hb;exact hb.elim)
  (λp hp q hq b _ _=>by rw [AP.1 hp,AP.1 hq]) (Imm.le_refl I) hc.imm (λb o h=>.inl h)
  (λ_ p hp=>by
   rw [AP.1 hp];exact ⟨[],World.ownsRow_nil w _ e sz,⟨rfl,λi v x h _=>by simp at h⟩,λ_ h=>by simp at h,λ_ h=>by simp at h,hsz⟩)
 refine ⟨I,_,_,_,ids',q2,λt' d hd=>?_,q3,.of_le q1,h⟩;by_cases e:t=t'
 ·subst e;rw [A0] at hd;cases hd;rw [hv];exact .own j 0 none 0 (by simp [Eo,lk])
 ·rw [A6 _ _ e] at hd;exact (hc.env t' d hd).mono (Imm.le_refl I) q1
theorem rE {g:Value} (h:BlkRep I μ w g (.row e sz es)) (hle:I.le J) (hb:∀b,E6 g b->J b=w.heap[b]?):RepV J g (.sl es):=by
 obtain ⟨xs,hown,hrep,hsz,hone,hp⟩:=h;rcases hown.2 with ⟨rfl,h0⟩ | ⟨gb,cap,cur,rfl,_,hheap,hle2,hcm,hcs,htake⟩
 ·have:es=[]:=L7 h0;subst this;exact .slnil
 ·have hJg:J gb=some (.cells cur e (0,0)):=(hb gb rfl).trans hheap;have hcell:∀(i:Nat) (c:List V) (j:Nat) (x:V),es[i]?=some c->c[j]?=some x->∃v,xs[i*sz+j]?=some v/\cur[i*sz+j]?=some v/\RepV I v x/\v.oneCell'=true:=by
   intro i c j x hi hj;have h1:=C8 hsz i c j x hi hj;have hlt:i*sz+j<xs.length:=by rw [hrep.1];exact (AL.1 h1).1
   obtain ⟨v,hv⟩:∃v,xs[i*sz+j]?=some v:=⟨_,Br hlt⟩
   have hr:=hrep.2 _ _ _ hv h1;refine ⟨v,hv,?_,hr,?_⟩
   ·rw [<- htake,D6] at hv
    split at hv
    ·simpa using hv
    ·cases hv
   ·have:=hone c (AF hi) x (AF hj);exact hr.one this
  refine .sl gb 0 _ cap sz es (λi j=>(cur[i*sz+j]?).getD undef) rfl hle2 hcm hsz (λi c j x hi hj=>?_) (λi c j x hi hj=>?_)
  ·obtain ⟨v,_,h2,_,h4⟩:=hcell i c j x hi hj;simp [Imm.cell,hJg,h2,h4]
  ·obtain ⟨v,_,h2,h3,_⟩:=hcell i c j x hi hj;simp only [h2,MV];exact h3.mono hle
def Y6 (w:World):Imm:=λb=>w.heap[b]?
def MS (k:D->Option V):List D->Option (List V)
 | []=>some []
 | d::r=>match k d,MS k r with
  | some x,some xs=>some (x::xs)
  | _,_=>none
def N0 (k:D->List Nat):List D->List Nat
 | []=>[]
 | d::r=>k d++N0 k r
def Gg (st:St):Nat->D->Option V
 | 0,_=>none
 | f+1,d=>match d with
  | .imm x=>some x
  | .nils=>some (.sl [])
  | .ip t cs off=>some (.ip t cs off)
  | .clip es=>some (.sl es)
  | .own id _=>match lk st id with
   | some (some (.row _ _ es))=>some (.sl es)
   | _=>none
  | .mapr id=>match lk st id with
   | some (some (.map kv))=>some (.mapv kv)
   | _=>none
  | .ref id off=>match lk st id with
   | some (some (.immb t _ xs))=>some (.ip t xs off)
   | some (some (.cells t _ ds))=>match MS (Gg st f) ds with
    | some xs=>some (.ip t xs off)
    | none=>none
   | _=>none
  | .agg ds=>match MS (Gg st f) ds with
   | some xs=>some (.agg xs)
   | none=>none
  | .fn g a b=>match MS (Gg st f) a,MS (Gg st f) b with
   | some xs,some ys=>some (.clo g xs ys)
   | _,_=>none
  | _=>none
def Gh (st:St):Nat->D->List Nat
 | 0,_=>[]
 | f+1,d=>match d with
  | .own id _=>[id]
  | .mapr id=>[id]
  | .ref id _=>match lk st id with
   | some (some (.cells _ _ ds))=>id::N0 (Gh st f) ds
   | _=>[id]
  | .agg ds=>N0 (Gh st f) ds
  | .fn _ a b=>N0 (Gh st f) a++N0 (Gh st f) b
  | _=>[]
structure uP where
 f:FuncId
 vs:List V
 rd:List Nat
 g:Option (Bool×Bool)
 ob:List Prop
 dst:Option Nat
 todo:List DI
def Zj (n:Nat) (st:St) (all:List Oper) (o:Oper) (env:Env) (todo:List DI) (f:FuncId) (a b:List D) (args:List Operand):Option uP :=
 match Cq all env o with
 | some g=>match I7 (Am g) env args with
  | some (ds,ob)=>match MS (Gg st 6) (a++ds++b),BM n o.dst with
   | some vs,true=>match Bm todo (N0 (Gh st 6) (a++ds++b),[]) with
    | some (_,_,todo')=>match o.dst with
     | some t=>some ⟨f,vs,N0 (Gh st 6) (a++ds++b),g,ob,some t,todo'⟩
     | none=>some ⟨f,vs,N0 (Gh st 6) (a++ds++b),g,ob,none,todo'⟩
    | none=>none
   | _,_=>none
  | none=>none
 | none=>none
def oW (n:Nat) (env:Env) (st:St) (todo:List DI):Option uP :=
 match Bm todo ([],[]) with
 | some (all,o,_)=>match o.op with
  | .call { callee:=.value (.func f),args:=⟨args⟩,.. }=>Zj n st all o env todo f [] [] args
  | .call { callee:=.value (.tmp t),args:=⟨args⟩,.. }=>match lk env t with
   | some (.imm (.fn (.func f)))=>Zj n st all o env todo f [] [] args
   | some (.imm (.clo (.func f) a b))=>Zj n st all o env todo f (a.map .imm) (b.map .imm) args
   | some (.fn (.func f) a b)=>Zj n st all o env todo f a b args
   | _=>none
  | _=>none
 | none=>none
def dH:V->Bool
 | .tup xs=>UI xs
 | x=>Tt x
theorem iG {x:V} (h:dH x=true) (hr:RepV J v x):RepV I v x:=by
 cases hr with
 | tup cs xs hl hh =>
  refine .tup cs xs hl λi c x hc hx=>?_;have hm:∀{xs:List V} {i:Nat} {x:V},UI xs=true->xs[i]?=some x->Tt x=true:=by
   intro xs
   induction xs with
   | nil=>intro i x _ h;simp at h
   | cons y r ih =>
    intro i x hs h;simp only [UI,Ap] at hs;cases i with
    | zero=>simp at h;subst h;exact hs.1
    | succ i=>exact ih hs.2 (by simpa using h)
  exact iH (hm h hx) (hh i c x hc hx)
 | bool b=>exact .bool b
 | int k n=>exact .int k n
 | str s l hs=>exact .str s l hs
 | _=>simp [dH,Tt] at h
theorem IM {q:D->Option V} {μ:Mu} (hq:∀d x v,q d=some x->RepD I μ v d->RepV J v x):∀{vs:List Value} {ds:List D} {xs:List V},MS q ds=some xs->RepL I μ vs ds->RepVL J vs xs
 | [],ds,xs,h,hr=>by
  cases ds with
  | nil=>cases h;exact .nil
  | cons d ds=>simp [RepL] at hr
 | v::vs,ds,xs,h,hr=>by
  cases ds with
  | nil=>simp [RepL] at hr
  | cons d ds =>
   obtain ⟨h1,h2⟩:=hr.cons;simp only [MS] at h
   split at h
   ·cases h;exact .mk (hq _ _ _ (by assumption) h1) (IM hq (by assumption) h2)
   ·cases h
theorem SY (hst:StRep I μ st ids w):∀(f:Nat) (d:D) (x:V) (v:Value),Gg st f d=some x->RepD I μ v d->RepV (Y6 w) v x
 | 0,_,_,_,h,_=>by simp [Gg] at h
 | f+1,d,x,v,h,hr=>by
  have hle:I.le (Y6 w):=λb o h=>hst.imm b o h;have ih:=SY hst f;simp only [Gg] at h
  split at h
  ·cases h;exact hr.immInv.mono hle
  ·cases h;cases hr;exact .slnil
  ·cases h;exact hr.ipV.mono hle
  ·cases h;cases hr with
   | clip a len es h=>exact h.mono hle
  ·split at h
   ·rename_i hl;cases h;cases hr with
    | own id len a cap hm =>
     obtain ⟨g,hg,hb⟩:=hst.blk _ _ hl;rw [hm] at hg;cases hg;exact rE hb hle λb _=>rfl
   ·cases h
  ·split at h
   ·rename_i hl;cases h;cases hr with
    | mapr id b hm =>
     obtain ⟨g,hg,b',es,clock,rfl,h1,h2,h3,h4⟩:=hst.blk _ _ hl;rw [hm] at hg;cases hg;exact .mapv b es clock _ h1 h2 h3 (λi e p q1 q2=>(h4 i e p q1 q2).1.mono hle) (λi e p q1 q2=>(h4 i e p q1 q2).2.mono hle)
   ·cases h
  ·have fin:∀{t:TypeId} {off:Nat} {vs:Array Value} {xs:List V} {gb:Nat},v = .pointer (some ⟨gb,off,none⟩)->w.heap[gb]?=some (.cells vs t (0,0))->RepVL (Y6 w) vs.toList xs->(∀v∈vs.toList,v.oneCell'=true)->RepV (Y6 w) v (.ip t xs off):=by
    intro t off vs xs gb hv hheap hrep hone;subst hv;have:=RepV.ip (I:=Y6 w) gb 0 t xs off (λj=>(vs[j]?).getD undef) (λj x hx=>?_) (λj x hx=>?_)
    ·simpa using this
    ·have hj:j<vs.size:=by have:=hrep.1;have:=(AL.1 hx).1;simp at *;omega
     have:Y6 w gb=some (.cells vs t (0,0)):=hheap;simp only [Imm.cell,this,Dh,PB hj,MV,true_and];exact hone _ (by simp)
    ·have hj:j<vs.size:=by have:=hrep.1;have:=(AL.1 hx).1;simp at *;omega
     simp only [PB hj,MV];exact hrep.2 j _ x (by simp [hj]) hx
   split at h
   ·rename_i hl;cases h;cases hr with
    | ref b id off hm =>
     obtain ⟨g,hg,hs,gb,vs,rfl,hheap,hrep,hone⟩:=hst.blk _ _ hl;rw [hm] at hg;cases hg;exact fin rfl hheap (hrep.mono hle) hone
   ·rename_i hl
    split at h
    ·rename_i xs hx;cases h;cases hr with
     | ref b id off hm =>
      obtain ⟨g,hg,hs,gb,vs,rfl,hheap,hrep,hone⟩:=hst.blk _ _ hl;rw [hm] at hg;cases hg;exact fin rfl hheap (IM ih hx hrep) hone
    ·cases h
   ·cases h
  ·split at h
   ·rename_i xs hx;cases h;cases hr with
    | agg cs ds hl h1 hh =>
     have:=IM (vs:=cs.toList) ih hx ⟨by simpa using hl,λi v d h1 h2=>hh i v d (by simpa using h1) h2⟩;exact .agg cs xs (by simpa using this.1) h1 λi c x h1 h2=>this.2 i c x (by simpa using h1) h2
   ·cases h
  ·split at h
   ·rename_i xs ys hx hy;cases h;cases hr with
    | fn _ first cap df dc hf hc h1 h2 =>
     have q1:=IM (vs:=first.toList) ih hx ⟨by simpa using hf,λi v d e1 e2=>h1 i v d (by simpa using e1) e2⟩;have q2:=IM (vs:=cap.toList) ih hy ⟨by simpa using hc,λi v d e1 e2=>h2 i v d (by simpa using e1) e2⟩;exact .clo _ first cap xs ys (by simpa using q1.1) (by simpa using q2.1) (λi c x h1 h2=>q1.2 i c x (by simpa using h1) h2) (λi c x h1 h2=>q2.2 i c x (by simpa using h1) h2)
   ·cases h
  ·cases h
theorem Agree.sub {r s:List Nat} (h:Agree r st st') (hs:∀i∈s,i∈r):Agree s st st':=λi hi=>h i (hs i hi)
theorem Gw {q q':D->Option V} {r:D->List Nat} (h:∀d,Agree (r d) st st'->q' d=q d):∀{ds:List D},Agree (N0 r ds) st st'->MS q' ds=MS q ds
 | [],_=>rfl
 | d::l,ha=>by
  simp only [MS];rw [h d (ha.sub λi hi=>by simp [N0,hi]),Gw h (ha.sub λi hi=>by simp [N0,hi])]
theorem O6 {st st':St}:∀(f:Nat) (d:D),Agree (Gh st f d) st st'->Gg st' f d=Gg st f d
 | 0,_,_=>rfl
 | f+1,d,h=>by
  have ih:=O6 (st:=st) (st':=st') f;cases d with
  | own id n =>
   simp only [Gg];rw [h id (by simp [Gh])]
  | mapr id =>
   simp only [Gg];rw [h id (by simp [Gh])]
  | ref id off =>
   have hid:lk st' id=lk st id:=h id (by simp only [Gh];split <;> simp);simp only [Gg];rw [hid]
   split
   ·rfl
   ·rename_i ds hl;rw [Gw ih (h.sub λi hi=>by simp only [Gh,hl];simp [hi])]
   ·rfl
  | agg ds =>
   simp only [Gg];rw [Gw ih (h.sub λi hi=>by simp only [Gh];exact hi)]
  | fn g a b =>
   simp only [Gg];rw [Gw ih (h.sub λi hi=>by simp only [Gh];simp [hi]),Gw ih (h.sub λi hi=>by simp only [Gh];simp [hi])]
  | _=>rfl
theorem wO {all:List Oper} {v:V} {m:Nat} (hg:Cq all env o=some g) (hc:Ff P o env f das (Am g)) (hv:MS (Gg st m) das=some vs) (hs:dH v=true) (hE:Am g->Hh P f vs v):LD P Pn all o env st (N0 (Gh st m) das) [] [] (gD g (.imm v)):=by
 refine D3 hg λI μ st1 ids1 a w hag hst hops hcx=>?_;obtain ⟨xs,h1,h2⟩:=hc I μ a w hops hcx;rw [h2];have hv1:MS (Gg st1 m) das=some vs:=by rw [Gw (O6 m) hag,hv]
 have hx:=IM (SY hst m) hv1 h1;have hst0:StRep (Y6 w) μ [] [] w:={ imm:=λb o h=>h,blk:=λi b h=>by simp [A1,lk] at h,apart:=λi b g k h=>by simp [A1,lk] at h,inj:=λi j bi bj gi gj k h=>by simp [A1,lk] at h,nodup:=.nil,idsFree:=λi h=>by cases h }
 have hno:∀b,¬Bq μ [] b:=λb ⟨i,bi,g,h,_⟩=>by simp [A1,lk] at h
 refine (hE hcx (Y6 w) μ w xs hst0 hx.imm).mono (λu w' hu=>?_) (λ_ _ h=>h.elim);obtain ⟨I',μ',r1,r2,r3,r4⟩:=hu;have hlt:∀b o,I b=some o->b<w.heap.size:=λb o h=>by
  have:=hst.imm b o h;exact (GY.1 this).1
 refine ⟨I,μ,hst.other r4.size (λb o h=>r4.block b (hlt b o h) (hno b)) (λb ho=>r4.block b (Em hst ho) (hno b)),?_,Mu.le_refl μ,{ imm:=Imm.le_refl I,os:=r4.os,tape:=r4.tape,output:=r4.output,size:=r4.size,block:=λb hb _=>r4.block b hb (hno b),fresh:=λ_ _ h=>h,old:=λ_ _ _=>rfl }⟩;exact .imm _ _ (iG hs r1.immInv)
theorem Pv {t:Nat} {args:List Operand} {df dc:List V} (ho:o.op = .call { callee:=.value (.tmp t),args:=⟨args⟩,argTypes:=ts }) (ht:lk env t=some (.imm (.clo (.func f) df dc))) (ha:I7 cx env args=some (ds,ob)) (hob:A4 ob):Ff P o env f (df.map .imm++ds++dc.map .imm) cx:=by
 intro I μ a w hop hc;rw [ho] at hop;have hd:=GK (I:=I) (μ:=μ) (a:=a) hc ha hob λx hx=>hop x (by simp [Op.operands,Call.operands,hx]);have hf:=(hop (.tmp t) (by simp [Op.operands,Call.operands]) _ ht).immInv;generalize hv:a.eval (.tmp t)=v at hf;cases hf with
 | clo _ first cap _ _ h1 h2 h3 h4 =>
  refine ⟨first++(args.map a.eval).toArray++cap,?_,?_⟩
  ·simp only [Km];have q1:RepVL I first.toList df:=⟨by simpa using h1,λi v d hv hd=>h3 i v d (by simpa using hv) hd⟩
   have q2:RepVL I cap.toList dc:=⟨by simpa using h2,λi v d hv hd=>h4 i v d (by simpa using hv) hd⟩
   exact RepL.append (RepL.append q1.imm hd) q2.imm
  ·simp only [execOp,ho,resolve,hv,Deferred.ofValue,Sem.run_bind,Sem.run_pure,Result.andThen_ok,invoke];congr 3;simp
theorem oX {all:List Oper} {a b:List D} {args:List Operand} {c:uP} (h:Zj n st all o env todo f a b args=some c) :
  ∃g ds ob vs todo',Cq all env o=some g/\I7 (Am g) env args=some (ds,ob)/\MS (Gg st 6) (a++ds++b)=some vs/\BM n o.dst=true/\(∃p q,Bm todo (N0 (Gh st 6) (a++ds++b),[])=some (p,q,todo'))/\c=⟨f,vs,N0 (Gh st 6) (a++ds++b),g,ob,o.dst,todo'⟩:=by
 unfold Zj at h
 split at h
 ·rename_i g hg
  split at h
  ·rename_i ds ob ha
   split at h
   ·rename_i vs hv hd
    split at h
    ·rename_i p q todo' hn
     split at h
     ·rename_i t hdst;cases h;exact ⟨g,ds,ob,vs,todo',hg,ha,hv,hd,⟨p,q,hn⟩,by rw [hdst]⟩
     ·rename_i hdst;cases h;exact ⟨g,ds,ob,vs,todo',hg,ha,hv,hd,⟨p,q,hn⟩,by rw [hdst]⟩
    ·cases h
   ·cases h
  ·cases h
 ·cases h
theorem Lc {rd:List Nat} {v:V} (h:oW n env st todo=some ⟨f,vs,rd,g,ob,dst,todo'⟩) (hE:Am g->Hh P f vs v) (hs:dH v=true) (hob:A4 ob) (hk:G P n F Q todo' (BK dst (gD g (.imm v)) env) st ids):G P n F Q todo env st ids:=by
 have fin:∀{all:List Oper} {o:Oper} {f':FuncId} {a b:List D} {args:List Operand} {t:List DI},Bm todo ([],[])=some (all,o,t)->Zj n st all o env todo f' a b args=some ⟨f,vs,rd,g,ob,dst,todo'⟩->(∀c,o.op ≠ .defer c) ->
   (∀{ds:List D} {cx:Prop} {ob:List Prop},I7 cx env args=some (ds,ob)->A4 ob->Ff P o env f' (a++ds++b) cx)->G P n F Q todo env st ids:=by
  intro all o f' a b args t hn1 hp hnd hcalls;obtain ⟨g',ds,ob',vs',todo2,q1,q2,q3,q4,⟨p,q,q5⟩,q6⟩:=oX hp;obtain ⟨e1,e2⟩:=Jt hn1 q5;subst e1;subst e2;cases q6;exact BF (fr:=[]) (wr:=[]) q5 (wO q1 (hcalls q2 hob) q3 hs hE) q4 hnd hk
 unfold oW at h
 split at h
 ·rename_i all o t hn1;have hnd:∀cc,o.op = .call cc->∀c,o.op ≠ .defer c:=λcc h c h'=>by rw [h] at h';cases h'
  split at h
  ·rename_i f' args ts ho;exact fin hn1 h (hnd _ ho) λha hob=>by simpa using Ga ho ha hob
  ·rename_i t' args ts ho
   split at h
   ·rename_i f' ht;exact fin hn1 h (hnd _ ho) λha hob=>by simpa using Fy ho ht ha hob
   ·rename_i f' a b ht;exact fin hn1 h (hnd _ ho) λha hob=>Pv ho ht ha hob
   ·rename_i f' a b ht;exact fin hn1 h (hnd _ ho) λha hob=>I8 ho ht ha hob
   ·cases h
  ·cases h
 ·cases h
mutual
def QN (id:Nat) (es:List (V×V)):D->D
 | .mapr i=>bif Nat.beq i id then .imm (.mapv es) else .mapr i
 | .agg cs=>In (Sz id es cs)
 | .tup cs=>.tup (Sz id es cs)
 | .fn f a b=>.fn f (Sz id es a) (Sz id es b)
 | .iface t d=>match QN id es d with
  | .imm x=>.imm (.iface t x)
  | d'=>.iface t d'
 | .guard c w d=>.guard c w (QN id es d)
 | d=>d
def Sz (id:Nat) (es:List (V×V)):List D->List D
 | []=>[]
 | d::r=>QN id es d::Sz id es r
end
def jJ (id:Nat) (es:List (V×V)):Env->Env
 | []=>[]
 | (t,d)::r=>(t,QN id es d)::jJ id es r
def wJ (id:Nat) (es:List (V×V)):Blk->Blk
 | .cells t sz cs=>OV t sz (Sz id es cs)
 | b=>b
def Sy (id:Nat) (es:List (V×V)):St->St
 | []=>[]
 | (i,some b)::r=>(i,some (wJ id es b))::Sy id es r
 | (i,none)::r=>(i,none)::Sy id es r
theorem Hq (id:Nat) (es:List (V×V)):∀l:List D,Sz id es l=l.map (QN id es)
 | []=>rfl
 | d::r=>by simp [Sz,Hq id es r]
section
variable {id:Nat} {es:List (V×V)} {g:Value}
theorem RepD.mfr (h:RepD I μ v d) (hIJ:I.le J) (hg:μ id=some g) (hr:RepV J g (.mapv es)):RepD J μ v (QN id es d):=by
 have at_:∀{l:List D} {i:Nat} {x:D},(Sz id es l)[i]?=some x->∃y,l[i]?=some y/\x=QN id es y:=by
  intro l i x hx;rw [Hq,Ep] at hx;cases hl:l[i]? with
  | none=>rw [hl] at hx;cases hx
  | some y=>rw [hl] at hx;cases hx;exact ⟨y,rfl,rfl⟩
 induction h with
 | undef v=>exact .undef v
 | imm v x hx=>exact .imm v x (hx.mono hIJ)
 | nils=>exact .nils
 | ref b id off hm=>exact .ref b id off hm
 | ip b o t cs off vs hcell hrep=>exact (RepD.ip b o t cs off vs hcell hrep).mono hIJ (Mu.le_refl μ)
 | agg cs ds hl h1 _ ih =>
  have:RepD J μ (.agg cs.toList.toArray) (In (Sz id es ds)):=H1 ⟨by rw [Hq,Dn,<- hl];simp,λi c x hc hx=>by
   obtain ⟨y,hy,rfl⟩:=at_ hx;exact ih i c y (by simpa using hc) hy⟩ h1
  simpa [QN] using this
 | tup cs ds hl _ ih =>
  refine .tup cs _ (by rw [Hq,Dn,hl]) λi c x hc hx=>?_;obtain ⟨y,hy,rfl⟩:=at_ hx;exact ih i c y hc hy
 | own i len a cap hm=>exact .own i len a cap hm
 | elp b id len cap k sz f hm=>exact .elp b id len cap k sz f hm
 | mapr i b hm =>
  simp only [QN];cases hb:Nat.beq i id with
  | false=>exact .mapr i b hm
  | true =>
   rw [CD hb,hg] at hm;cases hm;exact .imm _ _ hr
 | iter id b hm=>exact .iter id b hm
 | fn f first cap df dc hf hc _ _ ih1 ih2 =>
  refine .fn f first cap _ _ (by rw [Hq,Dn,hf]) (by rw [Hq,Dn,hc]) (λi c x h1 h2=>?_) (λi c x h1 h2=>?_)
  ·obtain ⟨y,hy,rfl⟩:=at_ h2;exact ih1 i c y h1 hy
  ·obtain ⟨y,hy,rfl⟩:=at_ h2;exact ih2 i c y h1 hy
 | iface t v d _ ih =>
  simp only [QN]
  split
  ·rename_i x hx;rw [hx] at ih;exact .imm _ _ (.iface t v x ih.immInv)
  ·exact .iface t v _ ih
 | guard c want v d _ hu ih=>exact .guard c want v _ ih hu
 | clip a len es hr=>exact .clip a len es (hr.mono hIJ)
 | slc b id off len cap hm hl hx=>exact .slc b id off len cap hm hl hx
 | yld b id hm=>exact .yld b id hm
 | raw v h=>exact .raw v h
 | hv v id i vs bs hm hi h1=>exact .hv v id i vs bs hm hi h1
theorem BlkRep.mfr {gb:Value} {blk:Blk} (h:BlkRep I μ w gb blk) (hIJ:I.le J) (hg:μ id=some g) (hr:RepV J g (.mapv es)):BlkRep J μ w gb (wJ id es blk):=by
 cases blk with
 | cells t sz cs =>
  obtain ⟨hs,b,vs,rfl,h2,h3,h4⟩:=h;refine H0 h2 ⟨by rw [Hq,Dn,h3.1],λi v x hv hx=>?_⟩ h4 (by rw [Hq,Dn,hs]);rw [Hq,Ep] at hx;cases hl:cs[i]? with
  | none=>rw [hl] at hx;cases hx
  | some y=>rw [hl] at hx;cases hx;exact (h3.2 i v y hv hl).mfr hIJ hg hr
 | _=>exact h.mono hIJ (Mu.le_refl μ)
theorem NY {i:Nat} {b:Blk}:∀{st:St},A1 (Sy id es st) i b->∃b0,A1 st i b0/\b=wJ id es b0
 | [],h=>by simp [Sy,A1,lk] at h
 | (k,some x)::r,h=>by
  simp only [Sy] at h;rcases AB.1 h with ⟨h1,h2⟩ | ⟨h1,h2⟩
  ·exact ⟨x,by unfold A1;rw [h1,A0],h2⟩
  ·obtain ⟨b0,q1,q2⟩:=NY h2;exact ⟨b0,AB.2 (.inr ⟨h1,q1⟩),q2⟩
 | (k,none)::r,h=>by
  simp only [Sy] at h;obtain ⟨h1,h2⟩:=BZ.1 h;obtain ⟨b0,q1,q2⟩:=NY h2;exact ⟨b0,BZ.2 ⟨h1,q1⟩,q2⟩
theorem Yf (id:Nat) (hl:lk st id=some (some (.map es))) (h:DGo P n F Q todo (jJ id es env) ((id,none)::Sy id es st) ids):DGo P n F Q todo env st ids:=by
 intro b cs I μ a w items hd hc;have hlive:A1 st id (.map es):=hl;obtain ⟨g,hg,gb,ms,clock,rfl,hheap,hsz,hstm,hent⟩:=hc.blk id _ hlive;have hno:=(hc.apart id _ _ gb hlive hg rfl).1;obtain ⟨J,hJ,hJr,hJo⟩:∃J:Imm,I.le J/\RepV J (.map (some gb)) (.mapv es)/\(∀k o,J k=some o->(I k=some o\/(E6 (.map (some gb)) k/\w.heap[k]?=some o))):=by
  have hle':I.le (λk=>if k=gb then some (.map ms clock) else I k):=λk o h=>by
   have:k≠gb:=λe=>by rw [e,hno] at h;cases h
   simp [this,h]
  refine ⟨_,hle',.mapv gb ms clock es (by simp) hsz hstm (λi e p h1 h2=>(hent i e p h1 h2).1.mono hle') (λi e p h1 h2=>(hent i e p h1 h2).2.mono hle'),λk o h=>?_⟩;by_cases hk:k=gb
  ·subst hk;simp at h;subst h;exact .inr ⟨rfl,hheap⟩
  ·simp [hk] at h;exact .inl h
 have hst:∀i bi,A1 ((id,none)::Sy id es st) i bi->i≠id/\∃b0,A1 st i b0/\bi=wJ id es b0:=λi bi h=>by
  obtain ⟨h1,h2⟩:=BZ.1 h;exact ⟨h1,NY h2⟩
 have hE:Ext I μ st w J μ ((id,none)::Sy id es st) w :=
  {imm:=hJ,os:=rfl,tape:=rfl,output:=rfl,size:=BQ _
   block:=λ_ _ _=>rfl
   fresh:=λk _ ⟨i,bi,gi,h1,h2,h3⟩=>let ⟨_,b0,q,_⟩:=hst i bi h1;⟨i,b0,gi,q,h2,h3⟩
   old:=λk _ ho=>by
      cases hJk:J k with
      | none =>
       cases hIk:I k with
       | none=>rfl
       | some o=>rw [hJ k o hIk] at hJk;cases hJk
      | some o =>
       rcases hJo k o hJk with h | ⟨h,_⟩
       ·exact h.symm
       ·exact absurd ⟨id,_,_,hlive,hg,h⟩ ho }
 have hc':Conc n J μ (jJ id es env) ((id,none)::Sy id es st) ids a w :=
  {imm:=λk o h=>(hJo k o h).elim (λh=>hc.imm k o h) λh=>h.2
   blk:=λi bi hli=>by
    obtain ⟨_,b0,h2,rfl⟩:=hst i bi hli;obtain ⟨gi,hgi,hr⟩:=hc.blk i b0 h2;exact ⟨gi,hgi,hr.mfr hJ hg hJr⟩
   apart:=λi bi gi k hli hgi hk=>by
    obtain ⟨h1,b0,h2,rfl⟩:=hst i bi hli;obtain ⟨q1,q2⟩:=hc.apart i b0 gi k h2 hgi hk;refine ⟨?_,q2⟩;cases hJk:J k with
    | none=>rfl
    | some o =>
     rcases hJo k o hJk with h | ⟨h,_⟩
     ·rw [q1] at h;cases h
     ·exact absurd (hc.inj i id b0 _ gi _ k h2 hlive hgi hg hk h) h1
   inj:=λi j bi bj gi gj k hi hj hgi hgj hki hkj=>by
    obtain ⟨_,b1,h1,rfl⟩:=hst i bi hi;obtain ⟨_,b2,h2,rfl⟩:=hst j bj hj;exact hc.inj i j b1 b2 gi gj k h1 h2 hgi hgj hki hkj
   nodup:=hc.nodup
   idsFree:=hc.idsFree
   size:=hc.size
   env:=λt d hlt=>by
    have:∀{env:Env},lk (jJ id es env) t=some d->∃d0,lk env t=some d0/\d=QN id es d0:=by
     intro env
     induction env with
     | nil=>intro h;simp [jJ,lk] at h
     | cons p r ih =>
      obtain ⟨s,x⟩:=p;intro h;simp only [jJ] at h;by_cases hs:s=t
      ·subst hs;rw [A0] at h;cases h;exact ⟨x,A0 _ _ _,rfl⟩
      ·rw [A6 _ _ hs] at h;rw [A6 _ _ hs];exact ih h
    obtain ⟨d0,h1,rfl⟩:=this hlt;exact (hc.env t d0 h1).mfr hJ hg hJr
   defers:=hc.defers.ext hE }
 exact (h b cs J μ a w items hd hc').mono λe' a' w' hp=>hp.back (.refl _ _)<|hE
def ipL:List V->List D
 | []=>[]
 | .ip t cs off::r=>.ip t cs off::ipL r
 | x::r=>.imm x::ipL r
theorem eS:∀{xs:List Value} {vs:List V},RepL I μ xs (vs.map .imm)->RepL I μ xs (ipL vs)
 | [],[],h=>h
 | [],v::vs,h=>absurd h.1 (by simp)
 | x::xs,[],h=>absurd h.1 (by simp)
 | x::xs,v::vs,h=>by
  obtain ⟨h1,h2⟩:=(show RepL I μ (x::xs) (.imm v::vs.map .imm) from h).cons;have:=eS h2;cases v with
  | ip t cs off=>exact .mk h1.immInv.ipD this
  | _=>exact .mk h1 this
theorem M8 {v:V} (h:Hy P f (ipL vs) [] (.ret (.imm v) [])):Hh P f vs v:=λI μ w xs hst hx=>h I μ w xs hst (eS hx)
def oZ (n:Nat) (env:Env) (todo:List DI):Option gG :=
 match Bm todo ([],[]) with
 | some (all,o,todo')=>match o.op,Cq all env o with
  | .call { callee:=.value (.tmp t),args:=⟨args⟩,.. },some g=>match lk env t,I7 (Am g) env args with
   | some (.imm (.clo (.func f) a b)),some (ds,ob)=>match LR ds,BM n o.dst with
    | some vs,true=>match o.dst with
     | some t=>some ⟨f,a++vs++b,g,ob,some t,todo'⟩
     | none=>some ⟨f,a++vs++b,g,ob,none,todo'⟩
    | _,_=>none
   | _,_=>none
  | _,_=>none
 | none=>none
theorem Qs:∀l:List V,LR (l.map .imm)=some l
 | []=>rfl
 | x::r=>by simp [LR,vI,Qs r]
theorem JW:∀{a b:List D} {xs ys:List V},LR a=some xs->LR b=some ys->LR (a++b)=some (xs++ys)
 | [],b,xs,ys,h1,h2=>by cases h1;exact h2
 | d::r,b,xs,ys,h1,h2=>by
  simp only [LR] at h1
  split at h1
  ·rename_i x xs' hx hr;cases h1;simp [LR,hx,JW hr h2]
  ·cases h1
theorem PY {g:Option (Bool×Bool)} {v:V} (h:oZ n env todo=some ⟨f,vs,g,ob,dst,todo'⟩) (hE:Am g->Hh P f vs v) (hob:A4 ob) (hk:G P n F Q todo' (BK dst (gD g (.imm v)) env) st ids):G P n F Q todo env st ids:=by
 unfold oZ at h
 split at h
 ·rename_i all o todo1 h1;have hnd:∀cc,o.op = .call cc->∀c,o.op ≠ .defer c:=λcc h c h'=>by rw [h] at h';cases h'
  split at h
  ·rename_i t args ts g' ho hg
   split at h
   ·rename_i f' a b ds ob' ht ha
    split at h
    ·rename_i vs' hv hd;have fin:f'=f/\a++vs'++b=vs/\g'=g/\ob'=ob/\o.dst=dst/\todo1=todo':=by
      split at h <;> (rename_i hdst;cases h;exact ⟨rfl,rfl,rfl,rfl,hdst,rfl⟩)
     obtain ⟨rfl,rfl,rfl,rfl,rfl,rfl⟩:=fin;exact BF (fr:=[]) (wr:=[]) h1 (PV hg (Pv ho ht ha hob) (JW (JW (Qs a) hv) (Qs b)) hE) hd (hnd _ ho) hk
    ·cases h
   ·cases h
  ·cases h
 ·cases h
end
def Sk (P:Program) (n:Nat) (c:Code) (env:Env) (st:St) (ids:List Nat) (env':Env) (st':St) (ids':List Nat):Prop :=
 ∀(b:Frame) (cs:List Frame) (Q:Exit->Act->World->Prop) (I:Imm) (μ:Mu) (a:Act) (w:World) (tail:List Item),Conc n I μ env st ids a w ->
  (∀I' μ' a' w',Conc n I' μ' env' st' ids' a' w'->μ.le μ'->Ext I μ st w I' μ' st' w'->Reach P b cs Q tail a' w')->Reach P b cs Q (.code c::tail) a w
def O2 (P:Program) (n:Nat) (all rest:List Oper) (env:Env) (st:St) (ids:List Nat) (env':Env) (st':St) (ids':List Nat):Prop :=
 ∀(b:Frame) (cs:List Frame) (Q:Exit->Act->World->Prop) (I:Imm) (μ:Mu) (a:Act) (w:World) (tail:List Item) (j:Nat),rest=all.drop j->Conc n I μ env st ids a w ->
  (∀I' μ' a' w',Conc n I' μ' env' st' ids' a' w'->μ.le μ'->Ext I μ st w I' μ' st' w'->Reach P b cs Q tail a' w')->Reach P b cs Q (.inRegion all.toArray (List.range' j rest.length)::tail) a w
section
variable {env2:Env} {st2 stx:St} {ids2:List Nat} {c:Code} {all rest:List Oper}
theorem Mu.le_trans' {a b c:Mu} (h:a.le b) (k:b.le c):a.le c:=λi v hv=>k i v (h i v hv)
theorem cN {rid:Nat} (h:O2 P n all all env st ids env' st' ids'):Sk P n (.region rid ⟨all⟩ false) env st ids env' st' ids':=λb cs Q I μ a w tail hc k=>by
 refine M7 ?_;have:=h b cs Q I μ a w tail 0 rfl hc k;simpa [zQ] using this
theorem vY:O2 P n all [] env st ids env st ids:=λb cs Q I μ a w tail j hj hc k=>GV (k I μ a w hc (Mu.le_refl μ) (Ext.refl _ _ _ _))
theorem za0 {rd:List Nat} {wr:St} (hl:LD P (λ_=>False) all o env st rd fr wr d) (hg:o.guard=none) (hnd:∀c,o.op ≠ .defer c) (hn:∀t,o.dst=some t->t<n) (h:O2 P n all rest (BK o.dst d env) (wr++st) ids' env' st' ids2):O2 P n all (o::rest) env st (fr++ids') env' st' ids2:=by
 intro b cs Q I μ a w tail j hr hc k;obtain ⟨hj,hr'⟩:=DW hr;have hon:JN (o.looksAt all.toArray) I μ env a:=λt _ d hl=>hc.env t d hl;have hlen:(o::rest).length=rest.length+1:=rfl;rw [hlen,OX];have hw:Region.wanted o (yielded all.toArray a.tmps)=true:=AH hg;obtain ⟨h1,_⟩:=hl I μ st ids' a w (λ_ _=>rfl) hc.toStRep hon;refine FN hj hw hnd (valX.upon ((h1 hw).mono ?_ ?_))
 ·rintro v w2 ⟨I',μ',q1,q2,q4,q3⟩;obtain ⟨p1,p2,p3⟩:=Ij (n:=n) (w:=w2) (dst:=o.dst) (λt d hl=>(hc.env t d hl).mono q3.imm q4) hc.size hn q2;exact h b cs Q I' μ' (a.put o.dst v) w2 tail (j+1) hr'
   {q1 with size:=p2,env:=by cases hdst:o.dst <;> simpa [BK,hdst] using p1,defers:=by rw [p3];exact hc.defers.ext q3 }
   λI2 μ2 a2 w3 hc2 hm2 he2=>k I2 μ2 a2 w3 hc2 (Mu.le_trans' q4 hm2) (q3.trans he2)
 ·rintro chain w2 ⟨v,x,I2,q1,q2,q3,q4,q5⟩;exact q2.elim
theorem zM (htt:TTok P tt) {x:Option Blk} {env1:Env} {ids1:List Nat} (h:FL tt n all o env st ids = .e env1 ((i,x)::st1) ids1 ob) (hob:A4 ob) (hg:o.guard=none) (hr:O2 P n all rest env1 ((i,x)::st) ids1 env' st' ids2) :
  O2 P n all (o::rest) env st ids env' st' ids2:=by
 obtain ⟨d,fr,e1,e2,e3,e4,e5,_,e7⟩:=TS (P:=P) (Pn:=λ_=>False) htt h hob;subst e2;rw [e3] at hr;exact za0 (wr:=[(i,x)]) e7 hg e5 e4 hr
theorem gB (htt:TTok P tt) {rid:Nat} {o1 o2:Oper} {x y:Option Blk} {st2':St} {env1 env2:Env} {ids1 ids2:List Nat} {ob1 ob2:List Prop} (h1:FL tt n [o1,o2] o1 env st ids = .e env1 ((i,x)::st1) ids1 ob1) (g1:o1.guard=none) (h2:FL tt n [o1,o2] o2 env1 ((i,x)::st) ids1 = .e env2 ((i,y)::st2') ids2 ob2) (g2:o2.guard=none) (hob1:A4 ob1) (hob2:A4 ob2):Sk P n (.region rid ⟨[o1,o2]⟩ false) env st ids env2 ((i,y)::(i,x)::st) ids2 :=
 cN (zM htt h1 hob1 g1 (zM htt h2 hob2 g2 vY))
end
def Nr (kp:List Nat):St->St
 | []=>[]
 | (i,b)::r=>bif Fp kp i then Nr kp r else (i,b)::Nr kp r
theorem Xl {kp:List Nat} {s:St} {i:Nat}:∀{W:St},lk (Nr kp W++s) i=if i∈kp then lk s i else lk (W++s) i
 | []=>by simp [Nr]
 | (k,b)::r=>by
  have ih:=Xl (kp:=kp) (s:=s) (i:=i) (W:=r);simp only [Nr];cases hm:Fp kp k with
  | true =>
   simp only [cond_true,De];rw [ih];by_cases hi:i∈kp
   ·rw [if_pos hi,if_pos hi]
   ·rw [if_neg hi,if_neg hi,A6 _ _ (λe:k=i=>hi (by rw [<- e];exact BT.1 hm))]
  | false =>
   simp only [cond_false,De];by_cases hk:k=i
   ·subst hk;rw [A0,if_neg (λh=>by rw [BT.2 h] at hm;cases hm),A0]
   ·rw [A6 _ _ hk,A6 _ _ hk,ih]
def Vy (W st:St) (l:List Nat):List Nat->Prop
 | []=>True
 | i::r=>(Fp l i=true/\lk W i=lk st i)/\Vy W st l r
theorem Pl {W st:St} {l:List Nat}:∀{kp:List Nat},Vy W st l kp->∀i∈kp,i∈l/\lk W i=lk st i
 | [],_,i,h=>by cases h
 | k::r,h,i,hi=>by
  rcases Cy.1 hi with rfl | hi
  ·exact ⟨BT.1 h.1.1,h.1.2⟩
  ·exact Pl h.2 i hi
structure uS where
 f:FuncId
 das:List D
 g:Option (Bool×Bool)
 ob:List Prop
 dst:Option Nat
 o:Oper
 all:List Oper
def sN (n:Nat) (env:Env) (todo:List DI):Option uS :=
 match Bm todo ([],[]) with
 | some (all,o,_)=>match Cq all env o,o.op with
  | some g,.call { callee:=.value (.func f),args:=⟨args⟩,.. }=>match I7 (Am g) env args,BM n o.dst with
   | some (ds,ob),true=>some ⟨f,ds,g,ob,o.dst,o,all⟩
   | _,_=>none
  | some g,.call { callee:=.value (.tmp t),args:=⟨args⟩,.. }=>match lk env t,I7 (Am g) env args,BM n o.dst with
   | some (.imm (.fn (.func f))),some (ds,ob),true=>some ⟨f,ds,g,ob,o.dst,o,all⟩
   | some (.fn (.func f) df dc),some (ds,ob),true=>some ⟨f,df++ds++dc,g,ob,o.dst,o,all⟩
   | _,_,_=>none
  | _,_=>none
 | none=>none
theorem sM {c:uS} (h:sN n env todo=some c) (hob:A4 c.ob):(∀f,∃todo',Bm todo f=some (c.all,c.o,todo'))/\Cq c.all env c.o=some c.g/\Ff P c.o env c.f c.das (Am c.g)/\BM n c.dst=true/\(∀x,c.o.op ≠ .defer x)/\c.dst=c.o.dst:=by
 unfold sN at h;have hnext:∀{all:List Oper} {o:Oper} {t:List DI},Bm todo ([],[])=some (all,o,t)->∀f,∃todo',Bm todo f=some (all,o,todo'):=by
  intro all o t h f;rcases IK h with ⟨r,k,rfl,_⟩ | ⟨r,fs,k,rfl,_⟩
  ·exact ⟨_,rfl⟩
  ·exact ⟨_,rfl⟩
 split at h
 ·rename_i all o t h1
  split at h
  ·rename_i g f args ts hg ho
   split at h
   ·rename_i ds ob ha hd;cases h;exact ⟨hnext h1,hg,Ga ho ha hob,hd,(λx hx=>by rw [ho] at hx;cases hx),rfl⟩
   ·cases h
  ·rename_i g t' args ts hg ho
   split at h
   ·rename_i f ds ob ht ha hd;cases h;exact ⟨hnext h1,hg,Fy ho ht ha hob,hd,(λx hx=>by rw [ho] at hx;cases hx),rfl⟩
   ·rename_i f df dc ds ob ht ha hd;cases h;exact ⟨hnext h1,hg,I8 ho ht ha hob,hd,(λx hx=>by rw [ho] at hx;cases hx),rfl⟩
   ·cases h
  ·cases h
 ·cases h
theorem rG {all:List Oper} (hg:Cq all env o=some g) (hcx:Am g) (hc:Ff P o env f das (Am g)) (hE:Hy P f (F3 (DN σ) das) st0 (.ret d st1)) (hb:E8 σ st st0) (hn:Ju σ τ1 das st0 d st1 fr=true) (kp:List Nat) (hkp:Vy (DV (Bg σ++τ1) st1++Co (EO σ)) st (EO σ) kp) :
  LD P Pn all o env st (EO σ) fr (Nr kp (DV (Bg σ++τ1) st1++Co (EO σ))) (gD g (Jn (DN (Bg σ++τ1)) d)):=by
 intro I μ st2 ids1 a w hag hst hon;have hwant:=FT hg hon;refine ⟨λ_=>?_,λhw=>by rw [hwant.2 hcx] at hw;cases hw⟩;obtain ⟨xs,h1,h2⟩:=hc I μ a w (Bj hon) hcx;have hb':=Gb hag hb;have hN:=NX hn;obtain ⟨q1,q2,q3⟩:=G4 hst hb' hN.args h1;rw [h2];refine (hE I _ w xs q1 q2).mono (λu w' hu=>?_) (λ_ _ h=>h.elim);obtain ⟨I',μ',r1,r2,r3,r4⟩:=hu;obtain ⟨ν,s1,s2,s3,s4⟩:=Lq hst hb' hN r1 r2 r3 r4 q3;rw [<- Ld] at s1 s4;have hsame:∀i,lk (DV (Bg σ++τ1) st1++Co (EO σ)++st2) i=lk (Nr kp (DV (Bg σ++τ1) st1++Co (EO σ))++st2) i:=λi=>by
  rw [Xl];by_cases hi:i∈kp
  ·rw [if_pos hi];obtain ⟨k1,k2⟩:=Pl hkp i hi;have hm:i∈(DV (Bg σ++τ1) st1++Co (EO σ)).map (·.1):=by
    rw [CE,KB];exact BN.2 (.inr k1)
   rw [Gy hm,k2,hag i k1]
  ·rw [if_neg hi]
 refine ⟨I',ν,s1.congr hsame,?_,s3,s4.congr (λ_=>rfl) hsame⟩;cases g with
 | none=>exact s2
 | some p=>exact .guard _ _ _ _ (λ_=>s2) (λhn=>absurd hcx hn)
theorem A5 {c:uS} (σ τ1:List (Nat×Nat)) (kp:List Nat) {nm:List Nat} (h:sN n env todo=some c) (hcx:Am c.g) (hob:A4 c.ob) (hE:Hy P c.f (F3 (DN σ) c.das) st0 (.ret d st1)) (hb:E8 σ st st0) (hn:Ju σ τ1 c.das st0 d st1 fr=true) (hkp:Vy (DV (Bg σ++τ1) st1++Co (EO σ)) st (EO σ) kp) (hnm:(Nr kp (DV (Bg σ++τ1) st1++Co (EO σ))).map (·.1)=nm) (h1:Bm todo (EO σ,nm)=some (c.all,c.o,todo')) (hids:ids=fr++ids') (hk:G P n F Q todo' (BK c.dst (gD c.g (Jn (DN (Bg σ++τ1)) d)) env) (Nr kp (DV (Bg σ++τ1) st1++Co (EO σ))++st) ids'):G P n F Q todo env st ids:=by
 obtain ⟨_,q2,q3,q4,q5,q6⟩:=sM (P:=P) h hob;subst hids;rw [q6] at q4 hk;subst hnm;exact BF h1 (rG q2 hcx q3 hE hb hn kp hkp) q4 q5 hk
structure PBo where
 e:TypeId
 es:List (List V)
 sz:Nat
 ob:List Prop
 dst:Option Nat
 todo:List DI
def zJ (tt:TT) (n:Nat) (env:Env) (q:Nat) (todo:List DI):Option PBo :=
 match Bm todo ([],[q]) with
 | some (_,o,todo')=>match o.guard,o.op with
  | none,.buildSlice t m ⟨parts⟩=>match lk tt t,BM n o.dst with
   | some { sh:=.sl e,.. },true=>match lk tt e with
    | some i=>match Iu True env i.size 0 parts,Nat.beq m parts.length,Nat.ble (m*i.size) 16777216,Nat.blt 0 i.size,Nat.blt 0 m with
     | some (es,o'),true,true,true,true=>some ⟨e,es,i.size,o',o.dst,todo'⟩
     | _,_,_,_,_=>none
    | none=>none
   | _,_=>none
  | _,_=>none
 | none=>none
theorem zbt (htt:TTok P tt) {i:TyI} {m:Nat} {parts:List (Nat×Operand)} (ho:o.op = .buildSlice t m ⟨parts⟩) (hu:P.underlying t=some (.slice e)) (hi:lk tt e=some i) {o':List Prop} (hel:Iu True env i.size 0 parts=some (es,o')) (hob:A4 o') (hn':m=parts.length) (hbig':m*i.size<=16777216) (hsz:0<i.size) (hm0:0<m) (hop:DR I μ env a o.op) :
  ∃R:List (List Value),(execOp a.eval o).run P w = .ok (.value (.slice (some ⟨w.heap.size,0,none⟩) m m)) (w.alloc (.cells R.flatten.toArray e))/\R.length=m/\es.length=m/\(∀c∈R,c.length=i.size)/\(∀c∈es,c.length=i.size) /\
   ∀(k:Nat) (c:List Value) (x:List V),R[k]?=some c->es[k]?=some x->RepVL I c x/\∀u∈c,u.oneCell'=true:=by
 have hty:=htt e i hi;rw [ho] at hop;obtain ⟨inf,zv,hi1,hi2,_,hi4,hi5,hi6⟩:=hty.info;obtain ⟨q1,q2,q3⟩:=K8 (a:=a) (I:=I) (μ:=μ) trivial parts 0 es o' hel hob (λp hp=>hop p.2 (by simp only [Op.operands];exact C2.2 ⟨p,hp,rfl⟩));have hz0:m*i.size≠0:=by have:=Nat.mul_pos hm0 hsz;omega
 obtain ⟨A,hA,hA1⟩:∃A:List Value,A.length=m*i.size/\(Array.range (m*i.size)).map (λk=>zv.cells[k % zv.cells.size]!)=A.toArray :=
  ⟨((Array.range (m*i.size)).map (λk=>zv.cells[k % zv.cells.size]!)).toList,by simp,rfl⟩
 obtain ⟨c1,c2,c3⟩:=Mn i.size m A hA;have hq:∀p∈(parts.map λ(p:Nat×Operand)=>(p.1,a.eval p.2)),∃seg,(GN i.size m A)[p.1]?=some seg/\p.2.cells.size=seg.length:=by
  intro p hp;obtain ⟨q,hm,rfl⟩:=C2.1 hp;obtain ⟨k,hk⟩:=IN hm;have h1:=q2 k q hk;have hlt:k<parts.length:=(AL.1 hk).1;have hlt2:k<es.length:=by rw [q1];exact hlt
  obtain ⟨_,r2,_,_⟩:=q3 k q es[k] hk (Br hlt2);have hlt3:q.1<(GN i.size m A).length:=by rw [c2];omega
  exact ⟨_,Br hlt3,by rw [r2,c3 _ (IP hlt3)]⟩
 have hplace:∀k seg,(GN i.size m A)[k]?=some seg->some (k*i.size,i.size)=some (((GN i.size m A).take k).flatten.length,seg.length):=by
  intro k seg hs;have hlt:k<m:=by rw [<- c2];exact (AL.1 hs).1
  rw [B0 (sz:=i.size) (λc hc'=>c3 c (LA hc')),c3 seg (AF hs)];rw [HH,c2,Xe (by omega)]
 have hfill:=Le (λk=>some (k*i.size,i.size)) (parts.map λ(p:Nat×Operand)=>(p.1,a.eval p.2)) _ hplace hq;rw [c1] at hfill;obtain ⟨R,hR⟩:∃R,(parts.map λ(p:Nat×Operand)=>(p.1,a.eval p.2)).foldl (λs p=>s.set p.1 p.2.cells.toList) (GN i.size m A)=R:=⟨_,rfl⟩
 rw [hR] at hfill;have hRl:R.length=m:=by rw [<- hR,EW,c2]
 have hRk:∀(k:Nat) (c:List Value),R[k]?=some c->∃p,parts[k]?=some p/\c=(a.eval p.2).cells.toList:=by
  intro k c hk;have hlt:k<parts.length:=by rw [<- hn',<- hRl];exact (AL.1 hk).1
  have hp:parts[k]?=some parts[k]:=Br hlt;have h1:(parts[k]).1=k:=by have:=q2 k _ hp;omega
  rw [<- hR] at hk;obtain ⟨r1,_⟩:=It _ _ k c hk;refine ⟨_,hp,r1 _ (C2.2 ⟨parts[k],IP hlt,by rw [h1]⟩) λu hu=>?_⟩;obtain ⟨q,hm,he⟩:=C2.1 hu;simp only [Bc] at he;obtain ⟨k',hk'⟩:=IN hm;have:=q2 k' q hk';have e:k'=k:=by omega
  subst e;rw [hp] at hk';have hk':=OZ hk';rw [hk',<- he.2]
 refine ⟨R,?_,hRl,by omega,λc hc'=>?_,λc hc'=>?_,λk c x hk hx=>?_⟩
 ·have hno:¬m*i.size > 2 ^ 24:=by omega
  simp only [execOp,ho,Instr.buildSlice,Sem.run_bind,run_underlying hu,hty.sizeOf w,Result.andThen_ok,hno,if_false,Sem.run_pure,if_neg hz0,zeroValue,typeInfo,run_program,hi1,hi4];rw [hA1,MU,hfill];simp only [newRow,Sem.run_bind,run_newObj,Result.andThen_ok,Sem.run_pure];rfl
 ·obtain ⟨k,hk⟩:=IN hc';obtain ⟨p,hp,rfl⟩:=hRk k c hk;have hlt2:k<es.length:=by rw [q1];exact (AL.1 hp).1
  obtain ⟨_,r2,_,_⟩:=q3 k p _ hp (Br hlt2);simpa using r2
 ·obtain ⟨k,hk⟩:=IN hc';have hlt2:k<parts.length:=by rw [<- q1];exact (AL.1 hk).1
  exact (q3 k _ c (Br hlt2) hk).2.2.1
 ·obtain ⟨p,hp,rfl⟩:=hRk k c hk;obtain ⟨r1,_,_,r4⟩:=q3 k p x hp hx;exact ⟨r1,r4⟩
theorem sR (htt:TTok P tt) (q:Nat) {c:PBo} (h:zJ tt n env q todo=some c) (hob:A4 c.ob)
  (hk:G P n F Q c.todo (BK c.dst (.own q c.es.length) env) ((q,some (.row c.e c.sz c.es))::st) ids'):G P n F Q todo env st (q::ids'):=by
 unfold zJ at h
 split at h
 ·rename_i all o todo' h1
  split at h
  ·rename_i t m parts hgd hop
   split at h
   ·rename_i e _ _ _ _ ht hd
    split at h
    ·rename_i i hi
     split at h
     ·rename_i es o' hel hm hbig hpos hm0;cases h;simp only at hob hk;have hk:G P n F Q todo' (BK o.dst (.own q es.length) env) ([(q,some (.row e i.size es))]++st) ids':=hk;refine BF (fr:=[q]) (wr:=[(q,some (.row e i.size es))]) (rd:=[]) h1 ?_ hd (λc hc=>by rw [hop] at hc;cases hc) hk;intro I μ st1 ids1 a w hag hst hon;refine ⟨λ_=>?_,λhw=>by rw [AH hgd] at hw;cases hw⟩;have hpos:=show 0<i.size by simpa [HG] using hpos
      obtain ⟨R,r1,r2,r3,r4,r5,r6⟩:=zbt (w:=w) htt hop (htt.sh ht) hi hel hob (CD hm) (qC hbig) hpos (by simpa [HG] using hm0) (Bj hon);rw [r1];have hfl:RepVL I R.flatten es.flatten:=by
       refine ⟨by rw [B0 r4,B0 r5,r2,r3],λj u x hu hx=>?_⟩;have hlt:j<m*i.size:=by rw [<- r2,<- B0 r4];exact (AL.1 hu).1
       have h1:j / i.size<m:=qU (by rw [Rd];exact hlt);have h2:j % i.size<i.size:=Vq _ hpos;have e1:R[j / i.size]?=some R[j / i.size]:=Br (by omega);have e2:es[j / i.size]?=some es[j / i.size]:=Br (by omega);obtain ⟨p1,p2⟩:=r6 _ _ _ e1 e2;have l1:=r4 _ (AF e1);have l2:=r5 _ (AF e2);have f1:=C8 r4 _ _ (j % i.size) _ e1 (Br (by omega));have f2:=C8 r5 _ _ (j % i.size) _ e2 (Br (by omega));have ej:j / i.size*i.size+j % i.size=j:=by rw [Rd,ZT]
       rw [ej] at f1 f2;rw [f1] at hu;rw [f2] at hx;cases hu;cases hx;exact p1.2 _ _ _ (Br (by omega)) (Br (by omega))
      have hone:∀c∈es,∀x∈c,V.one x=true:=λc hc x hx=>by
       obtain ⟨k,hk⟩:=IN hc;obtain ⟨l,hl⟩:=IN hx;have hlt:k<R.length:=by rw [r2,<- r3];exact (AL.1 hk).1
       obtain ⟨p1,p2⟩:=r6 k _ c (Br hlt) hk;have hl2:l<(R[k]).length:=by rw [p1.1];exact (AL.1 hl).1
       exact (p1.2 l _ x (Br hl2) hl).oneV (p2 _ (IP hl2))
      have hcm:m<=maxLen:=by
       have hb:=qC hbig;have:m*1<=m*i.size:=zR m hpos;unfold maxLen;omega
      have hown:(w.alloc (.cells R.flatten.toArray e)).ownsRow 0 e i.size (.slice (some ⟨w.heap.size,0,none⟩) m m) es.length R.flatten:=by
       rw [r3];refine ⟨by rw [B0 r4,r2],.inr ⟨w.heap.size,m,R.flatten.toArray,rfl,AJ _,EC w _,BQ _,hcm,by simp [B0 r4,r2],?_⟩⟩;have:R.flatten.toArray.toList=R.flatten:=rfl;rw [this,Db (by rw [B0 r4,r2];exact BQ _)]
      obtain ⟨μ',q1,q2,q3,q4⟩:=StRep.renew (id':=q) (ids:=ids1) (rd:=[]) (v':=.slice (some ⟨w.heap.size,0,none⟩) m m) (blk':=.row e i.size es) hst (World.grownBy_alloc w _ none) (λb hb=>by cases hb) (λb hb=>by
       have:w.heap.size=b:=hb;subst this;exact ⟨by simp,.inl (BQ _)⟩) (λμ'=>⟨R.flatten,hown,hfl,r5,hone,hpos⟩)
      refine ⟨I,μ',q3,?_,q2,q4⟩;rw [r3];exact .own q m _ m q1
     ·cases h
    ·cases h
   ·cases h
  ·cases h
 ·cases h
def nlL (j:Nat):List D->List D->Prop
 | [],[]=>True
 | d::r,d'::r'=>(d=d'\/(d = .nils/\d' = .own j 0))/\nlL j r r'
 | _,_=>False
theorem WV {j:Nat}:∀{ds ds':List D},nlL j ds ds'->ds.length=ds'.length/\∀(i:Nat) (d':D),ds'[i]?=some d'->∃d,ds[i]?=some d/\(d=d'\/(d = .nils/\d' = .own j 0))
 | [],[],_=>⟨rfl,λi d h=>by simp at h⟩
 | d::r,d'::r',h=>by
  obtain ⟨h1,h2⟩:=WV h.2;refine ⟨by simp [h1],λi x hx=>?_⟩;cases i with
  | zero=>simp at hx;subst hx;exact ⟨d,rfl,h.1⟩
  | succ i=>exact h2 i x (by simpa using hx)
 | [],_::_,h=>h.elim
 | _::_,[],h=>h.elim
theorem Ef (k j:Nat) {sz':Nat} (ds':List D) (hsz:0<sz) (hk:lk st k=some (some (.cells t sz' ds))) (hcl:nlL j ds ds') (h:DGo P n F Q todo env ((k,some (.cells t sz' ds'))::(j,some (.row e sz []))::st) ids'):DGo P n F Q todo env st (j::ids'):=by
 refine EY λI μ a w hc=>?_;obtain ⟨gk,hgk,_⟩:=hc.blk k _ hk;have hjk:j≠k:=λe=>by rw [<- e,hc.idsFree j (by simp)] at hgk;cases hgk
 obtain ⟨q1,q2,q3⟩:=StRep.relay (R:=[]) (new:=[(j,.slice none 0 0,.row e sz [])]) (ids':=ids') hc.toStRep
  (λp hp b hb=>by rw [AP.1 hp] at hb;exact hb.elim)
  (λp hp q hq b _ _=>by rw [AP.1 hp,AP.1 hq]) (Imm.le_refl I) hc.imm (λb o h=>.inl h)
  (λ_ p hp=>by rw [AP.1 hp];exact ⟨[],World.ownsRow_nil w 0 e sz,.nil,by simp,by simp,hsz⟩)
 have hmj:Eo [(j,Value.slice none 0 0,Blk.row e sz [])] μ j=some (.slice none 0 0):=by simp [Eo,lk]
 have hk2:A1 ((j,some (.row e sz []))::st) k (.cells t sz' ds):=AB.2 (.inr ⟨hjk.symm,hk⟩);obtain ⟨c1,c2⟩:=WV hcl;obtain ⟨p1,p2⟩:=q2.retell (st1:=(k,some (.cells t sz' ds'))::(j,some (.row e sz []))::st) (λi bb hlb=>by
  rcases AB.1 hlb with ⟨rfl,rfl⟩ | ⟨_,h2⟩
  ·refine ⟨_,hk2,λgb hb=>?_⟩;obtain ⟨hs,b,us,e1,e2,e3,e4⟩:=hb;refine ⟨by rw [<- c1,hs],b,us,e1,e2,⟨by rw [<- c1,e3.1],λi v y hv hy=>?_⟩,e4⟩;obtain ⟨d,y1,y2⟩:=c2 i y hy;have hr:=e3.2 i v d hv y1;rcases y2 with rfl | ⟨rfl,rfl⟩
   ·exact hr
   ·cases hr;exact .own j 0 none 0 hmj
  ·exact ⟨bb,h2,λ_ h=>h⟩)
 exact ⟨I,_,env,_,ids',p1,λt d hd=>(hc.env t d hd).mono (Imm.le_refl I) q1,q3.trans p2,.of_le q1,h⟩
structure zdf where
 dx:D
 es:List (List V)
 es2:List (List V)
 sz:Nat
 bytes:Nat
 dst:Option Nat
 todo:List DI
def gA:D->Option (List (List V))
 | .nils=>some []
 | .clip es=>some es
 | _=>none
def zK (tt:TT) (n:Nat) (env:Env) (todo:List DI):Option zdf :=
 match Bm todo ([],[]) with
 | some (_,o,todo')=>match o.guard,o.op with
  | none,.call { callee:=.builtin .append,args:=⟨[x,y]⟩,argTypes:=⟨[t,t']⟩ }=>match Nat.beq t t',lk tt t,Eg env x,Eg env y with
   | true,some { sh:=.sl e,.. },some dx,some (.imm (.sl (e1::es2)))=>match lk tt e,gA dx with
    | some i,some es=>match Nat.beq i.zero.length i.size&&Nat.blt 0 i.size,BM n o.dst with
     | true,true=>some ⟨dx,es,e1::es2,i.size,i.bytes,o.dst,todo'⟩
     | _,_=>none
    | _,_=>none
   | _,_,_,_=>none
  | _,_=>none
 | none=>none
theorem StRep.growI (hst:StRep I μ st ids w) (hg:w.grownBy w' none) {c:Nat} {o:Obj} (hc:w.heap.size<=c) (ho:w'.heap[c]?=some o):∃I',I' c=some o/\I.le I'/\StRep I' μ st ids w'/\Ext I μ st w I' μ st w':=by
 have hnew:I c=none:=by
  cases h:I c with
  | none=>rfl
  | some o'=>have:=Cc (hst.imm _ _ h);omega
 have hold:∀b,b<w.heap.size->w'.heap[b]?=w.heap[b]?:=λb hb=>hg.block b hb (by simp);have hle:I.le (λb=>if b=c then some o else I b):=λb o' h=>by
  have:b≠c:=λe=>by rw [e,hnew] at h;cases h
  simp [this,h]
 refine ⟨λb=>if b=c then some o else I b,by simp,hle,?_,?_⟩
 ·refine { imm:=λb o' h=>?_,blk:=λid blk hl=>?_,apart:=λid blk g b hl hg' hb=>?_,inj:=hst.inj,nodup:=hst.nodup,idsFree:=hst.idsFree }
  ·by_cases hb:b=c
   ·subst hb;simp at h;subst h;exact ho
   ·simp [hb] at h;have:=hst.imm _ _ h;rw [hold b (Cc this)];exact this
  ·obtain ⟨g,h1,h2⟩:=hst.blk id blk hl;exact ⟨g,h1,(h2.mono hle (Mu.le_refl μ)).world (λb hb=>hold b (hst.apart id blk g b hl h1 hb).2)⟩
  ·obtain ⟨h1,h2⟩:=hst.apart id blk g b hl hg' hb;have:b≠c:=by omega
   exact ⟨by simp [this,h1],Z5 h2 hg.size⟩
 ·exact { imm:=hle,os:=hg.os,tape:=hg.tape,output:=hg.output,size:=hg.size,block:=λb hb _=>hold b hb,fresh:=λb _ h=>h,old:=λb hb _=>if_neg (by omega) }
theorem zav {u:Value} {xs:List Value} (h:w.ownsRow 0 e sz u es.length xs) (hr:RepVL I xs es.flatten) (hsz:∀c∈es,c.length=sz) (h1:∀v∈xs,v.oneCell'=true) {o:Obj} (hb:u.ownBlock=some b) (ho:w.heap[b]?=some o) (hI:I b=some o):RepV I u (.sl es):=by
 rcases h.2 with ⟨rfl,_⟩ | ⟨g,cap,cur,rfl,_,hheap,hle,hcm,hcs,htake⟩
 ·cases hb
 ·have hb:g=b:=by simpa [Value.ownBlock] using hb
  subst hb;rw [hheap] at ho;cases ho;have hxl:=h.1;refine .sl g 0 es.length cap sz es (λi j=>(xs[i*sz+j]?).getD undef) rfl hle hcm hsz ?_ ?_
  ·intro i c j x hi hj;have hf:=C8 hsz i c j x hi hj;have hlt:i*sz+j<xs.length:=by rw [hr.1];exact (AL.1 hf).1
   have hxs:xs[i*sz+j]?=some xs[i*sz+j]:=Br hlt;rw [hxs,MV];refine ⟨?_,h1 _ (IP hlt)⟩;unfold Imm.cell;rw [hI];have hcur:cur[i*sz+j]?=some xs[i*sz+j]:=by
    have e1:(cur.toList.take (es.length*sz))[i*sz+j]?=some xs[i*sz+j]:=by rw [htake];exact hxs
    have e2:=e1;rw [D6] at e2
    split at e2
    ·simpa using e2
    ·cases e2
   simp only [Dh,hcur]
  ·intro i c j x hi hj;have hf:=C8 hsz i c j x hi hj;have hlt:i*sz+j<xs.length:=by rw [hr.1];exact (AL.1 hf).1
   have hxs:xs[i*sz+j]?=some xs[i*sz+j]:=Br hlt;rw [hxs,MV];exact hr.2 _ _ x hxs hf
theorem kU (htt:TTok P tt) {c:zdf} (h:zK tt n env todo=some c) (hok:uD c.sz c.bytes (.clip []) c.es c.es2) (hes:∀x∈c.es,x.length=c.sz)
  (hk:G P n F Q c.todo (BK c.dst (.imm (.sl (c.es++c.es2))) env) st ids):G P n F Q todo env st ids:=by
 unfold zK at h
 split at h
 ·rename_i all o todo' hn1
  split at h
  ·rename_i x y t t' hg hop
   split at h
   ·rename_i e _ _ _ _ dx e1 es2 htt' ht hx hy;have:=CD htt';subst this
    split at h
    ·rename_i i es hi hb
     split at h
     ·rename_i hz hd;cases h;simp only at hok hes hk;refine BF (fr:=[]) (wr:=[]) (rd:=[]) hn1 ?_ hd (λc hc=>by rw [hop] at hc;cases hc) hk;intro I μ st1 ids1 a w hag hst hon;refine ⟨λ_=>?_,λhw=>by rw [AH hg] at hw;cases hw⟩;have hops:=Bj hon;rw [hop] at hops;have rx:=hops x (by simp [Op.operands,Call.operands]) _ hx;have ry:=(hops y (by simp [Op.operands,Call.operands]) _ hy).immInv;obtain ⟨inf,z,z1,z2,z3,z4,z5,z6⟩:=(htt e i hi).info;have hu:P.underlying t=some (.slice e):=htt.sh ht;simp only [Ap,HG] at hz;have hzl:z.cells.size=i.size:=by
       have:=(z5 I μ).1;rw [CD hz.1] at this;simpa using this
      obtain ⟨k1,k2,k3,_⟩:=hok;have hrun:∀{u w'},(Builtin.append_ #[t,t] o.type #[a.eval x,a.eval y]).run P w = .ok u w'->(execOp a.eval o).run P w = .ok (.value u) w':=by
       intro u w' h;simp only [execOp,hop,resolve,invoke,builtin,Sem.run_bind,Sem.run_pure,Result.andThen_ok,MU,C6,HL,h]
      rcases PR hst.imm ry k1 hz.2 with ⟨_,e0⟩ | ⟨yb,yo,yc,news,ey,_,_,n1,n2,n3,n4,n5⟩
      ·cases e0
      have fin:∀{u:Value} {w':World} {xs:List Value},(Builtin.append_ #[t,t] o.type #[a.eval x,a.eval y]).run P w = .ok u w'->w'.ownsRow 0 e i.size u (es.length+(e1::es2).length) (xs++news)->w.grownBy w' none->(∀b,u.ownBlock=some b->w.heap.size<=b)->RepVL I xs es.flatten->(∀v∈xs,v.oneCell'=true) ->
        valX P ((execOp a.eval o).run P w) (λv w'=>∃I' μ',StRep I' μ' ([]++st1) ids1 w'/\RepD I' μ' v (.imm (.sl (es++e1::es2)))/\μ.le μ'/\Ext I μ st1 w I' μ' ([]++st1) w') (Lx (Lw Q) I μ st1 w):=by
       intro u w' xs r1 r2 r3 r4 r5 r6;rw [hrun r1];obtain ⟨b,hb,hlt⟩:∃b,u.ownBlock=some b/\b<w'.heap.size:=by
        rcases r2.2 with ⟨_,hh⟩ | ⟨g,cap,cur,rfl,_,hheap,_⟩
        ·simp at hh
        ·exact ⟨g,rfl,Cc hheap⟩
       have ho:w'.heap[b]?=some w'.heap[b]:=PB hlt;obtain ⟨I',q1,q2,q3,q4⟩:=hst.growI r3 (r4 b hb) ho;refine ⟨I',μ,q3,.imm _ _ (zav (es:=es++e1::es2) (by rw [B5];exact r2) ?_ ?_ ?_ hb ho q1),Mu.le_refl μ,q4⟩
       ·rw [ZS];exact (r5.append n4).mono q2
       ·intro c hc;exact (BN.1 hc).elim (hes c) (k1 c)
       ·intro v hv;exact (BN.1 hv).elim (r6 v) (n3 v)
      have hnil:a.eval x = .slice none 0 0->es=[]->valX P ((execOp a.eval o).run P w) (λv w'=>∃I' μ',StRep I' μ' ([]++st1) ids1 w'/\RepD I' μ' v (.imm (.sl (es++e1::es2)))/\μ.le μ'/\Ext I μ st1 w I' μ' ([]++st1) w') (Lx (Lw Q) I μ st1 w):=λhv he=>by
       subst he;obtain ⟨v',w',q1,q2,q3,_⟩:=run_append_own (P:=P) w w.heap.size t o.type e inf z i.size i.bytes hu z1 z4 z2 z3 hzl hz.2 (.slice none 0 0) 0 [] (World.ownsRow_nil w _ e i.size) ⟨yb,yo,none⟩ (e1::es2).length yc news n1 n2 n3
        (by simpa using k2) (by simpa using k3) (BQ _)
       have q2':w'.ownsRow 0 e i.size v' (0+(e1::es2).length) ([]++news):=⟨q2.1,q2.2.imp id λ⟨g,cap,cur,a1,_,a2⟩=>⟨g,cap,cur,a1,AJ _,a2⟩⟩
       exact fin (by rw [hv,ey];exact q1) q2' ⟨q3.os,q3.tape,q3.output,q3.size,λb hb _=>q3.block b hb (by simp [Value.ownBlock])⟩ (λb h=>(q2.lt b h).1) .nil (by simp)
      have hgrow:∀(ad:Addr) (cap:Nat) (xs:List Value),a.eval x = .slice (some ad) es.length cap->xs.length=es.length*i.size->(∀j u,xs[j]?=some u->w.cell? (ad.add j)=some u)->cap<es.length+(e1::es2).length->RepVL I xs es.flatten->(∀v∈xs,v.oneCell'=true) ->
        valX P ((execOp a.eval o).run P w) (λv w'=>∃I' μ',StRep I' μ' ([]++st1) ids1 w'/\RepD I' μ' v (.imm (.sl (es++e1::es2)))/\μ.le μ'/\Ext I μ st1 w I' μ' ([]++st1) w') (Lx (Lw Q) I μ st1 w):=λad cap xs hv hl hcell hlt hr h1=>by
       have hsmall:es.length+(e1::es2).length<=9223372036854775807:=by simp only [maxLen] at k2;omega
       have hr':=run_append_grow (P:=P) w t o.type e inf z hu z1 z4 ad es.length cap xs (by rw [z2];exact hl) hcell ⟨yb,yo,none⟩ (e1::es2).length yc news (by rw [z2];exact n1) n2 hlt (by omega) (by rw [z3];exact growslice_fits hlt k3);have hge:=grownCap_ge w (es.length+(e1::es2).length) cap e;have hcm:grownCap w (es.length+(e1::es2).length) cap e<=maxLen:=grownCap_le_maxLen w _ cap e k2;have hlen:(xs++news).length=(es.length+(e1::es2).length)*i.size:=by rw [B5,hl,n1,QV]
       refine fin (by rw [hv,ey];exact hr') (xs:=xs) ⟨hlen,.inr ⟨w.heap.size,_,_,rfl,AJ _,EC w.drew _,hge,hcm,?_,?_⟩⟩ ⟨rfl,rfl,rfl,by simp,λk hk _=>CW w.drew _ hk⟩
        (λb h=>by simp [Value.ownBlock] at h;omega) hr h1
       ·simp only [Array.size_append,ZR,size_zeroCells,hzl,hl,n1,<- QV];congr 1;omega
       ·simp only [Km,CF];rw [<- CF,<- hlen];exact ZQ
      cases dx with
      | nils =>
       simp only [gA,Ce] at hb;subst hb;have hv:a.eval x = .slice none 0 0:=by
        generalize a.eval x=v at rx;cases rx;rfl
       exact hnil hv rfl
      | clip es' =>
       simp only [gA,Ce] at hb;subst hb;have rx':∃ad len,a.eval x = .slice ad len len/\RepV I (.slice ad len len) (.sl es'):=by
        generalize a.eval x=v at rx;cases rx with
        | clip ad len _ h=>exact ⟨ad,len,rfl,h⟩
       obtain ⟨ad,len,hv,hr⟩:=rx';rcases PR hst.imm hr hes hz.2 with ⟨⟨adx,ex⟩,e0⟩ | ⟨xb,xo,xc,xs,ex,_,_,p1,p2,p3,p4,p5⟩
       ·cases adx with
        | none=>exact hnil (hv.trans ex) e0
        | some adx =>
         subst e0;exact hgrow adx 0 [] (hv.trans ex) (by simp) (λj u h=>by simp at h) (by simp) .nil (by simp)
       ·cases ex;exact hgrow ⟨xb,xo,none⟩ _ xs hv p1 p2 (by simp) p4 p3
      | _=>simp [gA] at hb
     ·cases h
    ·cases h
   ·cases h
  ·cases h
 ·cases h
structure PCl where
 es:List (List V)
 m:Int
 m2:Int
 dst:Option Nat
 todo:List DI
def zI (tt:TT) (n:Nat) (env:Env) (todo:List DI):Option PCl :=
 match Bm todo ([],[]) with
 | some (_,o,todo')=>match o.guard,o.op with
  | none,.slice t x none (some h) (some c)=>match lk tt t,Eg env x,Eg env h,Eg env c,BM n o.dst with
   | some { sh:=.sl e,.. },some (.imm (.sl es)),some (.imm (.int _ m)),some (.imm (.int _ m2)),true=>match lk tt e with
    | some _=>some ⟨es,m,m2,o.dst,todo'⟩
    | none=>none
   | _,_,_,_,_=>none
  | _,_=>none
 | none=>none
theorem zbh (htt:TTok P tt) {c:PCl} (h:zI tt n env todo=some c) (h1:c.m=c.es.length) (h2:c.m2=c.es.length)
  (hk:G P n F Q c.todo (BK c.dst (.clip c.es) env) st ids):G P n F Q todo env st ids:=by
 unfold zI at h
 split at h
 ·rename_i all o todo' hn1
  split at h
  ·rename_i t x hh cc hg hop
   split at h
   ·rename_i e _ _ _ _ es k1 m k2 m2 ht hx hhh hcc hd
    split at h
    ·rename_i ti hti;cases h;simp only at h1 h2 hk;subst h1;subst h2;refine BF (fr:=[]) (wr:=[]) (rd:=[]) hn1 ?_ hd (λc hc=>by rw [hop] at hc;cases hc) hk;intro I μ st1 ids1 a w hag hst hon;refine ⟨λ_=>?_,λhw=>by rw [AH hg] at hw;cases hw⟩;have hops:=Bj hon;rw [hop] at hops;have rx:=(hops x (by simp [Op.operands]) _ hx).immInv;have e1:a.eval hh = .int k1 es.length:=(hops hh (by simp [Op.operands]) _ hhh).immInv.intInv;have e2:a.eval cc = .int k2 es.length:=(hops cc (by simp [Op.operands]) _ hcc).immInv.intInv;have hb:∀(k:IntKind) (x y:Nat) (c:BoundsCode),x<=y->(Instr.sliceBound (.int k x) y c).run P w = .ok x w:=by
      intro k x y c hxy;simp [Instr.sliceBound,asIntOf,hxy]
     have hb0:∀(k:IntKind) (c:BoundsCode),(Instr.sliceBound (.int k 0) 0 c).run P w = .ok 0 w:=by
      intro k c;simp [Instr.sliceBound,asIntOf]
     have key:∃ad,(Instr.sliceAt t (a.eval x) none (some (.int k1 es.length)) (some (.int k2 es.length))).run P w = .ok (.slice ad es.length es.length) w/\RepV I (.slice ad es.length es.length) (.sl es):=by
      generalize a.eval x=v at rx;cases rx with
      | slnil=>exact ⟨none,by simp [Instr.sliceAt,run_underlying (htt.sh ht),Instr.slice,Instr.sliceBounds,hb0,(htt e ti hti).sizeOf w],.slnil⟩
      | sl0 ad=>exact ⟨ad,by simp [Instr.sliceAt,run_underlying (htt.sh ht),Instr.slice,Instr.sliceBounds,hb0,(htt e ti hti).sizeOf w],.sl0 ad⟩
      | sl b o len cap sz _ vs hl hc hm hsz hcell hrep =>
       subst hl;refine ⟨some ⟨b,o,none⟩,?_,.sl b o _ _ sz es vs rfl (BQ _) (by omega) hsz hcell hrep⟩;simp [Instr.sliceAt,run_underlying (htt.sh ht),Instr.slice,Instr.sliceBounds,hb _ _ _ _ hc,hb _ _ _ _ (BQ es.length),(htt e ti hti).sizeOf w,HY]
     obtain ⟨ad,r1,r2⟩:=key;have hrun:(execOp a.eval o).run P w = .ok (.value (.slice ad es.length es.length)) w:=by
      simp only [execOp,hop,e1,e2,Oc,TN,Sem.run_bind,r1,Result.andThen_ok,Sem.run_pure]
     rw [hrun];exact ⟨I,μ,hst,.clip _ _ _ r2,Mu.le_refl μ,Ext.refl _ _ _ _⟩
    ·cases h
   ·cases h
  ·cases h
 ·cases h
def eX (P:Program) (t:TypeId) (m:String) (f:FuncId):Bool:=match P.info? t with
 | some i=>match i.methods.find? (·.name == m) with
  | some r=>r.path.toList.isEmpty&&(match r.func with
   | some (f',pr)=>Nat.beq f' f && !pr
   | none=>false)&&(match P.underlying t with
   | some (.pointer _)=>false
   | some _=>true
   | none=>false)
  | none=>false
 | none=>false
theorem sG (h:eX P t m f=true) (n:Nat) (v:Value) (w:World):(method (n+1) t v m).run P w = .ok (f,v) w:=by
 unfold eX at h
 split at h
 ·rename_i i hi
  split at h
  ·rename_i r hr;simp only [Ap] at h;obtain ⟨⟨h1,h2⟩,h3⟩:=h
   split at h2
   ·rename_i f' pr hf;simp only [Ap,HN] at h2;have hff:=CD h2.1;subst hff;have hpr:=h2.2;subst hpr;have hp:r.path.toList=[]:=List.isEmpty_iff.1 h1
    split at h3
    ·cases h3
    ·rename_i u hne hu;have hrecv:∀wr,(receiverAt t (.val v) false wr).run P w = .ok v w:=λwr=>by
      unfold receiverAt;rw [Sem.run_bind,run_underlying hu,Result.andThen_ok];cases u <;> first | rfl | exact absurd rfl (hne _)
     simp only [method,typeInfo,Sem.run_bind,run_program,Result.andThen_ok,hi,hr,hp,follow,Sem.run_pure,hf,hrecv]
    ·cases h3
   ·cases h2
  ·cases h
 ·cases h
theorem SP {r:Operand} {args:List Operand} {x:V} (ho:o.op = .call { callee:=.invoke r m,args:=⟨args⟩,argTypes:=ts }) (ht:Eg env r=some (.imm (.iface T x))) (ha:I7 cx env args=some (ds,ob)) (hob:A4 ob) (hm:eX P T m f=true):Ff P o env f (.imm x::ds) cx:=by
 intro I μ a w hop hc;rw [ho] at hop;have hd:=GK (I:=I) (μ:=μ) (a:=a) hc ha hob λy hy=>hop y (by simp [Op.operands,Call.operands,hy]);have hf:=(hop r (by simp [Op.operands,Call.operands]) _ ht).immInv;generalize hv:a.eval r=v at hf;cases hf with
 | iface _ u _ hu =>
  refine ⟨#[u]++(args.map a.eval).toArray,?_,?_⟩
  ·simp only [Km];exact .mk (.imm _ _ hu) (by simpa using hd)
  ·have hs:∃n,P.types.size+Made.depth=n+1:=⟨P.types.size+(Made.depth-1),by unfold Made.depth;omega⟩
   obtain ⟨n,hs⟩:=hs;have hme:=sG hm n u w;have hx:((#[Value.iface T u]++(args.map a.eval).toArray).extract 1 (#[Value.iface T u]++(args.map a.eval).toArray).size)=(args.map a.eval).toArray:=by
    apply Array.ext';simp [qJ];exact Db (by simp)
   have h0:(#[Value.iface T u]++(args.map a.eval).toArray)[0]?=some (.iface T u):=by simp
   have e:(⟨args⟩:Array Operand).map a.eval=(args.map a.eval).toArray:=by simp
   simp only [execOp,ho,resolve,hv,e,Sem.run_bind,Sem.run_pure,Result.andThen_ok,invoke,h0,callMethod,hx,run_program,hs,hme]
structure zdh where
 T:TypeId
 m:String
 vs:List V
 g:Option (Bool×Bool)
 ob:List Prop
 dst:Option Nat
 todo:List DI
def oY (n:Nat) (env:Env) (todo:List DI):Option zdh :=
 match Bm todo ([],[]) with
 | some (all,o,todo')=>match o.op,Cq all env o with
  | .call { callee:=.invoke r m,args:=⟨args⟩,.. },some g=>match Eg env r,I7 (Am g) env args with
   | some (.imm (.iface T x)),some (ds,ob)=>match LR (.imm x::ds),BM n o.dst with
    | some vs,true=>match o.dst with
     | some t=>some ⟨T,m,vs,g,ob,some t,todo'⟩
     | none=>some ⟨T,m,vs,g,ob,none,todo'⟩
    | _,_=>none
   | _,_=>none
  | _,_=>none
 | none=>none
theorem VB (f:FuncId) {v:V} (h:oY n env todo=some ⟨T,m,vs,g,ob,dst,todo'⟩) (hm:eX P T m f=true) (hE:Am g->Hh P f vs v) (hob:A4 ob) (hk:G P n F Q todo' (BK dst (gD g (.imm v)) env) st ids):G P n F Q todo env st ids:=by
 unfold oY at h
 split at h
 ·rename_i all o todo1 h1;have hnd:∀cc,o.op = .call cc->∀c,o.op ≠ .defer c:=λcc h c h'=>by rw [h] at h';cases h'
  split at h
  ·rename_i r m' args ts g' ho hg
   split at h
   ·rename_i T' x ds ob' ht ha
    split at h
    ·rename_i vs' hv hd;have fin:T'=T/\m'=m/\vs'=vs/\g'=g/\ob'=ob/\o.dst=dst/\todo1=todo':=by
      split at h <;> (rename_i hdst;cases h;exact ⟨rfl,rfl,rfl,rfl,rfl,hdst,rfl⟩)
     obtain ⟨rfl,rfl,rfl,rfl,rfl,rfl,rfl⟩:=fin;exact BF (fr:=[]) (wr:=[]) h1 (PV hg (SP ho ht ha hob hm) hv hE) hd (hnd _ ho) hk
    ·cases h
   ·cases h
  ·cases h
 ·cases h
theorem I4:∀{ds:List D} {xs:List V},FJ ds=some xs->ds.length=xs.length
 | [],xs,h=>by cases h;rfl
 | d::r,xs,h=>by
  unfold FJ at h
  split at h
  ·rename_i e;cases e
  ·rename_i x r' e;cases e
   split at h
   ·rename_i ys hy;cases h;simp [I4 hy]
   ·cases h
  ·rename_i r' e;cases e
   split at h
   ·rename_i ys hy;cases h;simp [I4 hy]
   ·cases h
  ·cases h
theorem RJ (k:Nat) (xs:List V) (hk:lk st k=some (some (.cells t sz ds))) (hcl:FJ ds=some xs) (h:DGo P n F Q todo env ((k,some (.immb t sz xs))::st) ids):DGo P n F Q todo env st ids:=by
 refine EY λI μ a w hc=>?_;obtain ⟨p1,p2⟩:=hc.toStRep.retell (st1:=(k,some (.immb t sz xs))::st) (λi bb hlb=>by
  rcases AB.1 hlb with ⟨rfl,rfl⟩ | ⟨_,h2⟩
  ·refine ⟨_,hk,λgb hb=>?_⟩;obtain ⟨hs,b,us,e1,e2,e3,e4⟩:=hb;exact ⟨by rw [<- I4 hcl,hs],b,us,e1,e2,Fz hcl e3,e4⟩
  ·exact ⟨bb,h2,λ_ h=>h⟩)
 exact ⟨I,μ,env,_,ids,p1,hc.env,p2,.refl _ _,h⟩
structure PMa where
 e:TypeId
 z:List V
 sz:Nat
 bytes:Nat
 m:Int
 m2:Int
 dst:Option Nat
 todo:List DI
def zcn (tt:TT) (n:Nat) (env:Env) (todo:List DI):Option PMa :=
 match Bm todo ([],[]) with
 | some (_,o,todo')=>match o.guard,o.op with
  | none,.makeSlice t l c=>match lk tt t,Eg env l,Eg env c with
   | some { sh:=.sl e,.. },some (.imm (.int _ m)),some (.imm (.int _ m2))=>match lk tt e,BM n o.dst with
    | some ⟨_,_,sz,bytes,zero⟩,true=>match FJ zero,Nat.blt 0 sz&&Nat.beq zero.length sz with
     | some z,true=>some ⟨e,z,sz,bytes,m,m2,o.dst,todo'⟩
     | _,_=>none
    | _,_=>none
   | _,_,_=>none
  | _,_=>none
 | _=>none
theorem S7 (z:Array Value) (m:Nat) (hz:0<z.size):madeCells z (m*z.size)=(List.replicate m z.toList).flatten.toArray:=by
 apply Array.ext
 ·simp [madeCells]
 ·intro i h1 h2;have hi:i<m*z.size:=by simpa [madeCells] using h1
  have hlt:i % z.size<z.size:=Vq _ hz;simp only [madeCells,Array.getElem_map,Array.getElem_range,List.getElem_toArray];rw [getElem!_pos z (i % z.size) hlt];have key:∀(q j:Nat),j<q*z.size->(List.replicate q z.toList).flatten[j]?=z.toList[j % z.size]?:=by
   intro q
   induction q with
   | zero=>intro j hj;omega
   | succ q ih =>
    intro j hj;rw [List.replicate_succ,Ki];by_cases h:j<z.size
    ·rw [Pb (by simpa using h),Nat.mod_eq_of_lt h]
    ·have e:(q+1)*z.size=q*z.size+z.size:=QU _ _;rw [Pa (by simp;omega),ih _ (by simp;omega)];congr 1;simp only [TP];exact (Nat.mod_eq_sub_mod (by omega)).symm
  have:=key m i hi;have h3:(List.replicate m z.toList).flatten[i]?=some ((List.replicate m z.toList).flatten[i]'(by simpa using h2)):=Br _;rw [h3] at this;rw [Br (by simpa using hlt)] at this;simpa using (OZ this).symm
theorem bM (htt:TTok P tt) {c:PMa} (h:zcn tt n env todo=some c) (hm:c.m2=c.m) (h0:0<=c.m) (h1:(c.bytes:Int)*c.m<=281474976710656) (h2:c.m<=maxLen)
  (hk:G P n F Q c.todo (BK c.dst (.imm (.sl (List.replicate c.m.toNat c.z))) env) st ids):G P n F Q todo env st ids:=by
 unfold zcn at h
 split at h
 ·rename_i o todo' hn1
  split at h
  ·rename_i t l cc hg hop
   split at h
   ·rename_i e _ _ _ _ k1 m k2 m2 ht hl hc
    split at h
    ·rename_i sh ag sz bytes zero hi hd
     split at h
     ·rename_i z hz hsz0;cases h;simp only at hm h0 h1 h2 hk;have hm:=hm.symm;subst hm;refine BF (fr:=[]) (wr:=[]) (rd:=[]) hn1 ?_ hd (λc hc=>by rw [hop] at hc;cases hc) hk;intro I μ st1 ids1 a w hag hst hon;refine ⟨λ_=>?_,λhw=>by rw [AH hg] at hw;cases hw⟩;have hops:=Bj hon;rw [hop] at hops;have rl:=hops l (by simp [Op.operands]) _ hl;have rc:=hops cc (by simp [Op.operands]) _ hc;obtain ⟨inf,zv,i1,i2,i3,i4,i5,i6⟩:=(htt e _ hi).info;have hz1:=Fz hz (i5 I μ);simp only [Ap,HG] at hsz0;have hpos:0<sz:=hsz0.1;have hsz:inf.size=sz:=i2;have hcs:zv.cells.size=sz:=by
       have:=(i5 I μ).1;rw [<- CD hsz0.2];simpa using this
      have hby:inf.bytes=bytes:=i3;have hrun:(execOp a.eval o).run P w = .ok (.value (.slice (some ⟨w.heap.size,0,none⟩) m.toNat m.toNat)) (w.alloc (.cells (List.replicate m.toNat zv.cells.toList).flatten.toArray e)):=by
       have hs:=(htt t _ ht).sh;have hx:=run_make (P:=P) w t e inf zv hs i1 i4 k1 k2 m m h0 (Kl _) (by rw [hby];exact h1) (by simpa [maxLen] using h2);rw [hsz,<- hcs,S7 _ _ (by rw [hcs];exact hpos)] at hx;simp only [execOp,hop];generalize a.eval l=vl at rl;generalize a.eval cc=vc at rc;cases rl with
       | imm _ _ rl =>
       cases rc with
       | imm _ _ rc =>
       cases rl;cases rc;simp only [Sem.run_bind,hx,Result.andThen_ok,Sem.run_pure]
      rw [hrun];obtain ⟨I',s1,s2,s3⟩:=nL hst e sz (List.replicate m.toNat zv.cells.toList) (List.replicate m.toNat z) (by simp) (λc hc=>by rw [qO hc];simpa using hcs)
       (λc hc=>by rw [qO hc,<- hz1.1];simpa using hcs)
       (λk c x hc hx=>by
        rw [qS] at hc hx
        split at hc
        ·rename_i hq;rw [if_pos hq] at hx;cases hc;cases hx;exact ⟨hz1,i6⟩
        ·cases hc) m.toNat (by simp) (by simp [maxLen] at h2 ⊢;omega) []
      rw [JI,qN] at *;exact ⟨I',μ,s1,s2,Mu.le_refl μ,s3⟩
     ·cases h
    ·cases h
   ·cases h
  ·cases h
 ·cases h
def Wa:TT:=[
 (3,⟨.int .i64,false,1,8,[.imm (.int .i64 0)]⟩),
 (25,⟨.struct [(0,22),(1,3),(2,9),(3,23)],true,4,56,[.imm (.int .i64 0),.imm (.int .i64 0),.imm (.str []),.nils]⟩),
 (4,⟨.bool,false,1,1,[.imm (.bool false)]⟩),
 (23,⟨.sl 25,false,1,24,[.nils]⟩),
 (1,⟨.func,false,1,8,[.imm .nilfn]⟩),
 (9,⟨.str,false,1,16,[.imm (.str [])]⟩),
 (92,⟨.ptr 98,false,1,8,[.imm .nilp]⟩),
 (22,⟨.int .i64,false,1,8,[.imm (.int .i64 0)]⟩),
 (49,⟨.struct [(0,45),(1,3),(2,9),(3,46),(4,47)],true,5,80,[.imm (.int .i64 0),.imm (.int .i64 0),.imm (.str []),.nils,.nils]⟩),
 (118,⟨.sl 84,false,1,24,[.nils]⟩),
 (28,⟨.int .i64,false,1,8,[.imm (.int .i64 0)]⟩),
 (5,⟨.int .u8,false,1,1,[.imm (.int .u8 0)]⟩),
 (43,⟨.struct [(0,9),(1,40),(2,41)],true,3,64,[.imm (.str []),.nils,.nils]⟩),
 (120,⟨.map 3 4,false,1,8,[.imm .nilmap]⟩),
 (71,⟨.struct [(0,9),(1,9),(2,25),(6,25),(10,49)],true,15,224,[.imm (.str []),.imm (.str []),.imm (.int .i64 0),.imm (.int .i64 0),.imm (.str []),.nils,.imm (.int .i64 0),.imm (.int .i64 0),.imm (.str []),.nils,.imm (.int .i64 0),.imm (.int .i64 0),.imm (.str []),.nils,.nils]⟩),
 (145,⟨.iface,false,1,16,[.imm .niliface]⟩),
 (178,⟨.struct [(0,9),(1,23)],true,2,40,[.imm (.str []),.nils]⟩),
 (98,⟨.struct [(0,43),(3,96),(4,3),(5,23)],true,6,104,[.imm (.str []),.nils,.nils,.imm .nilmap,.imm (.int .i64 0),.nils]⟩),
 (41,⟨.sl 71,false,1,24,[.nils]⟩),
 (96,⟨.map 3 25,false,1,8,[.imm .nilmap]⟩),
 (20,⟨.iface,false,1,16,[.imm .niliface]⟩),
 (84,⟨.struct [(0,9),(1,25)],true,5,72,[.imm (.str []),.imm (.int .i64 0),.imm (.int .i64 0),.imm (.str []),.nils]⟩),
 (139,⟨.map 9 4,false,1,8,[.imm .nilmap]⟩),
 (45,⟨.int .i64,false,1,8,[.imm (.int .i64 0)]⟩),
 (182,⟨.struct [(0,180),(1,3),(2,9),(3,47)],true,4,56,[.imm (.int .i64 0),.imm (.int .i64 0),.imm (.str []),.nils]⟩),
 (26,⟨.func,false,1,8,[.imm .nilfn]⟩),
 (113,⟨.struct [(0,9),(1,111)],true,2,40,[.imm (.str []),.nils]⟩),
 (40,⟨.sl 113,false,1,24,[.nils]⟩),
 (119,⟨.ptr 123,false,1,8,[.imm .nilp]⟩),
 (64,⟨.int .i64,false,1,8,[.imm (.int .i64 0)]⟩),
 (167,⟨.struct [],true,0,0,[]⟩),
 (180,⟨.int .i64,false,1,8,[.imm (.int .i64 0)]⟩),
 (58,⟨.sl 45,false,1,24,[.nils]⟩),
 (138,⟨.map 45 4,false,1,8,[.imm .nilmap]⟩),
 (46,⟨.sl 49,false,1,24,[.nils]⟩),
 (121,⟨.map 3 3,false,1,8,[.imm .nilmap]⟩),
 (123,⟨.struct [(0,120),(1,121)],true,2,16,[.imm .nilmap,.imm .nilmap]⟩),
 (47,⟨.sl 182,false,1,24,[.nils]⟩),
 (148,⟨.struct [(0,3)],true,1,8,[.imm (.int .i64 0)]⟩),
 (149,⟨.struct [(0,3)],true,1,8,[.imm (.int .i64 0)]⟩),
 (171,⟨.struct [],true,0,0,[]⟩),
 (151,⟨.struct [],true,0,0,[]⟩),
 (202,⟨.arr 29 201,true,29,232,[.imm .nilfn,.imm .nilfn,.imm .nilfn,.imm .nilfn,.imm .nilfn,.imm .nilfn,.imm .nilfn,.imm .nilfn,.imm .nilfn,.imm .nilfn,.imm .nilfn,.imm .nilfn,.imm .nilfn,.imm .nilfn,.imm .nilfn,.imm .nilfn,.imm .nilfn,.imm .nilfn,.imm .nilfn,.imm .nilfn,.imm .nilfn,.imm .nilfn,.imm .nilfn,.imm .nilfn,.imm .nilfn,.imm .nilfn,.imm .nilfn,.imm .nilfn,.imm .nilfn]⟩),
 (111,⟨.sl 178,false,1,24,[.nils]⟩),
 (44,⟨.sl 84,false,1,24,[.nils]⟩),
 (126,⟨.func,false,1,8,[.imm .nilfn]⟩),
 (116,⟨.func,false,1,8,[.imm .nilfn]⟩),
 (174,⟨.ptr 3,false,1,8,[.imm .nilp]⟩),
 (110,⟨.func,false,1,8,[.imm .nilfn]⟩),
 (130,⟨.sl 3,false,1,24,[.nils]⟩),
 (125,⟨.func,false,1,8,[.imm .nilfn]⟩),
 (201,⟨.func,false,1,8,[.imm .nilfn]⟩),
 (258,⟨.func,false,1,8,[.imm .nilfn]⟩),
 (361,⟨.func,false,1,8,[.imm .nilfn]⟩),
 (362,⟨.ptr 5,false,1,8,[.imm .nilp]⟩)]
theorem ttY_ok:TTok prog Wa:=.of_eq (l:=[3,25,4,23,1,9,92,22,49,118,28,5,43,120,71,145,178,98,41,96,20,84,139,45,182,26,113,40,119,64,167,180,58,138,46,121,123,47,148,149,171,151,202,111,44,126,116,174,110,130,125,201,258,361,362]) (by kernel_rfl)
theorem yd (path:List Pt) (h:run Wa n 300 path todo env st ids [] = .at k env' st' ids' ob) (hob:A4 ob) (hd:Tq1 n F Q k env' st' ids'):Tq2 n F Q todo env st ids:=KC ttY_ok Fi 300 path h hob hd
theorem As (h:run Wa n 300 [] todo env st ids [] = .at k env' st' ids' ob) (hd:Tq1 n F Q k env' st' ids') (hob:A4 ob:=by simp):Tq2 n F Q todo env st ids:=yd [] h hob hd
theorem Sn (h:run Wa n 300 [] todo env st ids [] = .at k env' st' ids' ob) (hd:Tq1 n F Q k env' st' ids') (hob:A4 ob:=by simp [Am]):Tq2 n F Q todo env st ids:=yd [] h hob hd
theorem yg (path:List Pt) (h:run Wa n 300 path todo env st ids [] = .at k env' st' ids' ob) (hob:A4 ob) (hd:Tq1 n F Q k env' st' ids'):Tq1 n F Q todo env st ids:=JL ttY_ok Fi 300 path h hob hd
theorem Ai (h:run Wa n 300 [] todo env st ids [] = .at k env' st' ids' ob) (hd:Tq1 n F Q k env' st' ids') (hob:A4 ob:=by simp):Tq1 n F Q todo env st ids:=yg [] h hob hd
theorem BH (h:run Wa n 300 [] todo env st ids [] = .at k env' st' ids' ob) (hd:Tq1 n F Q k env' st' ids') (hob:A4 ob:=by simp [Am]):Tq1 n F Q todo env st ids:=yg [] h hob hd
theorem ydf (f:Nat) (h:run Wa n f [] todo env st ids [] = .at k env' st' ids' ob) (hob:A4 ob) (hd:Tq1 n F Q k env' st' ids'):Tq2 n F Q todo env st ids:=KC ttY_ok Fi f [] h hob hd
theorem ND (f:Nat) (h:run Wa n f [] todo env st ids [] = .at k env' st' ids' ob) (hob:A4 ob) (hd:Tq1 n F Q k env' st' ids'):Tq1 n F Q todo env st ids:=JL ttY_ok Fi f [] h hob hd
theorem yi {m:Int} {t:Nat} (h:FO Wa n env todo=some ⟨es,m,sz,e,g,ob,some t,todo'⟩) (hc:Am g->0<=m/\es[m.toNat]?=some c/\c.length=sz) (hob:A4 ob) (hk:Tq1 n F Q todo' ((t,gD g (.ip e c 0))::env) st ids):Tq1 n F Q todo env st ids:=Ht ttY_ok h hc hob hk
theorem Sl {t:Nat} (h:FO Wa n env todo=some ⟨es,(i:Int),sz,e,g,ob,some t,todo'⟩) (hg:es[i]?=some c) (hk:Tq1 n F Q todo' ((t,gD g (.ip e c 0))::env) st ids) (hl:c.length=sz:=by simp) (hob:A4 ob:=by simp):Tq1 n F Q todo env st ids:=yi h (λ_=>⟨by omega,by simpa using hg,hl⟩) hob hk
theorem yizc {t:Nat} (h:FO Wa n env todo=some ⟨es,(i:Int),sz,e,g,ob,some t,todo'⟩) (hg:es[i]?=some c) (hk:Tq1 n F Q todo' ((t,gD g (.ip e c 0))::env) st ids) (hl:c.length=sz:=by simp) (hob:A4 ob:=by simp [Am]):Tq1 n F Q todo env st ids:=yi h (λ_=>⟨by omega,by simpa using hg,hl⟩) hob hk
def G0:V:=.iface 167 (.agg [])
theorem FA:Tq3 117 [.bool true] (.tup []):=by
 exact Ad ttY_ok func117 rfl [1,2]<|yg [.a] rfl (by simp)<|BR ⟨_,AK⟩
theorem rJ:Tq4 117 [.imm (.bool false)] [] (.pan G0):=by
 exact Ad ttY_ok func117 rfl [1,2]<|yg [.a] rfl (by simp)<|IY rfl rfl rfl rfl
theorem IQ (b:Bool) (h:b=false):Tq4 117 [.imm (.bool b)] [] (.pan G0):=by subst h;exact rJ
theorem Xt (n:Int):Tq3 59 [.int .i64 n] (.agg (dTyc (Aw n))):=by
 exact Ad ttY_ok func59 rfl [1,2]<|Ai rfl<|Aa rfl rfl rfl
theorem BA (s:Int) (ps:List Ty):Tq3 258 [.int .i64 s,.sl (AA ps)] (.agg (dTyc (.mk s 0 [] ps))):=by
 exact Ad ttY_ok func258 rfl [1,2]<|Ai rfl<|Aa rfl rfl rfl
def iB (m:Md) (k:Int) (M P len:Nat):Blk:=.cells 98 6 [.imm (.str m.name),.imm (.sl (m.datas.map C7)),.imm (.sl (m.funs.map CG)),.mapr M,.imm (.int .i64 k),.own P len]
def Wt (T:List (Int×Ty)):Blk:=.map (T.map mI)
def CP (m:Md) (T:List (Int×Ty)) (k:Int) (S:List Ty):St:=[(1,some (iB m k 2 3 (AA S).length)),(2,some (Wt T)),(3,some (.row 25 4 (AA S)))]
theorem Ev (T:List (Int×Ty)):∀p∈T.map mI,Hs (.int .i64) p.1=true:=λp hp=>by
 obtain ⟨q,_,rfl⟩:=C2.1 hp;rfl
theorem Ie (I:Imm):RepV I (.agg #[.int .i64 0,.int .i64 0,.string ⟨#[]⟩,.slice none 0 0]) (.agg (dTyc Hi)):=.agg _ _ rfl (by decide) (λi c x h1 h2=>by
 match i,h1,h2 with
 | 0,h1,h2=>cases h1;cases h2;exact .int _ _
 | 1,h1,h2=>cases h1;cases h2;exact .int _ _
 | 2,h1,h2=>cases h1;cases h2;exact .str _ _ rfl
 | 3,h1,h2=>cases h1;cases h2;exact .slnil
 | i+4,h1,h2=>simp at h1)
theorem Ir (m:Md) (T:List (Int×Ty)) (k:Int) (S:List Ty) (hk:0<=k/\k<=1000000):Tq4 259 [.ref 1 0] (CP m T k S) (.ret (.imm (.agg (dTyc (Aw k)))) (CP m T (k+1) S)):=by
 have e1:IntKind.i64.wrap (k+1)=k+1:=GR (by omega) (by omega);have hH:Tq3 59 [.int .i64 (IntKind.i64.wrap (IntKind.i64.wrap (k+1)-1))] (.agg (dTyc (Aw k))):=by
  rw [e1,GR (by omega) (by omega),show k+1-1=k by omega];exact Xt k
 refine Ad ttY_ok func259 rfl [4,5]<|Ai rfl<|Af rfl hH<|Ai rfl<|Ah ⟨_,rfl,rfl,?_,AK⟩;show some (some (iB m (IntKind.i64.wrap (k+1)) 2 3 _))=_;rw [e1]
theorem Cp (m:Md) (T:List (Int×Ty)) (k:Int) (S:List Ty) {θ:Int->Ty} (hs:Sol (BG T) θ) (t u:Ty) (ht:Top (BG T) t u):Tq4 116 [.ref 1 0,.imm (.agg (dTyc t))] (CP m T k S) (.ret (.imm (.agg (dTyc u))) (CP m T k S)):=by
 obtain ⟨a1,a2,a3,a4⟩:=t;refine Ad ttY_ok func116 rfl [4,5,6,7]<|Ai rfl<|Ak (λx:Ty=>[(0,.ref 1 0),(3,.ref 4 0),(4,.ref 5 0)]) (λx=>(4,some (.immb 25 4 (dTyc x)))::(5,some (.cells 25 4 [.imm (.int .i64 0),.imm (.int .i64 0),.imm (.str []),.nils]))::CP m T k S) [6,7] (λx=>if Cg x=9/\BG T (num x)≠none then (num x).toNat+1 else 0)
  (λx=>Top (BG T) x u) (.mk a1 a2 a3 a4) ht AC B6 rfl λx hx ih=>?_
 clear ht;obtain ⟨f,n,y,ps⟩:=x;refine As rfl ?_;by_cases e9:f=9
 ·subst e9;refine Al rfl λh=>As rfl ?_;have hlk:=H2 n T;cases hsb:BG T n with
  | none =>
   rw [hsb] at hlk;have hu:Ty.mk 9 n y ps=u:=by
    cases hx with
    | stop _=>rfl
    | step _ h2 _=>rw [show num (Ty.mk 9 n y ps)=n from rfl,hsb] at h2;cases h2
   subst hu;exact CR ttY_ok 2 (zd:=.agg (dTyc Hi)) (dr:=.imm (.tup [.agg (dTyc Hi),.bool false])) rfl rfl rfl (Ev T) (by simp) rfl Ie (by simp only [FR,hlk];rfl)<|yg [] rfl (by simp;rfl)<|Al rfl λh=>As rfl<|Ah ⟨_,B6⟩
  | some v =>
   rw [hsb] at hlk;have hx3:Top (BG T) v u:=by
    cases hx with
    | stop h=>have:=h rfl;rw [show num (Ty.mk 9 n y ps)=n from rfl,hsb] at this;cases this
    | step _ h2 h3=>rw [show num (Ty.mk 9 n y ps)=n from rfl,hsb] at h2;cases h2;exact h3
   have hih:=ih v (by
    rw [if_pos (show Cg (Ty.mk 9 n y ps)=9/\BG T (num (Ty.mk 9 n y ps))≠none from ⟨rfl,by rw [show num (Ty.mk 9 n y ps)=n from rfl,hsb];simp⟩)]
    split
    ·rename_i h;have:=hs.down n v hsb h.1;simp only [num] at *;omega
    ·omega) hx3
   obtain ⟨v1,v2,v3,v4⟩:=v;exact CR ttY_ok 2 (zd:=.agg (dTyc Hi)) (dr:=.imm (.tup [.agg (dTyc (.mk v1 v2 v3 v4)),.bool true])) rfl rfl rfl (Ev T) (by simp) rfl Ie (by simp only [FR,hlk];rfl)<|yg [] rfl (by simp;rfl)<|Ag rfl λh=>As rfl<|Ac hih AC B6 rfl
 ·refine Ab rfl (λh=>by exfalso;simp at h;exact e9 h) (λh=>?_);have hu:Ty.mk f n y ps=u:=by
   cases hx with
   | stop _=>rfl
   | step h1 _ _=>exact absurd h1 e9
  subst hu;exact Az rfl<|As rfl<|Ah ⟨_,B6⟩
theorem za3 {β:Type} (a b:List (Nat×β)) (t:Nat):lk (a++b) t=(match lk a t with | some x=>some x | none=>lk b t):=by
 induction a with
 | nil=>rfl
 | cons p r ih=>simp only [De,lk];split <;> simp_all
theorem TTok.app {a b:TT} (ha:TTok P a) (hb:TTok P b):TTok P (a++b):=λt ti h=>by
 rw [za3] at h;cases e:lk a t with
 | some x=>rw [e] at h;cases h;exact ha t _ e
 | none=>rw [e] at h;exact hb t _ h
def mY:TT:=Wa++[
 (238,⟨.ptr 279,false,1,8,[.imm .nilp]⟩),
 (283,⟨.struct [(0,281),(1,9),(2,3),(3,3)],true,4,40,[.imm (.int .i64 0),.imm (.str []),.imm (.int .i64 0),.imm (.int .i64 0)]⟩),
 (275,⟨.sl 283,false,1,24,[.nils]⟩),
 (279,⟨.struct [(0,275),(1,3),(2,4)],true,3,40,[.nils,.imm (.int .i64 0),.imm (.bool false)]⟩),
 (281,⟨.int .i64,false,1,8,[.imm (.int .i64 0)]⟩),
 (73,⟨.sl 9,false,1,24,[.nils]⟩)]
theorem AG:TTok prog mY:=TTok.app ttY_ok (.of_eq (l:=[238,283,275,279,281,73]) (by kernel_rfl))
theorem jd (path:List Pt) (h:run mY n 300 path todo env st ids [] = .at k env' st' ids' ob) (hob:A4 ob) (hd:Tq1 n F Q k env' st' ids'):Tq2 n F Q todo env st ids:=KC AG Fi 300 path h hob hd
theorem A3 (h:run mY n 300 [] todo env st ids [] = .at k env' st' ids' ob) (hd:Tq1 n F Q k env' st' ids') (hob:A4 ob:=by simp):Tq2 n F Q todo env st ids:=jd [] h hob hd
theorem X0 (h:run mY n 300 [] todo env st ids [] = .at k env' st' ids' ob) (hd:Tq1 n F Q k env' st' ids') (hob:A4 ob:=by simp [Am]):Tq2 n F Q todo env st ids:=jd [] h hob hd
theorem jg (path:List Pt) (h:run mY n 300 path todo env st ids [] = .at k env' st' ids' ob) (hob:A4 ob) (hd:Tq1 n F Q k env' st' ids'):Tq1 n F Q todo env st ids:=JL AG Fi 300 path h hob hd
theorem At (h:run mY n 300 [] todo env st ids [] = .at k env' st' ids' ob) (hd:Tq1 n F Q k env' st' ids') (hob:A4 ob:=by simp):Tq1 n F Q todo env st ids:=jg [] h hob hd
theorem Ly (h:run mY n 300 [] todo env st ids [] = .at k env' st' ids' ob) (hd:Tq1 n F Q k env' st' ids') (hob:A4 ob:=by simp [Am]):Tq1 n F Q todo env st ids:=jg [] h hob hd
theorem jgf (f:Nat) (h:run mY n f [] todo env st ids [] = .at k env' st' ids' ob) (hob:A4 ob) (hd:Tq1 n F Q k env' st' ids'):Tq1 n F Q todo env st ids:=JL AG Fi f [] h hob hd
theorem ji {m:Int} {t:Nat} (h:FO mY n env todo=some ⟨es,m,sz,e,g,ob,some t,todo'⟩) (hc:Am g->0<=m/\es[m.toNat]?=some c/\c.length=sz) (hob:A4 ob) (hk:Tq1 n F Q todo' ((t,gD g (.ip e c 0))::env) st ids):Tq1 n F Q todo env st ids:=Ht AG h hc hob hk
theorem zV {t:Nat} (h:FO mY n env todo=some ⟨es,(i:Int),sz,e,g,ob,some t,todo'⟩) (hg:es[i]?=some c) (hk:Tq1 n F Q todo' ((t,gD g (.ip e c 0))::env) st ids) (hl:c.length=sz:=by simp) (hob:A4 ob:=by simp):Tq1 n F Q todo env st ids:=ji h (λ_=>⟨by omega,by simpa using hg,hl⟩) hob hk
theorem zbb {t:Nat} (h:FO mY n env todo=some ⟨es,(i:Int),sz,e,g,ob,some t,todo'⟩) (hg:es[i]?=some c) (hk:Tq1 n F Q todo' ((t,gD g (.ip e c 0))::env) st ids) (hl:c.length=sz:=by simp) (hob:A4 ob:=by simp [Am]):Tq1 n F Q todo env st ids:=ji h (λ_=>⟨by omega,by simpa using hg,hl⟩) hob hk
theorem TR (c:UInt8):Tq3 309 [.int .u8 c.toNat] (.bool (S8 c)):=by
 refine Ad AG func309 rfl [1,2]<|Ly rfl<|Aa rfl rfl (congrArg _ ?_);simp [S8,UInt8.le_iff_toNat_le];norm_cast
theorem kT (c:UInt8):Tq3 311 [.int .u8 c.toNat] (.bool (sK c)):=by
 refine Ad AG func311 rfl [1,2]<|Ly rfl<|Aa rfl rfl (congrArg _ ?_);simp [sK,UInt8.le_iff_toNat_le];norm_cast
theorem Yd (c:UInt8):Tq3 312 [.int .u8 c.toNat] (.bool (Nt c)):=by
 refine Ad AG func312 rfl [1,2]<|Ly rfl<|Aa rfl rfl (congrArg _ ?_);simp [Nt,UInt8.le_iff_toNat_le];norm_cast
theorem iI {a:Nat} {d:Bool} {c:UInt8} (h:s[a]?=some c):Hn s a d=if (if d=true then Nt c else S8 c)=true then Hn s (a+1) d+1 else 0:=by
 unfold Hn;rw [Av h,Sr];cases d <;> rfl
theorem nS {a:Nat} {d:Bool} (h:s.length<=a):Hn s a d=0:=by
 unfold Hn;rw [Bo h];rfl
theorem dJ (s:Str) (a:Nat) (d:Bool):Hn s a d<=s.length-a:=by
 have h:∀(p:UInt8->Bool) (l:Str),Sr p l<=l.length:=λp l=>by
  induction l with
  | nil=>simp [Sr]
  | cons c r ih=>simp only [Sr];split <;> simp <;> omega
 have:=h (if d=true then Nt else S8) (s.drop a);rw [JJ] at this;exact this
theorem UK (s:Str) (a:Nat) (d:Bool) (ha:a<=s.length) (hs:s.length<=1000000):Tq3 310 [.str s,.int .i64 a,.bool d] (.int .i64 (Hn s a d)):=by
 refine Ad AG func310 rfl [1,2]<|At rfl<|Ak (λn:Nat=>[(7,.imm (.int .i64 n)),(0,.imm (.str s)),(1,.imm (.int .i64 a)),(2,.imm (.bool d))]) (λ_=>[]) [1,2] (λn=>s.length-n) (λn=>a<=n/\n<=s.length/\Hn s a d=n-a+Hn s n d) a
  ⟨BQ _,ha,by omega⟩ Cb trivial rfl λn hn ih=>?_
 obtain ⟨hn1,hn2,hn3⟩:=hn;have hD:=Yd (s[n]?.getD 0);have hL:=TR (s[n]?.getD 0);by_cases hlt:n<s.length
 ·obtain ⟨c,hc⟩:=Ao hlt;have hcn:s[n]?.getD 0=c:=by rw [hc];rfl
  have hgo:∀o,(if d=true then Nt c else S8 c)=o->Hn s a d=if o=true then (n+1-a)+Hn s (n+1) d else n-a:=λo h=>by
   rw [hn3,iI hc,h];split <;> omega
  rw [<- hcn] at hgo;refine jd [] rfl (by simp [Am];omega) ?_;cases d with
  | true =>
   refine AI rfl hD<|Ly rfl<|Aj (v:=.bool false) rfl (λhc=>by simp [Am] at hc) (by simp [Am])<|jg [] rfl (by simp [Am];grind) ?_;have:=hgo _ rfl;simp only [if_true] at this;generalize Nt (s[n]?.getD 0)=o at *;cases o with
   | true =>
    refine Ab rfl (λh=>?_) (λh=>by exfalso;simp [hlt] at h);exact A3 rfl<|Ac (ih (n+1) (by omega) ⟨by omega,by omega,by simpa using this⟩) ⟨AU,AC⟩ trivial rfl
   | false =>
    exact Ag rfl λh=>Az rfl<|A3 rfl<|Ah ⟨_,rfl,tV (congrArg _ (by rw [this];simp;rw [GR (by omega) (by omega)];omega)),trivial⟩
  | false =>
   refine Aj (v:=.bool false) rfl (λhc=>by simp [Am] at hc) (by simp [Am])<|Ly rfl<|AI rfl hL<|Ly rfl ?_;have:=hgo _ rfl;simp only [DK,if_false] at this;generalize S8 (s[n]?.getD 0)=o at *;cases o with
   | true =>
    refine Ab rfl (λh=>?_) (λh=>by exfalso;simp [hlt] at h);exact A3 rfl<|Ac (ih (n+1) (by omega) ⟨by omega,by omega,by simpa using this⟩) ⟨AU,AC⟩ trivial rfl
   | false =>
    exact Ag rfl λh=>Az rfl<|A3 rfl<|Ah ⟨_,rfl,tV (congrArg _ (by rw [this];simp;rw [GR (by omega) (by omega)];omega)),trivial⟩
 ·rw [nS (a:=n) (by omega)] at hn3;exact jd [] rfl (by simp [Am];omega)<|Aj (v:=.bool false) rfl (λhc=>by simp [Am] at hc;omega) (by simp [Am])<|jg [] rfl (by simp [Am];omega)<|Aj (v:=.bool false) rfl (λhc=>by simp [Am] at hc;omega) (by simp [Am])<|jg [] rfl (by simp [Am];omega)<|Ag rfl λh=>Az rfl<|A3 rfl<|Ah ⟨_,rfl,tV (congrArg _ (by rw [hn3,GR (by omega) (by omega)];omega)),trivial⟩
theorem nM:Tq3 320 [] (.sl (Dv signsL)):=by
 exact Ad AG func320 rfl [1]<|At rfl<|Aa rfl rfl rfl
theorem YP {t:Str} {l:List Str} (h:l[i]?=some x):L3 t (l.drop i)=if x.length<=t.length/\t.take x.length=x then x else L3 t (l.drop (i+1)):=by rw [Av h,L3]
theorem vN (s:Str) (a:Nat) (ha:a<=s.length) (hs:s.length<=1000000):Tq3 315 [.str s,.int .i64 a] (.str (Tq s a)):=by
 have hS:=nM;have hlen:∀x∈signsL,x.length<=2:=by decide
 have hll:signsL.length<=18:=by decide
 unfold Tq;generalize signsL=l at *;refine Ad AG func315 rfl [1]<|At rfl<|Af rfl hS<|At rfl<|Ak (λi:Nat=>[(6,.imm (.int .i64 i)),(5,.imm (.sl (Dv l))),(0,.imm (.str s)),(1,.imm (.int .i64 a))]) (λ_=>[]) [1] (λi=>l.length-i) (λi=>i<=l.length/\L3 (s.drop a) l=L3 (s.drop a) (l.drop i)) 0
  ⟨AJ _,rfl⟩ Cb trivial rfl λi hi ih=>?_
 obtain ⟨hi1,hi2⟩:=hi;refine A3 rfl<|Ab rfl (λh=>?_) (λh=>?_)
 ·have hlt:i<l.length:=by simp at h;omega
  obtain ⟨x,hx⟩:=Ao hlt;have hg:=HW hx;have hxl:=hlen x (AF hx);rw [YP hx] at hi2;refine A3 rfl<|zV rfl hg<|Ly rfl<|zbb rfl hg ?_;have w1:IntKind.i64.wrap ((s.length:Int)-a)=s.length-a:=GR (by omega) (by omega);have w2:IntKind.i64.wrap ((a:Int)+x.length)=a+x.length:=GR (by omega) (by omega);refine jg [] rfl (by simp [Am,w1,w2];omega)<|zbb rfl hg<|jg [] rfl (by simp [Am];kernel_rfl) ?_;have hc:(x.length<=(s.drop a).length/\(s.drop a).take x.length=x)↔((x.length:Int)<=s.length-a/\(s.drop a).take (a+x.length-a)=x):=by
   rw [JJ,qP];refine and_congr ?_ Iff.rfl;omega
  have ha2:((a:Int)+(x.length:Int)).toNat=a+x.length:=by omega
  refine Ab rfl (λh=>?_) (λh=>?_)
  ·rw [w1,w2,ha2] at h;rw [if_pos (hc.2 (by simpa [and_comm] using h))] at hi2;exact A3 rfl<|zV rfl hg<|At rfl<|Ah ⟨_,rfl,tV (congrArg _ hi2.symm),trivial⟩
  ·rw [w1,w2,ha2] at h;rw [if_neg (λh'=>by have:=hc.1 h';simp [this] at h;exact h h'.2)] at hi2;exact A3 rfl<|Ac (ih (i+1) (by omega) ⟨by omega,hi2⟩) ⟨AU,AC⟩ trivial rfl
 ·have hlt:l.length<=i:=by simp at h;omega
  rw [Bo hlt] at hi2;exact Az rfl<|A3 rfl<|Ah ⟨_,rfl,tV (congrArg _ hi2.symm),trivial⟩
theorem Ye {c:UInt8} (h:Nt c=true):48<=c.toNat/\c.toNat<=57:=by
 simp only [Nt,Ap,decide_eq_true_eq,UInt8.le_iff_toNat_le] at h;exact h
theorem X2 (s:Str) (a:Nat) (ha:a<s.length) (hs:s.length<=1000000) (hd:Nt (s.getD a 0)=true) (hr:Hn s a true=1):Tq3 313 [.str s,.int .i64 a] (.int .i64 1):=by
 have hR:=UK s a true (by omega) hs;obtain ⟨h1,h2⟩:=Ye hd;have hg:s[a]?.getD 0=s.getD a 0:=by simp
 rw [<- hg] at h1 h2;rw [hr] at hR;refine Ad AG func313 rfl [1]<|jg [] rfl (by simp;omega)<|Ab rfl (λh=>by exfalso;simp at h;omega) (λh=>?_);exact A3 rfl<|Af rfl hR<|jg [] rfl (by simp [Am];omega)<|Ag rfl λh=>A3 rfl<|Ah ⟨_,rfl,tV (by simp;rfl),trivial⟩
theorem Zu (c:UInt8) (hd:Nt c=true):Tq3 314 [.str [c]] (.int .i64 ((c.toNat:Int)-48)):=by
 obtain ⟨h1,h2⟩:=Ye hd;have hw:IntKind.i64.wrap (IntKind.i64.wrap 0+IntKind.i64.wrap (IntKind.u8.wrap ((c.toNat:Int)-48)))=(c.toNat:Int)-48:=by
  obtain ⟨k,hk,e⟩:∃k:Nat,k<10/\c.toNat=48+k:=⟨c.toNat-48,by omega,by omega⟩
  rw [e];clear e h1 h2 hd;revert k;decide
 refine Ad AG func314 rfl [1]<|At rfl<|Ab rfl (λh=>by exfalso;simp at h;omega) (λh=>?_);refine A3 rfl<|Ak (λi:Nat=>[(4,.imm (.int .i64 i)),(3,.imm (.int .i64 (if i=0 then 0 else (c.toNat:Int)-48))),(0,.imm (.str [c]))]) (λ_=>[]) [1] (λi=>1-i) (λi=>i<=1) 0
  (AJ _) AC trivial rfl λi hi ih=>?_
 rcases Nat.lt_or_ge i 1 with hlt | hge
 ·obtain rfl:i=0:=by omega
  exact A3 rfl<|Al rfl λh=>A3 rfl<|Ac (ih 1 (by omega) (BQ _)) ⟨BB rfl,BB (by simp;exact hw),A9⟩ trivial rfl
 ·obtain rfl:i=1:=by omega
  exact A3 rfl<|Ag rfl λh=>Az rfl<|A3 rfl<|Ah ⟨_,rfl,tV (by simp),trivial⟩
theorem YO {a:Nat} {c:UInt8} (h:s[a]?=some c):Fg s a=if RX c=true then Fg s (a+1) else a:=by
 unfold Fg;rw [Av h,Sr]
 split <;> omega
theorem iC {a:Nat} (h:s.length<=a):Fg s a=a:=by
 unfold Fg;rw [Bo h];rfl
theorem dK (p:UInt8->Bool):∀l:Str,Sr p l<=l.length
 | []=>BQ _
 | c::r=>by have:=dK p r;simp only [Sr];split <;> simp <;> omega
theorem Wu (s:Str) (a:Nat) (h:a<=s.length):a<=Fg s a/\Fg s a<=s.length:=by
 unfold Fg;have:=dK RX (s.drop a);rw [JJ] at this;omega
theorem Y1 (c:UInt8):(bif (bif (c.toNat:Int) == 32 then true else (c.toNat:Int) == 9) then true else (c.toNat:Int) == 10)=RX c:=by
 have e:∀k:UInt8,(decide (c=k))=((c.toNat:Int) == (k.toNat:Int)):=λk=>by
  rw [Fq,decide_eq_true_iff,beq_iff_eq,Vh,UInt8.toNat_inj]
 unfold RX;rw [e 32,e 9,e 10];show _=((c.toNat:Int) == 32||(c.toNat:Int) == 9||(c.toNat:Int) == 10);cases ((c.toNat:Int) == 32) <;> cases ((c.toNat:Int) == 9) <;> rfl
theorem Q2 (s:Str) (a:Nat) (ha:a<=s.length) (hs:s.length<=1000000) (hc:s.getD (Fg s a) 0≠47):Tq3 299 [.str s,.int .i64 a] (.int .i64 (Fg s a)):=by
 refine Ad AG func299 rfl [1]<|At rfl<|Ak (λn:Nat=>[(1,.imm (.int .i64 n)),(0,.imm (.str s))]) (λ_=>[]) [1] (λn=>s.length-n) (λn=>n<=s.length/\Fg s a=Fg s n) a
  ⟨ha,rfl⟩ AK trivial rfl λn hn ih=>?_
 obtain ⟨hn1,hn2⟩:=hn;refine A3 rfl<|Ab rfl (λh=>?_) (λh=>?_)
 ·have hlt:n<s.length:=by simp at h;omega
  obtain ⟨c,hcn⟩:=Ao hlt;have hcg:s.getD n 0=c:=by simp [hcn]
  have hst:=YO hcn;refine jd [] rfl (by simp [Am];omega)<|Ab rfl (λh=>?_) (λh=>?_)
  ·have h:(bif (bif ((s.getD n 0).toNat:Int) == 32 then true else ((s.getD n 0).toNat:Int) == 9) then true else ((s.getD n 0).toNat:Int) == 10)=true:=h;rw [Y1,hcg] at h;rw [if_pos h] at hst;exact A3 rfl<|Ac (ih (n+1) (by omega) ⟨by omega,by rw [hn2,hst]⟩) ⟨AU,A9⟩ trivial rfl
  ·have h:(bif (bif ((s.getD n 0).toNat:Int) == 32 then true else ((s.getD n 0).toNat:Int) == 9) then true else ((s.getD n 0).toNat:Int) == 10)=false:=h;rw [Y1,hcg] at h;rw [if_neg (by rw [h];simp)] at hst;rw [hn2,hst,hcg] at hc;have w1:IntKind.i64.wrap ((s.length:Int)-n)=s.length-n:=GR (by omega) (by omega);have w2:IntKind.i64.wrap ((n:Int)+2)=n+2:=GR (by omega) (by omega);refine jd [] rfl (by simp [Am,w1,w2];omega)<|Ab rfl (λh=>?_) (λh=>?_)
   ·exfalso;rw [w1,w2,show ((n:Int)+2).toNat-(n:Int).toNat=2 by omega,show (n:Int).toNat=n from rfl,Av hcn] at h;have h2:((c::s.drop (n+1)).take 2 == [47,47])=true:=by
     cases e:(decide ((s.length:Int)-n>=2)) with
     | false=>rw [e] at h;cases h
     | true=>rw [e] at h;exact h
    simp at h2;exact hc h2.1
   ·exact A3 rfl<|Ah ⟨_,rfl,tV (by rw [hn2,hst]),trivial⟩
 ·have hge:s.length<=n:=by simp at h;omega
  rw [iC hge] at hn2;exact Az rfl<|A3 rfl<|Ah ⟨_,rfl,tV (by rw [hn2]),trivial⟩
theorem wH (s:Str) (a:Nat) (t:Tok) (ha:a<s.length) (hs:s.length<=1000000) (h:TJ s a=some t):Tq3 300 [.str s,.int .i64 a] (.agg (KD t)):=by
 have hL:=TR (s.getD a 0);have hG:=kT (s.getD a 0);have hD:=Yd (s.getD a 0);unfold TJ at h;by_cases c1:S8 (s.getD a 0)=true
 ·rw [if_pos c1] at h;rw [c1] at hL;have hR:=UK s a false (by omega) hs;have hle:=dJ s a false;have hK:=uR (Uz s a (Hn s a false));generalize Hn s a false=r at *;have w1:IntKind.i64.wrap ((a:Int)+r)=a+r:=GR (by omega) (by omega);have hx:(s.drop (a:Int).toNat).take ((IntKind.i64.wrap ((a:Int)+r)).toNat-(a:Int).toNat)=Uz s a r:=by
   rw [w1,show ((a:Int)+r).toNat-(a:Int).toNat=r by omega];rfl
  have hcl:(Uz s a r).length=r:=by rw [Uz,HH,JJ];omega
  refine Ad AG func300 rfl [1,2,3]<|jg [] rfl (by simp;omega)<|Af rfl hL<|At rfl<|Al rfl λh=>A3 rfl<|Af rfl hR<|jg [] rfl (by simp [w1];omega) ?_;rw [hx];generalize Uz s a r=x at *;refine Af rfl hK<|At rfl ?_;generalize Rn x=o at *;cases o with
  | true =>
   rw [if_pos rfl] at h;cases h;exact Al rfl λh=>A3 rfl<|Aa rfl rfl rfl
  | false =>
   rw [if_neg (by simp)] at h;cases h;refine Ag rfl λh=>A3 rfl<|Ab rfl (λh=>?_) (λh=>?_)
   ·rw [if_pos (by simp at h;omega)];exact A3 rfl<|Aa rfl rfl rfl
   ·rw [if_neg (by simp at h;omega)];exact A3 rfl<|Aa rfl rfl rfl
 have c1:S8 (s.getD a 0)=false:=by simpa using c1
 rw [if_neg (by rw [c1];simp)] at h;rw [c1] at hL;by_cases c2:sK (s.getD a 0)=true
 ·rw [if_pos c2] at h;rw [c2] at hG;have hR:=UK s (a+1) false (by omega) hs;have hle:=dJ s (a+1) false;have hw0:IntKind.i64.wrap ((a:Int)+1)=((a+1:Nat):Int):=by rw [GR (by omega) (by omega)];omega
  generalize Hn s (a+1) false=r at *;have w1:IntKind.i64.wrap (((a+1:Nat):Int)+r)=a+(1+r):=by rw [GR (by omega) (by omega)];omega
  have hx:(s.drop (a:Int).toNat).take ((IntKind.i64.wrap (((a+1:Nat):Int)+r)).toNat-(a:Int).toNat)=Uz s a (1+r):=by
   rw [w1,show ((a:Int)+(1+r)).toNat-(a:Int).toNat=1+r by omega];rfl
  have hcl:(Uz s a (1+r)).length=1+r:=by rw [Uz,HH,JJ];omega
  cases h;refine Ad AG func300 rfl [1,2,3]<|jg [] rfl (by simp;omega)<|Af rfl hL<|At rfl<|Ag rfl λh=>jd [] rfl (by simp;omega)<|Af rfl hG<|At rfl<|Al rfl λh=>A3 rfl ?_;rw [hw0];refine Af rfl hR<|jg [] rfl (by rw [w1];simp;omega) ?_;rw [hx];generalize Uz s a (1+r)=x at *;refine Ab rfl (λh=>?_) (λh=>?_)
  ·rw [if_pos (by simp at h;omega)];exact A3 rfl<|Aa rfl rfl rfl
  ·rw [if_neg (by simp at h;omega)];exact A3 rfl<|Aa rfl rfl rfl
 have c2:sK (s.getD a 0)=false:=by simpa using c2
 rw [if_neg (by rw [c2];simp)] at h;rw [c2] at hG;by_cases c3:Nt (s.getD a 0)=true
 ·rw [if_pos c3] at h;rw [c3] at hD;by_cases c4:Hn s a true=1
  ·rw [if_pos c4] at h;cases h;have hI:=X2 s a ha hs c3 c4;have hN:=Zu (s.getD a 0) c3;have w1:IntKind.i64.wrap ((a:Int)+1)=a+1:=GR (by omega) (by omega);have hx:(s.drop (a:Int).toNat).take ((IntKind.i64.wrap ((a:Int)+1)).toNat-(a:Int).toNat)=Uz s a 1:=by
    rw [w1,show ((a:Int)+1).toNat-(a:Int).toNat=1 by omega];rfl
   have hc1:Uz s a 1=[s.getD a 0]:=by
    obtain ⟨c,hc⟩:=Ao ha;rw [Uz,Av hc];simp [hc]
   refine Ad AG func300 rfl [1,2,3]<|jg [] rfl (by simp;omega)<|Af rfl hL<|At rfl<|Ag rfl λh=>jd [] rfl (by simp;omega)<|Af rfl hG<|At rfl<|Ag rfl λh=>jd [] rfl (by simp;omega)<|Af rfl hD<|Ly rfl<|Al rfl λh=>A3 rfl<|Af rfl hI<|At rfl<|Al rfl λh=>jd [] rfl (by simp [w1];omega) ?_;rw [hx,hc1];exact Af rfl hN<|jg [] rfl (by simp;kernel_rfl)<|Aa rfl rfl rfl
  ·rw [if_neg c4] at h;cases h
 have c3:Nt (s.getD a 0)=false:=by simpa using c3
 rw [if_neg (by rw [c3];simp)] at h;rw [c3] at hD;by_cases c5:s.getD a 0=126
 ·rw [if_pos c5] at h;cases h
 ·rw [if_neg c5] at h;cases h;have hS:=vN s a (by omega) hs;have hne:((s.getD a 0).toNat:Int)≠126:=λe=>c5 (UInt8.toNat_inj.1 (Vh.1 (e:_=((126:UInt8).toNat:Int))));generalize Tq s a=x at *;refine Ad AG func300 rfl [1,2,3]<|jg [] rfl (by simp;omega)<|Af rfl hL<|At rfl<|Ag rfl λh=>jd [] rfl (by simp;omega)<|Af rfl hG<|At rfl<|Ag rfl λh=>jd [] rfl (by simp;omega)<|Af rfl hD<|jg [] rfl (by simp [Am];omega)<|Ab rfl (λh=>by exfalso;simp at h hne;omega) (λh=>?_);refine A3 rfl<|Af rfl hS<|At rfl<|Ab rfl (λh=>?_) (λh=>?_)
  ·rw [if_neg (by simpa using h)];exact A3 rfl<|Aa rfl rfl rfl
  ·rw [if_pos (by simpa using h)];exact A3 rfl<|Aa rfl rfl rfl
@[simp] theorem dTok_length (t:Tok):(KD t).length=4:=rfl
theorem zbo (l:List Tok):∀c∈l.map KD,c.length=4:=λc hc=>by obtain ⟨x,_,rfl⟩:=C2.1 hc;rfl
theorem jE {a:Nat} {t:Tok} (ha:a<s.length) (h:TJ s a=some t) (hk:t.kind≠0):a+t.text.length<=s.length:=by
 have hc:∀n,(Uz s a n).length<=s.length-a:=λn=>by rw [Uz,HH,JJ];omega
 have hF:∀(u:Str) (l:List Str),(L3 u l).length<=u.length:=λu l=>by
  induction l with
  | nil=>simp [L3]
  | cons x r ih=>rw [L3];split <;> omega
 have hS:=hF (s.drop a) signsL;rw [JJ] at hS;have hS:(Tq s a).length<=s.length-a:=hS;unfold TJ at h
 split at h
 ·cases h;have:=hc (Hn s a false);simp only;omega
 ·split at h
  ·cases h;have:=hc (1+Hn s (a+1) false);simp only;omega
  ·split at h
   ·split at h
    ·cases h;have:=hc 1;simp only;omega
    ·cases h
   ·split at h
    ·cases h
    ·cases h;simp only;omega
theorem yP (s:Str) (l:List Tok) (hs:s.length<=1000000) (f:Nat) (hf:f<=1000000) (h:ID f s (Fg s 0)=some l):Tq3 277 [.str s] (.tup [.sl (l.map KD),.int .i64 s.length]):=by
 have key:∀f a l,ID f s a=some l->s.getD a 0≠47:=λf a l h=>by
  cases f with
  | zero=>cases h
  | succ f =>
   rw [ID] at h;by_cases e:s.length<=a
   ·simp [JK e]
   ·rw [if_neg e] at h;intro e2;rw [if_pos e2] at h;cases h
 have hK0:=Q2 s 0 (AJ _) hs (key _ _ _ h);have hle:=Wu s 0 (AJ _);refine Ad AG func277 rfl [1,2,3,4]<|At rfl<|Af rfl hK0<|At rfl<|K9 (e:=283) (sz:=4) 4 1 (by decide) rfl ?_;generalize Fg s 0=a0 at *;clear hK0;refine Ak (λz:Nat×Nat×List Tok=>[(5,.imm (.int .i64 z.2.1)),(4,.own 1 (z.2.2.map KD).length),(0,.imm (.str s))]) (λz=>[(1,some (.row 283 4 (z.2.2.map KD)))]) [2,3,4] (λz=>z.1)
  (λz=>z.2.1<=s.length/\z.2.2.length+z.1=f/\∃r,ID z.1 s z.2.1=some r/\z.2.2++r=l) (f,a0,[]) ⟨hle.2,by simp,l,h,rfl⟩
  AC A9 rfl λz hz ih=>?_
 obtain ⟨f,a,acc⟩:=z;obtain ⟨h1,h2,r,h3,h4⟩:=hz;simp only at h1 h2 h3 h4 ih;refine A3 rfl<|Ab rfl (λh=>?_) (λh=>?_)
 ·have hlt:a<s.length:=by simp at h;omega
  cases f with
  | zero=>cases h3
  | succ f =>
   rw [ID,if_neg (by omega)] at h3;by_cases e1:s.getD a 0=47
   ·rw [if_pos e1] at h3;cases h3
   rw [if_neg e1] at h3;cases hn:TJ s a with
   | none=>rw [hn] at h3;cases h3
   | some t =>
    rw [hn] at h3;simp only at h3;by_cases e2:t.kind=0
    ·rw [if_pos e2] at h3;cases h3
    rw [if_neg e2] at h3;cases ht:ID f s (Fg s (a+t.text.length)) with
    | none=>rw [ht] at h3;cases h3
    | some r2 =>
     rw [ht] at h3;cases h3;have hN:=wH s a t hlt hs hn;have n2:=jE hlt hn e2;have hS:=Q2 s (a+t.text.length) n2 hs (key _ _ _ ht);have hsl:=Wu s (a+t.text.length) n2;obtain ⟨t1,t2,t3,t4⟩:=t;simp only at e2 n2 hS hsl ht;generalize Fg s (a+t2.length)=a2 at *;refine A3 rfl<|Af rfl hN<|At rfl<|Ab rfl (λh=>by exfalso;simp at h;exact e2 h) (λh=>?_);refine A3 rfl<|B7 AG rfl ⟨by simp,by simp [maxLen];omega,by simp;omega,trivial⟩ ?_;have w:IntKind.i64.wrap ((a:Int)+t2.length)=((a+t2.length:Nat):Int):=by rw [GR (by omega) (by omega)];omega
     refine At rfl ?_;rw [w];refine Af rfl hS<|At rfl<|Bt 1 3 rfl ?_;have et:(acc++[(⟨t1,t2,t3,t4⟩:Tok)]).map KD=acc.map KD++[KD ⟨t1,t2,t3,t4⟩]:=by simp
     exact Ac (ih (f,a2,acc++[⟨t1,t2,t3,t4⟩]) (CC _) ⟨hsl.2,by simp only [B5,Da,Cz];omega,r2,ht,by rw [CF];exact h4⟩) ⟨rfl,by rw [et];rfl,A9⟩ ⟨by rw [et];rfl,trivial⟩ rfl
 ·have hge:s.length<=a:=by simp at h;omega
  have hr:r=[]:=by
   cases f with
   | zero=>cases h3
   | succ f=>rw [ID,if_pos hge] at h3;cases h3;rfl
  subst hr;rw [JI] at h4;subst h4;exact Az rfl<|BC 1 rfl<|A3 rfl<|Aa rfl rfl rfl
theorem lY (s:Str) (l:List Tok) (hs:s.length<=8000) (f:Nat) (hf:f<=1000000) (h:ID f s (Fg s 0)=some l):Tq3 236 [.str s] (.tup [.sl (l.map KD),.int .i64 0]):=by
 have hL:=yP s l (by omega) f hf h;refine Ad AG func236 rfl [1,2]<|At rfl<|Ab rfl (λh=>by exfalso;simp at h;omega) (λh=>?_);exact A3 rfl<|Af rfl hL<|At rfl<|Ag rfl λh=>A3 rfl<|Aa rfl rfl rfl
def oL (l:List Tok) (a:Nat):Blk:=.immb 279 3 [.sl (l.map KD),.int .i64 a,.bool false]
def GW (l:List Tok) (a:Nat):St:=[(1,some (oL l a))]
theorem dO (s:Str) (l:List Tok) (hs:s.length<=8000) (f:Nat) (hf:f<=1000000) (h:ID f s (Fg s 0)=some l):Tq4 170 [.imm (.str s)] [] (.ret (.tup [.ref 1 0,.imm (.int .i64 0)]) (GW l 0)):=by
 have hT:=lY s l hs f hf h;exact Ad AG func170 rfl [1,2]<|At rfl<|Af rfl hT<|At rfl<|Ah ⟨_,AC⟩
theorem Jb {t:Tok} (h:l[i]?=some t):(l.map KD)[i]?=some (KD t):=by simp [h]
theorem M5 (l:List Tok) (a:Nat) (x:Str):Tq4 279 [.ref 1 0,.imm (.str x)] (GW l a) (.ret (.imm (.bool (AZ l a x))) (GW l a)):=by
 refine Ad AG func279 rfl [2,3]<|jg [] rfl (by simp [Am];kernel_rfl) ?_;unfold AZ;cases h:l[a]? with
 | none =>
  have hge:l.length<=a:=ZC.1 h;refine Ab rfl (λh=>?_) (λh=>by exfalso;simp at h;omega);exact A3 rfl<|Ah ⟨_,AC⟩
 | some t =>
  have hlt:=(AL.1 h).1;have hg:=Jb h;refine Ab rfl (λh=>by exfalso;simp at h;omega) (λh=>?_);obtain ⟨t1,t2,t3,t4⟩:=t;refine A3 rfl<|zV rfl hg<|jg [] rfl (by simp;kernel_rfl)<|Ah ⟨_,rfl,?_,A9⟩;show My (Ii [D.imm (V.bool (bif (bif t1 == 5 then true else t1 == 3) then t2 == x else false))]) (D.imm (V.bool ((t1 == 5||t1 == 3)&&t2 == x)));cases (t1 == 5) <;> cases (t1 == 3) <;> rfl
theorem CY {a:Nat} (hl:l.length<=10000) (h:AZ l a x=true):Tq4 239 [.ref 1 0,.imm (.str x)] (GW l a) (.ret (.imm (.bool true)) (GW l (a+1))):=by
 have hS:=M5 l a x;rw [h] at hS;have hlt:a<l.length:=by
  cases e:l[a]? with
  | none=>rw [AZ,e] at h;cases h
  | some t=>exact (AL.1 e).1
 have w:IntKind.i64.wrap ((a:Int)+1)=((a+1:Nat):Int):=by rw [GR (by omega) (by omega)];omega
 refine Ad AG func239 rfl [2,3]<|At rfl<|Ae rfl hS Ax rfl<|At rfl<|Al rfl λh=>A3 rfl ?_;rw [w];exact Ah ⟨_,AC⟩
theorem Bi {a:Nat} (h:AZ l a x=false):Tq4 239 [.ref 1 0,.imm (.str x)] (GW l a) (.ret (.imm (.bool false)) (GW l a)):=by
 have hS:=M5 l a x;rw [h] at hS;exact Ad AG func239 rfl [2,3]<|At rfl<|Ae rfl hS Ax rfl<|At rfl<|Ag rfl λh=>A3 rfl<|Ah ⟨_,AC⟩
theorem B8 {a:Nat} (hl:l.length<=10000) (h:AZ l a x=true):Tq4 237 [.ref 1 0,.imm (.str x)] (GW l a) (.ret (.imm (.tup [])) (GW l (a+1))):=by
 have hS:=CY hl h;exact Ad AG func237 rfl [2,3]<|At rfl<|Ae rfl hS Ax rfl<|At rfl<|Ag rfl λh=>A3 rfl<|BR ⟨[],AC⟩
theorem Kv (l:List Tok) (a:Nat) (k:Int):Tq4 278 [.ref 1 0,.imm (.int .i64 k)] (GW l a) (.ret (.imm (.bool (Mh l a k))) (GW l a)):=by
 refine Ad AG func278 rfl [2,3]<|Ly rfl ?_;unfold Mh;cases h:l[a]? with
 | none =>
  have hge:l.length<=a:=ZC.1 h;refine ji rfl (c:=[.int .i64 0,.str [],.int .i64 0,.int .i64 0]) (λhc=>by exfalso;simp [Am] at hc;omega) (by simp [Am])<|jg [] rfl (by simp [Am];kernel_rfl)<|Ah ⟨_,rfl,?_,A9⟩;rw [show decide ((a:Int)<((l.map KD).length:Int))=false from decide_eq_false (by simp;omega)];rfl
 | some t =>
  have hlt:=(AL.1 h).1;have hg:=Jb h;obtain ⟨t1,t2,t3,t4⟩:=t;refine zbb rfl hg<|jg [] rfl (by simp [Am];kernel_rfl)<|Ah ⟨_,rfl,?_,A9⟩;rw [show decide ((a:Int)<((l.map KD).length:Int))=true from decide_eq_true (by simp;omega)];rfl
theorem D7 {a:Nat} {k:Int} (hl:l.length<=10000) {t:Tok} (ht:l[a]?=some t) (hk:t.kind=k):Tq4 238 [.ref 1 0,.imm (.int .i64 k)] (GW l a) (.ret (.imm (.agg (KD t))) (GW l (a+1))):=by
 have hI:=Kv l a k;rw [Mh,ht] at hI;simp only [hk,beq_self_eq_true] at hI;have hlt:=(AL.1 ht).1;have hg:=Jb ht;have w:IntKind.i64.wrap ((a:Int)+1)=((a+1:Nat):Int):=by rw [GR (by omega) (by omega)];omega
 obtain ⟨t1,t2,t3,t4⟩:=t;refine Ad AG func238 rfl [2,3,4]<|At rfl<|Ae rfl hI Ax rfl<|At rfl<|Ag rfl λh=>A3 rfl<|zV rfl hg<|jg [] rfl (by simp;kernel_rfl) ?_;rw [w];exact Ah ⟨_,AC⟩
theorem ST (l:List Tok):Tq4 172 [.ref 1 0] (GW l l.length) (.ret (.imm (.bool true)) (GW l l.length)):=by
 refine Ad AG func172 rfl [2,3]<|jg [] rfl (by simp [Am];kernel_rfl)<|Ah ⟨_,rfl,?_,A9⟩;rw [show ((l.length:Int) == ((l.map KD).length:Int))=true by simp];rfl
theorem Ee {a:Nat} {k:Int} (h:Mh l a k=true):∃t,l[a]?=some t/\t.kind=k/\CJ l a=t.text/\nAt l a=t.n:=by
 unfold Mh at h;unfold CJ nAt;cases e:l[a]? with
 | none=>rw [e] at h;cases h
 | some t=>rw [e] at h;exact ⟨t,rfl,by simpa using h,rfl,rfl⟩
theorem AX {a:Nat} {r:Option α} {v:α} (h:after l a s r=some v):AZ l a s=true/\r=some v:=by
 unfold after at h
 split at h
 ·exact ⟨by assumption,h⟩
 ·cases h
theorem DO {a:Nat} {s:List Str} {r:Option α} {v:α} (h:PD l a s r=some v):(∀x∈s,AZ l a x=false)/\r=some v:=by
 unfold PD at h
 split at h
 ·cases h
 ·rename_i h';refine ⟨λx hx=>?_,h⟩;cases e:AZ l a x with
  | false=>rfl
  | true=>exact absurd (DJ.2 ⟨x,hx,e⟩) h'
theorem U3 (s:Str):Tq3 324 [.str s] (.tup [.int .i64 (Fc s).1,.int .i64 (Fc s).2]):=by
 unfold Fc;refine Ad AG func324 rfl [1]<|At rfl ?_;by_cases c16:s=[99,101,108,108]
 ·rw [if_pos c16];subst c16;exact Al rfl λh=>A3 rfl<|Aa rfl rfl rfl
 rw [if_neg c16];refine Ab rfl (λh=>by exfalso;simp at h;exact c16 h) (λh=>?_);refine A3 rfl ?_;by_cases c17:s=[103,101,116]
 ·rw [if_pos c17];subst c17;exact Al rfl λh=>A3 rfl<|Aa rfl rfl rfl
 rw [if_neg c17];refine Ab rfl (λh=>by exfalso;simp at h;exact c17 h) (λh=>?_);refine A3 rfl ?_;by_cases c18:s=[112,117,116]
 ·rw [if_pos c18];subst c18;exact Al rfl λh=>A3 rfl<|Aa rfl rfl rfl
 rw [if_neg c18];refine Ab rfl (λh=>by exfalso;simp at h;exact c18 h) (λh=>?_);refine A3 rfl ?_;by_cases c19:s=[115,112,97,119,110]
 ·rw [if_pos c19];subst c19;exact Al rfl λh=>A3 rfl<|Aa rfl rfl rfl
 rw [if_neg c19];refine Ab rfl (λh=>by exfalso;simp at h;exact c19 h) (λh=>?_);refine A3 rfl ?_;by_cases c20:s=[106,111,105,110]
 ·rw [if_pos c20];subst c20;exact Al rfl λh=>A3 rfl<|Aa rfl rfl rfl
 rw [if_neg c20];refine Ab rfl (λh=>by exfalso;simp at h;exact c20 h) (λh=>?_);refine A3 rfl ?_;by_cases c21:s=[99,104,97,110]
 ·rw [if_pos c21];subst c21;exact Al rfl λh=>A3 rfl<|Aa rfl rfl rfl
 rw [if_neg c21];refine Ab rfl (λh=>by exfalso;simp at h;exact c21 h) (λh=>?_);refine A3 rfl ?_;by_cases c22:s=[115,101,110,100]
 ·rw [if_pos c22];subst c22;exact Al rfl λh=>A3 rfl<|Aa rfl rfl rfl
 rw [if_neg c22];refine Ab rfl (λh=>by exfalso;simp at h;exact c22 h) (λh=>?_);refine A3 rfl ?_;by_cases c23:s=[116,97,107,101]
 ·rw [if_pos c23];subst c23;exact Al rfl λh=>A3 rfl<|Aa rfl rfl rfl
 rw [if_neg c23];refine Ab rfl (λh=>by exfalso;simp at h;exact c23 h) (λh=>?_);refine A3 rfl ?_;by_cases c24:s=[111,117,116]
 ·rw [if_pos c24];subst c24;exact Al rfl λh=>A3 rfl<|Aa rfl rfl rfl
 rw [if_neg c24];refine Ab rfl (λh=>by exfalso;simp at h;exact c24 h) (λh=>?_);refine A3 rfl ?_;by_cases c25:s=[105,110,112,117,116]
 ·rw [if_pos c25];subst c25;exact Al rfl λh=>A3 rfl<|Aa rfl rfl rfl
 rw [if_neg c25];refine Ab rfl (λh=>by exfalso;simp at h;exact c25 h) (λh=>?_);refine A3 rfl ?_;by_cases c26:s=[114,101,115,101,116]
 ·rw [if_pos c26];subst c26;exact Al rfl λh=>A3 rfl<|Aa rfl rfl rfl
 rw [if_neg c26];refine Ab rfl (λh=>by exfalso;simp at h;exact c26 h) (λh=>?_);refine A3 rfl ?_;by_cases c28:s=[112,97,117,115,101]
 ·rw [if_pos c28];subst c28;exact Al rfl λh=>A3 rfl<|Aa rfl rfl rfl
 rw [if_neg c28];refine Ab rfl (λh=>by exfalso;simp at h;exact c28 h) (λh=>?_);exact A3 rfl<|Aa rfl rfl rfl
theorem lW (l:List Tok) (a:Nat):Tq4 318 [.ref 1 0] (GW l a) (.ret (.imm (.bool (N5 l a))) (GW l a)):=by
 refine Ad AG func318 rfl [2,3]<|jg [] rfl (by simp [Am];kernel_rfl) ?_;unfold N5;cases h:l[a]? with
 | none =>
  have hge:l.length<=a:=ZC.1 h;refine Ab rfl (λh=>?_) (λh=>by exfalso;simp at h;omega);exact A3 rfl<|Ah ⟨_,AC⟩
 | some t =>
  have hlt:=(AL.1 h).1;have hg:=Jb h;obtain ⟨t1,t2,t3,t4⟩:=t;have hC:=U3 t2;simp only;generalize Fc t2=c at *;obtain ⟨c1,c2⟩:=c;refine Ab rfl (λh=>by exfalso;simp at h;omega) (λh=>?_);refine A3 rfl<|zV rfl hg<|jg [] rfl (by simp;kernel_rfl) ?_;by_cases h3:t1=3
  ·subst h3;rw [if_pos rfl];refine Al rfl λh=>A3 rfl<|Af rfl hC<|Ly rfl<|Ah ⟨_,rfl,?_,A9⟩;show My (Ii [D.imm (V.bool (bif (bif (bif !(c1 == 0) then true else t2 == yV) then true else t2 == XS) then true else t2 == jH))]) _;rw [show decide (c1≠0) = !(c1 == 0) by by_cases e:c1=0 <;> simp [e]];cases (c1 == 0) <;> cases (t2 == yV) <;> cases (t2 == XS) <;> cases (t2 == jH) <;> rfl
  ·rw [if_neg h3];refine Ab rfl (λh=>by exfalso;simp at h;exact h3 h) (λh=>?_);refine X0 rfl<|Ah ⟨_,rfl,?_,A9⟩;show My (Ii [D.imm (V.bool (bif !(t1 == 5) then true else t2 == [40]))]) _;rw [show decide (t1≠5) = !(t1 == 5) by by_cases e:t1=5 <;> simp [e]];cases (t1 == 5) <;> cases (t2 == [40]) <;> rfl
theorem YI (op:Int) (a b:Tm):Tq3 244 [.int .i64 op,.agg (dTmc a),.agg (dTmc b)] (.agg (dTmc (vG op a b))):=by
 obtain ⟨a1,a2,a3,a4,a5⟩:=a;obtain ⟨b1,b2,b3,b4,b5⟩:=b;exact Ad AG func244 rfl [1,2,3]<|At rfl<|Aa rfl rfl rfl
theorem iD {a:Nat} {t:Ty} (hl:l.length<=10000) (h:MH l a=some (t,b)):Tq4 301 [.ref 1 0] (GW l a) (.ret (.imm (.agg (dTyc t))) (GW l b))/\AZ l b [45,62]=false:=by
 unfold MH at h;obtain ⟨hA,h⟩:=DO h;have hA:=hA _ (AP.2 rfl);by_cases c0:AZ l a [105,110,116]=true
 ·rw [if_pos c0] at h;cases h;refine ⟨?_,hA⟩;exact Ad AG func301 rfl [2,3]<|At rfl<|Ae rfl (CY hl c0) Ax rfl<|At rfl<|Al rfl λh=>A3 rfl<|Ah ⟨_,AC⟩
 rw [if_neg c0] at h;have c0:AZ l a [105,110,116]=false:=by simpa using c0
 by_cases c1:AZ l a [98,111,111,108]=true
 ·rw [if_pos c1] at h;cases h;refine ⟨?_,hA⟩;exact Ad AG func301 rfl [2,3]<|At rfl<|Ae rfl (Bi c0) Ax rfl<|At rfl<|Ag rfl λh=>A3 rfl<|Ae rfl (CY hl c1) Ax rfl<|At rfl<|Al rfl λh=>A3 rfl<|Ah ⟨_,AC⟩
 rw [if_neg c1] at h;have c1:AZ l a [98,111,111,108]=false:=by simpa using c1
 by_cases c2:AZ l a [117,110,105,116]=true
 ·rw [if_pos c2] at h;cases h;refine ⟨?_,hA⟩;exact Ad AG func301 rfl [2,3]<|At rfl<|Ae rfl (Bi c0) Ax rfl<|At rfl<|Ag rfl λh=>A3 rfl<|Ae rfl (Bi c1) Ax rfl<|At rfl<|Ag rfl λh=>A3 rfl<|Ae rfl (CY hl c2) Ax rfl<|At rfl<|Al rfl λh=>A3 rfl<|Ah ⟨_,AC⟩
 rw [if_neg c2] at h;have c2:AZ l a [117,110,105,116]=false:=by simpa using c2
 obtain ⟨hB,h⟩:=DO h
 split at h
 case isFalse=>cases h
 rename_i hk;obtain ⟨u,hu,hk,ht,_⟩:=Ee hk;rw [ht] at h;cases h;refine ⟨?_,hA⟩;obtain ⟨u1,u2,u3,u4⟩:=u
 exact Ad AG func301 rfl [2,3]<|At rfl<|Ae rfl (Bi c0) Ax rfl<|At rfl<|Ag rfl λh=>A3 rfl<|Ae rfl (Bi c1) Ax rfl<|At rfl<|Ag rfl λh=>A3 rfl<|Ae rfl (Bi c2) Ax rfl<|At rfl<|Ag rfl λh=>A3 rfl<|Ae rfl (Bi (hB [99,101,108,108] (by simp))) Ax rfl<|At rfl<|Ag rfl λh=>A3 rfl<|Ae rfl (Bi (hB [99,104,97,110] (by simp))) Ax rfl<|At rfl<|Ag rfl λh=>A3 rfl<|Ae rfl (Bi (hB [116,97,115,107] (by simp))) Ax rfl<|At rfl<|Ag rfl λh=>A3 rfl<|Ae rfl (Bi (hB [63] (by simp))) Ax rfl<|At rfl<|Ag rfl λh=>A3 rfl<|Ae rfl (Bi (hB [40] (by simp))) Ax rfl<|At rfl<|Ag rfl λh=>A3 rfl<|Ae rfl (D7 hl hu hk) Ax rfl<|At rfl<|Ah ⟨_,AC⟩
theorem Rm {a:Nat} {t:Ty} (hl:l.length<=10000) (h:MH l a=some (t,b)):Tq4 280 [.ref 1 0] (GW l a) (.ret (.imm (.agg (dTyc t))) (GW l b)):=by
 obtain ⟨hS,hn⟩:=iD hl h;obtain ⟨t1,t2,t3,t4⟩:=t;exact Ad AG func280 rfl [2,3]<|At rfl<|Ae rfl (hS) Ax rfl<|At rfl<|Ae rfl (Bi hn) Ax rfl<|At rfl<|Ag rfl λh=>A3 rfl<|Ah ⟨_,AC⟩
def zb0 (l:List Tok) (f:Nat):Prop:=∀(a:Nat) (t:Ty) (b:Nat),Zp l f a=some (t,b)->Tq4 325 [.ref 1 0] (GW l a) (.ret (.imm (.agg (dTyc t))) (GW l b))
def ptB (x:Str) (n:Nat):Blk:=.cells 182 4 [.imm (.int .i64 6),.imm (.int .i64 0),.imm (.str x),.own 4 n]
theorem jA (hl:l.length<=10000) (n:Nat) (hn:n<=1000000) (IH:∀f,f<n->zb0 l f):zb0 l n:=by
 intro a t b h;cases n with
 | zero=>simp [Zp] at h
 | succ f =>
 rw [Zp] at h;obtain ⟨h0,h⟩:=DO h;have h0:=h0 _ (AP.2 rfl);by_cases c1:Mh l a 1=true
 ·rw [if_pos c1] at h;obtain ⟨u,hu,hk,ht,_⟩:=Ee c1;have hI:=Kv l a 1;rw [c1] at hI;rw [ht] at h;cases h;obtain ⟨u1,u2,u3,u4⟩:=u;exact Ad AG func325 rfl [2,3]<|At rfl<|Ae rfl (Bi h0) Ax rfl<|At rfl<|Ag rfl λh=>A3 rfl<|Ae rfl (hI) Ax rfl<|At rfl<|Al rfl λh=>A3 rfl<|Ae rfl (D7 hl hu hk) Ax rfl<|At rfl<|Ah ⟨_,AC⟩
 rw [if_neg c1] at h;have hI1:=Kv l a 1;rw [show Mh l a 1=false by simpa using c1] at hI1
 split at h
 case isTrue=>cases h
 rename_i c4;have hI4:=Kv l a 4;rw [show Mh l a 4=false by simpa using c4] at hI4;obtain ⟨hB,h⟩:=DO h
 split at h
 case isFalse=>cases h
 rename_i hk;obtain ⟨u,hu,hk,ht,_⟩:=Ee hk;rw [ht] at h;by_cases c5:AZ l (a+1) [40]=true
 case neg =>
  rw [if_neg c5] at h;have c5:AZ l (a+1) [40]=false:=by simpa using c5
  cases h;obtain ⟨u1,u2,u3,u4⟩:=u;exact Ad AG func325 rfl [2,3]<|At rfl<|Ae rfl (Bi h0) Ax rfl<|At rfl<|Ag rfl λh=>A3 rfl<|Ae rfl (hI1) Ax rfl<|At rfl<|Ag rfl λh=>A3 rfl<|Ae rfl (hI4) Ax rfl<|At rfl<|Ag rfl λh=>A3 rfl<|Ae rfl (Bi (hB yV (by simp))) Ax rfl<|At rfl<|Ag rfl λh=>A3 rfl<|Ae rfl (Bi (hB XS (by simp))) Ax rfl<|At rfl<|Ag rfl λh=>A3 rfl<|Ae rfl (Bi (hB [40] (by simp))) Ax rfl<|At rfl<|Ag rfl λh=>A3 rfl<|Ae rfl (D7 hl hu hk) Ax rfl<|At rfl<|Ae rfl (Bi c5) Ax rfl<|At rfl<|Ag rfl λh=>A3 rfl<|Ah ⟨_,AC⟩
 rw [if_pos c5] at h;cases hP:NR l f [] (a+2) with
 | none=>rw [hP] at h;cases h
 | some r =>
 rw [hP] at h;cases h;obtain ⟨qs,b⟩:=r;obtain ⟨u1,u2,u3,u4⟩:=u;simp only
 refine Ad AG func325 rfl [2,3,4,5,6,7]<|At rfl<|Ae rfl (Bi h0) Ax rfl<|At rfl<|Ag rfl λh=>A3 rfl<|Ae rfl (hI1) Ax rfl<|At rfl<|Ag rfl λh=>A3 rfl<|Ae rfl (hI4) Ax rfl<|At rfl<|Ag rfl λh=>A3 rfl<|Ae rfl (Bi (hB yV (by simp))) Ax rfl<|At rfl<|Ag rfl λh=>A3 rfl<|Ae rfl (Bi (hB XS (by simp))) Ax rfl<|At rfl<|Ag rfl λh=>A3 rfl<|Ae rfl (Bi (hB [40] (by simp))) Ax rfl<|At rfl<|Ag rfl λh=>A3 rfl<|Ae rfl (D7 hl hu hk) Ax rfl<|At rfl<|Ae rfl (CY hl c5) Ax rfl<|At rfl<|Al rfl λh=>A3 rfl<|Ef 3 4 (e:=182) (sz:=4) [.imm (.int .i64 6),.imm (.int .i64 0),.imm (.str u2),.own 4 0] (by decide) rfl ⟨.inl rfl,.inl rfl,.inl rfl,.inr ⟨rfl,rfl⟩,trivial⟩<|Ak (λz:Bool×Nat×List Ty×Nat=>[(4,.imm (.bool z.1)),(0,.ref 1 0),(3,.ref 3 0),(2,.ref 2 0)]) (λz=>[(1,some (oL l z.2.2.2)),(2,some (.cells 182 4 [.imm (.int .i64 0),.imm (.int .i64 0),.imm (.str []),.nils])),(3,some (ptB u2 (AA z.2.2.1).length)),(4,some (.row 182 4 (AA z.2.2.1)))]) [5,6,7] (λz=>z.2.1)
  (λz=>z.2.1<=f/\z.2.2.1.length+z.2.1<=f/\if z.1=true then NR l z.2.1 z.2.2.1 z.2.2.2=some (qs,b) else qs=z.2.2.1/\AZ l z.2.2.2 [41]=true/\b=z.2.2.2+1) (true,f,[],a+2)
  ⟨BQ _,by simp,by rw [if_pos rfl];exact hP⟩ Cb Cb rfl λz hz ih=>?_
 obtain ⟨more,f1,ps,a1⟩:=z;obtain ⟨z1,z3,z2⟩:=hz;simp only at z1 z2 z3 ih;refine X0 rfl ?_;cases more with
 | false =>
  simp only [DK,if_false] at z2;obtain ⟨rfl,z2,rfl⟩:=z2;exact Ag rfl λh=>Az rfl<|BC 4 rfl<|A3 rfl<|Ae rfl (B8 hl z2) Ax rfl<|At rfl<|Ah ⟨_,AC⟩
 | true =>
  simp only [if_true] at z2;cases f1 with
  | zero=>simp [NR] at z2
  | succ f1 =>
  rw [NR] at z2;cases hq:Zp l f1 a1 with
  | none=>rw [hq] at z2;cases z2
  | some r =>
  rw [hq] at z2;obtain ⟨q,a2⟩:=r;simp only [Dy] at z2;have hQ:=IH f1 (by omega) a1 q a2 hq;have hap:AA (ps++[q])=AA ps++[dTyc q]:=by rw [GM];rfl
  obtain ⟨q1,q2,q3,q4⟩:=q;refine Al rfl λh=>A3 rfl<|Ae rfl (hQ) Ax rfl<|At rfl<|B7 AG rfl ⟨by simp,by simp [maxLen];omega,by simp;omega,trivial⟩<|At rfl ?_;by_cases c6:AZ l a2 [44]=true
  ·rw [if_pos c6] at z2;exact Ae rfl (CY hl c6) Ax rfl<|At rfl<|Bt 4 6 rfl<|Ac (ih (true,f1,ps++[.mk q1 q2 q3 q4],a2+1) (CC _) ⟨by simp only;omega,by simp only [B5,Da,Cz];omega,by rw [if_pos rfl];exact z2⟩) Cb ⟨rfl,rfl,by rw [hap];rfl,by rw [hap];rfl,trivial⟩ rfl
  ·rw [if_neg c6] at z2;have c6:AZ l a2 [44]=false:=by simpa using c6
   obtain ⟨z4,z2⟩:=AX z2;cases z2;exact Ae rfl (Bi c6) Ax rfl<|At rfl<|Bt 4 6 rfl<|Ac (ih (false,f1,ps++[.mk q1 q2 q3 q4],a2) (CC _) ⟨by simp only;omega,by simp only [B5,Da,Cz];omega,by rw [if_neg (by simp)];exact ⟨rfl,z4,rfl⟩⟩) Cb ⟨rfl,rfl,by rw [hap];rfl,by rw [hap];rfl,trivial⟩ rfl
theorem pF (hl:l.length<=10000):∀n,n<=1000000->zb0 l n:=λn=>by
 induction n using Nat.strongRecOn with
 | ind n IH=>exact λhn=>jA hl n hn λf hf=>IH f hf (by omega)
def zab (l:List Tok) (f:Nat):Prop:=∀(a:Nat) (t:Tm) (b:Nat),Dm l f a=some (t,b)->Tq4 173 [.ref 1 0] (GW l a) (.ret (.imm (.agg (dTmc t))) (GW l b))
def zde (l:List Tok) (f:Nat):Prop:=∀(a:Nat) (t:Tm) (b:Nat),Zo l f a=some (t,b)->Tq4 243 [.ref 1 0] (GW l a) (.ret (.imm (.agg (dTmc t))) (GW l b))
def zdm (l:List Tok) (f:Nat):Prop:=∀(a:Nat) (t:Tm) (b:Nat),Zq l f a=some (t,b)->Tq4 302 [.ref 1 0] (GW l a) (.ret (.imm (.agg (dTmc t))) (GW l b))
def zad (l:List Tok) (f:Nat):Prop:=∀(a:Nat) (t:Tm) (b:Nat),QH l f a=some (t,b)->Tq4 317 [.ref 1 0] (GW l a) (.ret (.imm (.agg (dTmc t))) (GW l b))
def uU (l:List Tok) (f:Nat):Prop:=∀(a:Nat) (t:Tm) (b:Nat),UY l f a=some (t,b)->Tq4 322 [.ref 1 0] (GW l a) (.ret (.imm (.agg (dTmc t))) (GW l b))
def uI (l:List Tok) (f:Nat):Prop:=∀(n:Int) (a:Nat) (ks:List Tm) (b:Nat),LW l f n a=some (ks,b)->Tq4 321 [.ref 1 0,.imm (.int .i64 n)] (GW l a) (.ret (.imm (.sl (EQ ks))) (GW l b))
structure YB (l:List Tok) (f:Nat):Prop where
 term:zab l f
 sum:zde l f
 app:zdm l f
 atom:zad l f
 cases_:uU l f
 terms:uI l f
theorem mX (hl:l.length<=10000) {op:Int} {a:Nat} {t:Tm} (hk:Mh l a 1=true) (hs:AZ l (a+1) [61,62]=true) (hT:Tq4 173 [.ref 1 0] (GW l (a+2)) (.ret (.imm (.agg (dTmc t))) (GW l b))) :
  Tq4 242 [.ref 1 0,.imm (.int .i64 op)] (GW l a) (.ret (.imm (.agg (dTmc (.mk op 0 (CJ l a) [t] [])))) (GW l b)):=by
 obtain ⟨u,hu,hk,ht,_⟩:=Ee hk;rw [ht];obtain ⟨u1,u2,u3,u4⟩:=u;obtain ⟨t1,t2,t3,t4,t5⟩:=t;exact Ad AG func242 rfl [2,3,4]<|At rfl<|Ae rfl (D7 hl hu hk) Ax rfl<|At rfl<|Ae rfl (B8 hl hs) Ax rfl<|At rfl<|Ae rfl (hT) Ax rfl<|At rfl<|Ah ⟨_,AC⟩
theorem gZ (hl:l.length<=10000) (n:Nat) (IH:∀f,f<n->YB l f):zab l n:=by
 intro a t b h;cases n with
 | zero=>simp [Dm] at h
 | succ f =>
 have ihT:=(IH f (CC f)).term;have ihS:=(IH f (CC f)).sum;clear IH;rw [Dm] at h;by_cases c1:AZ l a [102,117,110]=true
 ·rw [if_pos c1] at h
  split at h
  case isFalse=>cases h
  rename_i k1;obtain ⟨s1,h⟩:=AX h;cases hr:Dm l f (a+3) with
  | none=>rw [hr] at h;cases h
  | some r =>
  rw [hr] at h;cases h;have hU:=mX hl (op:=5) k1 s1 (ihT _ r.1 r.2 hr);obtain ⟨⟨r1,r2,r3,r4,r5⟩,rp⟩:=r;exact Ad AG func173 rfl [2,3]<|At rfl<|Ae rfl (CY hl c1) Ax rfl<|At rfl<|Al rfl λh=>A3 rfl<|Ae rfl (hU) Ax rfl<|At rfl<|Ah ⟨_,AC⟩
 rw [if_neg c1] at h;have c1:AZ l a [102,117,110]=false:=by simpa using c1
 obtain ⟨c2,h⟩:=DO h;have c2:=c2 _ (AP.2 rfl);by_cases c3:AZ l a [108,101,116]=true
 ·rw [if_pos c3] at h
  split at h
  case isFalse=>cases h
  rename_i k1;obtain ⟨s1,h⟩:=AX h;obtain ⟨w,hw,hk,hx,_⟩:=Ee k1;rw [hx] at h;cases hr:Dm l f (a+3) with
  | none=>rw [hr] at h;cases h
  | some r =>
  rw [hr] at h;simp only [Dy] at h;obtain ⟨s2,h⟩:=AX h;cases hu:Dm l f (r.2+1) with
  | none=>rw [hu] at h;cases h
  | some u =>
  rw [hu] at h;cases h;have hT1:=ihT _ r.1 r.2 hr;have hT2:=ihT _ u.1 u.2 hu;obtain ⟨w1,w2,w3,w4⟩:=w;obtain ⟨⟨r1,r2,r3,r4,r5⟩,rp⟩:=r;obtain ⟨⟨u1,u2,u3,u4,u5⟩,up⟩:=u;simp only at s2 hT1 hT2 ⊢;exact Ad AG func173 rfl [2,3,4,5]<|At rfl<|Ae rfl (Bi c1) Ax rfl<|At rfl<|Ag rfl λh=>A3 rfl<|Ae rfl (Bi c2) Ax rfl<|At rfl<|Ag rfl λh=>A3 rfl<|Ae rfl (CY hl c3) Ax rfl<|At rfl<|Al rfl λh=>A3 rfl<|Ae rfl (D7 hl hw hk) Ax rfl<|At rfl<|Ae rfl (B8 hl s1) Ax rfl<|At rfl<|Ae rfl (hT1) Ax rfl<|At rfl<|Ae rfl (B8 hl s2) Ax rfl<|At rfl<|Ae rfl (hT2) Ax rfl<|At rfl<|Ah ⟨_,AC⟩
 rw [if_neg c3] at h;have c3:AZ l a [108,101,116]=false:=by simpa using c3
 by_cases c4:AZ l a [105,102]=true
 ·rw [if_pos c4] at h;cases hr:Dm l f (a+1) with
  | none=>rw [hr] at h;cases h
  | some r =>
  rw [hr] at h;simp only [Dy] at h;obtain ⟨s2,h⟩:=AX h;cases hu:Dm l f (r.2+1) with
  | none=>rw [hu] at h;cases h
  | some u =>
  rw [hu] at h;simp only [Dy] at h;obtain ⟨s3,h⟩:=AX h;cases hv:Dm l f (u.2+1) with
  | none=>rw [hv] at h;cases h
  | some v =>
  rw [hv] at h;cases h;have hT1:=ihT _ r.1 r.2 hr;have hT2:=ihT _ u.1 u.2 hu;have hT3:=ihT _ v.1 v.2 hv;obtain ⟨⟨r1,r2,r3,r4,r5⟩,rp⟩:=r;obtain ⟨⟨u1,u2,u3,u4,u5⟩,up⟩:=u;obtain ⟨⟨v1,v2,v3,v4,v5⟩,vp⟩:=v;simp only at s2 s3 hT1 hT2 hT3 ⊢;exact Ad AG func173 rfl [2,3,4,5]<|At rfl<|Ae rfl (Bi c1) Ax rfl<|At rfl<|Ag rfl λh=>A3 rfl<|Ae rfl (Bi c2) Ax rfl<|At rfl<|Ag rfl λh=>A3 rfl<|Ae rfl (Bi c3) Ax rfl<|At rfl<|Ag rfl λh=>A3 rfl<|Ae rfl (CY hl c4) Ax rfl<|At rfl<|Al rfl λh=>A3 rfl<|Ae rfl (hT1) Ax rfl<|At rfl<|Ae rfl (B8 hl s2) Ax rfl<|At rfl<|Ae rfl (hT2) Ax rfl<|At rfl<|Ae rfl (B8 hl s3) Ax rfl<|At rfl<|Ae rfl (hT3) Ax rfl<|At rfl<|Ah ⟨_,AC⟩
 rw [if_neg c4] at h;have c4:AZ l a [105,102]=false:=by simpa using c4
 cases hr:Zo l f a with
 | none=>rw [hr] at h;cases h
 | some r =>
 rw [hr] at h;simp only [Dy] at h;have hT1:=ihS _ r.1 r.2 hr;by_cases c5:AZ l r.2 [60]=true
 ·rw [if_pos c5] at h;cases hu:Zo l f (r.2+1) with
  | none=>rw [hu] at h;cases h
  | some u =>
  rw [hu] at h;cases h;have hT2:=ihS _ u.1 u.2 hu;have hW:=YI 12 r.1 u.1;obtain ⟨⟨r1,r2,r3,r4,r5⟩,rp⟩:=r;obtain ⟨⟨u1,u2,u3,u4,u5⟩,up⟩:=u;simp only at c5 hT1 hT2 hW ⊢;exact Ad AG func173 rfl [2,3,4,5]<|At rfl<|Ae rfl (Bi c1) Ax rfl<|At rfl<|Ag rfl λh=>A3 rfl<|Ae rfl (Bi c2) Ax rfl<|At rfl<|Ag rfl λh=>A3 rfl<|Ae rfl (Bi c3) Ax rfl<|At rfl<|Ag rfl λh=>A3 rfl<|Ae rfl (Bi c4) Ax rfl<|At rfl<|Ag rfl λh=>A3 rfl<|Ae rfl (hT1) Ax rfl<|At rfl<|Ae rfl (CY hl c5) Ax rfl<|At rfl<|Al rfl λh=>A3 rfl<|Ae rfl (hT2) Ax rfl<|At rfl<|Af rfl hW<|At rfl<|Ah ⟨_,AC⟩
 ·rw [if_neg c5] at h;have c5:AZ l r.2 [60]=false:=by simpa using c5
  obtain ⟨c6,h⟩:=DO h;have c6:=c6 _ (AP.2 rfl);cases h;obtain ⟨t1,t2,t3,t4,t5⟩:=t;exact Ad AG func173 rfl [2,3,4,5]<|At rfl<|Ae rfl (Bi c1) Ax rfl<|At rfl<|Ag rfl λh=>A3 rfl<|Ae rfl (Bi c2) Ax rfl<|At rfl<|Ag rfl λh=>A3 rfl<|Ae rfl (Bi c3) Ax rfl<|At rfl<|Ag rfl λh=>A3 rfl<|Ae rfl (Bi c4) Ax rfl<|At rfl<|Ag rfl λh=>A3 rfl<|Ae rfl (hT1) Ax rfl<|At rfl<|Ae rfl (Bi c5) Ax rfl<|At rfl<|Ag rfl λh=>A3 rfl<|Ae rfl (Bi c6) Ax rfl<|At rfl<|Ag rfl λh=>A3 rfl<|Ah ⟨_,AC⟩
theorem QF {a:Nat} {t:Tm} (hA:Tq4 302 [.ref 1 0] (GW l a) (.ret (.imm (.agg (dTmc t))) (GW l b))) (hno:AZ l b [42]=false):Tq4 281 [.ref 1 0] (GW l a) (.ret (.imm (.agg (dTmc t))) (GW l b)):=by
 obtain ⟨t1,t2,t3,t4,t5⟩:=t;exact Ad AG func281 rfl [2,3,4]<|At rfl<|Ae rfl (hA) Ax rfl<|At rfl<|Ak (λ_:Nat=>[(0,.ref 1 0),(3,.ref 3 0),(2,.ref 2 0)]) (λ_=>[(1,some (oL l b)),(2,some (.cells 49 5 [.imm (.int .i64 0),.imm (.int .i64 0),.imm (.str []),.nils,.nils])),(3,some (.immb 49 5 (dTmc (.mk t1 t2 t3 t4 t5))))]) [4] (λ_=>0) (λ_=>True) 0 trivial AC AC rfl λ_ _ _=>A3 rfl<|Ae rfl (Bi hno) Ax rfl<|At rfl<|Ag rfl λh=>Az rfl<|A3 rfl<|Ah ⟨_,AC⟩
theorem Tk {f:Nat} {t:Tm} {a:Nat} {r:Tm×Nat} (h:OO l f t a=some r):AZ l a [42]=false:=by
 cases f with
 | zero=>simp [OO] at h
 | succ f=>rw [OO] at h;exact (DO h).1 _ (AP.2 rfl)
theorem vO {a:Nat} (h:AZ l a x=true):a<l.length:=by
 cases e:l[a]? with
 | none=>rw [AZ,e] at h;cases h
 | some t=>exact (AL.1 e).1
theorem nF (hl:l.length<=10000) (n:Nat) (IH:∀f,f<n->YB l f):zde l n:=by
 intro a t b h;cases n with
 | zero=>simp [Zo] at h
 | succ f =>
 rw [Zo] at h;cases hr:Zq l f a with
 | none=>rw [hr] at h;cases h
 | some r =>
 rw [hr] at h;simp only [Dy] at h;have hP:=QF ((IH f (CC f)).app _ r.1 r.2 hr) (Tk h);have IH:=λg (hg:g<=f)=>(IH g (by omega)).app;clear hr;obtain ⟨⟨r1,r2,r3,r4,r5⟩,rp⟩:=r;simp only at h hP;refine Ad AG func243 rfl [2,3,4,5]<|At rfl<|Ae rfl (hP) Ax rfl<|At rfl ?_;clear hP;refine Ak (λ_:Nat×Tm×Nat=>[(0,.ref 1 0),(3,.ref 3 0),(2,.ref 2 0)]) (λz=>[(1,some (oL l z.2.2)),(2,some (.cells 49 5 [.imm (.int .i64 0),.imm (.int .i64 0),.imm (.str []),.nils,.nils])),(3,some (.immb 49 5 (dTmc z.2.1)))]) [4,5] (λz=>z.1)
  (λz=>z.1<=f/\OO l z.1 z.2.1 z.2.2=some (t,b)) (f,.mk r1 r2 r3 r4 r5,rp) ⟨BQ _,h⟩ AC AC rfl λz hz ih=>?_
 clear h;obtain ⟨f1,⟨t1,t2,t3,t4,t5⟩,a1⟩:=z;obtain ⟨z1,z2⟩:=hz;simp only at z1 z2 ih;cases f1 with
 | zero=>simp [OO] at z2
 | succ f1 =>
 rw [OO] at z2;obtain ⟨-,z2⟩:=DO z2;have hS:=M5 l a1 [43];by_cases c1:AZ l a1 [43]=true
 ·rw [if_pos c1] at z2;rw [c1] at hS;cases hu:Zq l f1 (a1+1) with
  | none=>rw [hu] at z2;cases z2
  | some u =>
  rw [hu] at z2;simp only [Dy] at z2;have hQ:=QF (IH f1 (by omega) _ u.1 u.2 hu) (Tk z2);have hW:=YI 9 (.mk t1 t2 t3 t4 t5) u.1;have hlt:=vO c1;have w:IntKind.i64.wrap ((a1:Int)+1)=((a1+1:Nat):Int):=by rw [GR (by omega) (by omega)];omega
  obtain ⟨⟨u1,u2,u3,u4,u5⟩,up⟩:=u;simp only at z2 hQ hW;refine X0 rfl<|A5 [(1,1)] [] [1] (fr:=[]) (nm:=[]) rfl (by simp [Am]) (by simp) (hS) Ax rfl ⟨⟨rfl,rfl⟩,trivial⟩ rfl rfl rfl<|Ly rfl<|PX (.imm (.bool false)) rfl (by simp [Am])<|Ly rfl<|Al rfl λh=>A3 rfl<|Ae rfl (hS) Ax rfl<|At rfl<|Al rfl λh=>A3 rfl ?_;rw [w];exact Ae rfl (hQ) Ax rfl<|At rfl<|Af rfl hW<|At rfl<|Ac (ih (f1,_,up) (CC _) ⟨by simp only;omega,z2⟩) AC AC rfl
 ·rw [if_neg c1] at z2;obtain ⟨c2,z2⟩:=DO z2;have hS2:=M5 l a1 [45];rw [c2 _ (AP.2 rfl)] at hS2;rw [show AZ l a1 [43]=false by simpa using c1] at hS;cases z2;exact X0 rfl<|A5 [(1,1)] [] [1] (fr:=[]) (nm:=[]) rfl (by simp [Am]) (by simp) (hS) Ax rfl ⟨⟨rfl,rfl⟩,trivial⟩ rfl rfl rfl<|Ly rfl<|A5 [(1,1)] [] [1] (fr:=[]) (nm:=[]) rfl (by simp [Am]) (by simp) (hS2) Ax rfl ⟨⟨rfl,rfl⟩,trivial⟩ rfl rfl rfl<|Ly rfl<|Ag rfl λh=>Az rfl<|A3 rfl<|Ah ⟨_,AC⟩
theorem uC (hl:l.length<=10000) (n:Nat) (IH:∀f,f<n->YB l f):zdm l n:=by
 intro a t b h;cases n with
 | zero=>simp [Zq] at h
 | succ f =>
 rw [Zq] at h;cases hr:QH l f a with
 | none=>rw [hr] at h;cases h
 | some r =>
 rw [hr] at h;simp only [Dy] at h;have hP:=(IH f (CC f)).atom _ r.1 r.2 hr;have IH:=λg (hg:g<=f)=>(IH g (by omega)).atom;clear hr;obtain ⟨⟨r1,r2,r3,r4,r5⟩,rp⟩:=r;simp only at h hP;refine Ad AG func302 rfl [2,3,4,5]<|At rfl<|Ae rfl (hP) Ax rfl<|At rfl ?_;clear hP;refine Ak (λ_:Nat×Tm×Nat=>[(0,.ref 1 0),(3,.ref 3 0),(2,.ref 2 0)]) (λz=>[(1,some (oL l z.2.2)),(2,some (.cells 49 5 [.imm (.int .i64 0),.imm (.int .i64 0),.imm (.str []),.nils,.nils])),(3,some (.immb 49 5 (dTmc z.2.1)))]) [4,5] (λz=>z.1)
  (λz=>z.1<=f/\WN l z.1 z.2.1 z.2.2=some (t,b)) (f,.mk r1 r2 r3 r4 r5,rp) ⟨BQ _,h⟩ AC AC rfl λz hz ih=>?_
 clear h;obtain ⟨f1,⟨t1,t2,t3,t4,t5⟩,a1⟩:=z;obtain ⟨z1,z2⟩:=hz;simp only at z1 z2 ih;cases f1 with
 | zero=>simp [WN] at z2
 | succ f1 =>
 rw [WN] at z2;have hS:=lW l a1;by_cases c1:N5 l a1=true
 ·rw [if_pos c1] at z2;rw [c1] at hS;cases hu:QH l f1 a1 with
  | none=>rw [hu] at z2;cases z2
  | some u =>
  rw [hu] at z2;simp only [Dy] at z2;have hQ:=IH f1 (by omega) _ u.1 u.2 hu;have hW:=YI 6 (.mk t1 t2 t3 t4 t5) u.1;obtain ⟨⟨u1,u2,u3,u4,u5⟩,up⟩:=u;simp only at z2 hQ hW;exact A3 rfl<|Ae rfl (hS) Ax rfl<|At rfl<|Al rfl λh=>A3 rfl<|Ae rfl (hQ) Ax rfl<|At rfl<|Af rfl hW<|At rfl<|Ac (ih (f1,_,up) (CC _) ⟨by simp only;omega,z2⟩) AC AC rfl
 ·rw [if_neg c1] at z2;rw [show N5 l a1=false by simpa using c1] at hS;cases z2;exact A3 rfl<|Ae rfl (hS) Ax rfl<|At rfl<|Ag rfl λh=>Az rfl<|A3 rfl<|Ah ⟨_,AC⟩
theorem lU (hl:l.length<=10000) (n:Nat) (IH:∀f,f<n->YB l f) {u:Tok} {a:Nat} (hu:l[a]?=some u) {t:Tm} (h:eD l n a=some (t,b)):Tq4 323 [.ref 1 0] (GW l a) (.ret (.imm (.agg (dTmc t))) (GW l b)):=by
 cases n with
 | zero=>simp [eD] at h
 | succ f =>
 have ihT:=(IH f (CC f)).term;have ihL:=(IH f (CC f)).terms;clear IH;have hx:CJ l a=u.text:=by rw [CJ,hu]
 have hlt:=(AL.1 hu).1;have hg:=Jb hu;have w:IntKind.i64.wrap ((a:Int)+1)=((a+1:Nat):Int):=by rw [GR (by omega) (by omega)];omega
 have hC:=U3 u.text;rw [eD,hx] at h;obtain ⟨u1,u2,u3,u4⟩:=u;simp only at hC h;generalize Fc u2=c at *;obtain ⟨c1,c2⟩:=c;simp only at hC h
 split at h
 case isTrue=>cases h
 rename_i e1;by_cases e2:0<c2
 ·rw [if_pos e2] at h;cases hr:LW l f c2 (a+1) with
  | none=>rw [hr] at h;cases h
  | some r =>
  rw [hr] at h;cases h;have hL:=ihL _ _ r.1 r.2 hr;refine Ad AG func323 rfl [2,3,4,5]<|At rfl<|zV rfl hg<|At rfl<|Af rfl hC<|jg [] rfl (by simp;kernel_rfl)<|Ab rfl (λh=>by exfalso;simp at h;exact e1 h) (λh=>?_);refine A3 rfl ?_;rw [w];refine Ab rfl (λh=>?_) (λh=>by exfalso;simp at h;omega);exact A3 rfl<|Ae rfl (hL) Ax rfl<|At rfl<|Ah ⟨_,AC⟩
 rw [if_neg e2] at h;by_cases e3:c2<0
 ·rw [if_pos e3] at h;obtain ⟨s1,h⟩:=AX h
  split at h
  case isFalse=>cases h
  rename_i k1;obtain ⟨s2,h⟩:=AX h;obtain ⟨v,hv,hk,_,hn⟩:=Ee k1;rw [hn] at h;cases hr:Dm l f (a+4) with
  | none=>rw [hr] at h;cases h
  | some r =>
  rw [hr] at h;simp only [Dy] at h;obtain ⟨s3,h⟩:=AX h;cases h;have hT:=ihT _ r.1 r.2 hr;obtain ⟨v1,v2,v3,v4⟩:=v;obtain ⟨⟨r1,r2,r3,r4,r5⟩,rp⟩:=r;simp only at s3 hT ⊢;refine Ad AG func323 rfl [2,3,4,5]<|At rfl<|zV rfl hg<|At rfl<|Af rfl hC<|jg [] rfl (by simp;kernel_rfl)<|Ab rfl (λh=>by exfalso;simp at h;exact e1 h) (λh=>?_);refine A3 rfl ?_;rw [w];refine Ab rfl (λh=>by exfalso;simp at h;omega) (λh=>?_);refine A3 rfl<|Ab rfl (λh=>?_) (λh=>by exfalso;simp at h;omega);exact A3 rfl<|Ae rfl (B8 hl s1) Ax rfl<|At rfl<|Ae rfl (D7 hl hv hk) Ax rfl<|At rfl<|Ae rfl (B8 hl s2) Ax rfl<|At rfl<|Ae rfl (hT) Ax rfl<|At rfl<|Ae rfl (B8 hl s3) Ax rfl<|At rfl<|Ah ⟨_,AC⟩
 ·rw [if_neg e3] at h;cases h;refine Ad AG func323 rfl [2,3,4,5]<|At rfl<|zV rfl hg<|At rfl<|Af rfl hC<|jg [] rfl (by simp;kernel_rfl)<|Ab rfl (λh=>by exfalso;simp at h;exact e1 h) (λh=>?_);refine A3 rfl ?_;rw [w];refine Ab rfl (λh=>by exfalso;simp at h;omega) (λh=>?_);refine A3 rfl<|Ab rfl (λh=>by exfalso;simp at h;omega) (λh=>?_);exact A3 rfl<|Ah ⟨_,AC⟩
theorem lX (hl:l.length<=10000) (n:Nat) (IH:∀f,f<n->YB l f):zad l n:=by
 intro a t b h;cases n with
 | zero=>simp [QH] at h
 | succ f =>
 have ihT:=(IH f (CC f)).term;have ihL:=(IH f (CC f)).terms;have ihC:=(IH f (CC f)).cases_;have ihK:=λu hu t b h=>lU hl f (λg hg=>IH g (by omega)) (u:=u) (a:=a) hu (t:=t) (b:=b) h;clear IH;rw [QH] at h;have hI4:=Kv l a 4;by_cases k4:Mh l a 4=true
 ·rw [if_pos k4] at h;rw [k4] at hI4;obtain ⟨u,hu,hk,_,hn⟩:=Ee k4;rw [hn] at h;cases h;obtain ⟨u1,u2,u3,u4⟩:=u;exact Ad AG func317 rfl [2,3,4]<|At rfl<|Ae rfl (hI4) Ax rfl<|At rfl<|Al rfl λh=>A3 rfl<|Ae rfl (D7 hl hu hk) Ax rfl<|At rfl<|Ah ⟨_,AC⟩
 rw [if_neg k4] at h;rw [show Mh l a 4=false by simpa using k4] at hI4;have hI1:=Kv l a 1;by_cases k1:Mh l a 1=true
 ·rw [if_pos k1] at h;rw [k1] at hI1;obtain ⟨u,hu,hk,hx,_⟩:=Ee k1;rw [hx] at h;cases h;obtain ⟨u1,u2,u3,u4⟩:=u;exact Ad AG func317 rfl [2,3,4]<|At rfl<|Ae rfl (hI4) Ax rfl<|At rfl<|Ag rfl λh=>A3 rfl<|Ae rfl (hI1) Ax rfl<|At rfl<|Al rfl λh=>A3 rfl<|Ae rfl (D7 hl hu hk) Ax rfl<|At rfl<|Ah ⟨_,AC⟩
 rw [if_neg k1] at h;rw [show Mh l a 1=false by simpa using k1] at hI1;have hI2:=Kv l a 2;by_cases k2:Mh l a 2=true
 ·rw [if_pos k2] at h;rw [k2] at hI2;obtain ⟨u,hu,hk,hx,_⟩:=Ee k2;rw [hx] at h;have hS:=M5 l (a+1) [40];by_cases c1:AZ l (a+1) [40]=true
  ·rw [if_pos c1] at h;rw [c1] at hS;cases hr:LW l f (-1) (a+1) with
   | none=>rw [hr] at h;cases h
   | some r =>
   rw [hr] at h;cases h;have hL:=ihL _ _ r.1 r.2 hr;obtain ⟨u1,u2,u3,u4⟩:=u;exact Ad AG func317 rfl [2,3,4]<|At rfl<|Ae rfl (hI4) Ax rfl<|At rfl<|Ag rfl λh=>A3 rfl<|Ae rfl (hI1) Ax rfl<|At rfl<|Ag rfl λh=>A3 rfl<|Ae rfl (hI2) Ax rfl<|At rfl<|Al rfl λh=>A3 rfl<|Ae rfl (D7 hl hu hk) Ax rfl<|At rfl<|Ae rfl (hS) Ax rfl<|At rfl<|Al rfl λh=>A3 rfl<|Ae rfl (hL) Ax rfl<|At rfl<|Ah ⟨_,AC⟩
  ·rw [if_neg c1] at h;rw [show AZ l (a+1) [40]=false by simpa using c1] at hS;cases h;obtain ⟨u1,u2,u3,u4⟩:=u;exact Ad AG func317 rfl [2,3,4]<|At rfl<|Ae rfl (hI4) Ax rfl<|At rfl<|Ag rfl λh=>A3 rfl<|Ae rfl (hI1) Ax rfl<|At rfl<|Ag rfl λh=>A3 rfl<|Ae rfl (hI2) Ax rfl<|At rfl<|Al rfl λh=>A3 rfl<|Ae rfl (D7 hl hu hk) Ax rfl<|At rfl<|Ae rfl (hS) Ax rfl<|At rfl<|Ag rfl λh=>A3 rfl<|Ah ⟨_,AC⟩
 rw [if_neg k2] at h;rw [show Mh l a 2=false by simpa using k2] at hI2;obtain ⟨hB,h⟩:=DO h;have b1:=hB yV (by simp);have b2:=hB XS (by simp);by_cases c1:AZ l a jH=true
 ·rw [if_pos c1] at h;have hC:=ihC _ t b h;obtain ⟨t1,t2,t3,t4,t5⟩:=t;exact Ad AG func317 rfl [2,3,4]<|At rfl<|Ae rfl (hI4) Ax rfl<|At rfl<|Ag rfl λh=>A3 rfl<|Ae rfl (hI1) Ax rfl<|At rfl<|Ag rfl λh=>A3 rfl<|Ae rfl (hI2) Ax rfl<|At rfl<|Ag rfl λh=>A3 rfl<|Ae rfl (Bi b1) Ax rfl<|At rfl<|Ag rfl λh=>A3 rfl<|Ae rfl (Bi b2) Ax rfl<|At rfl<|Ag rfl λh=>A3 rfl<|Ae rfl (CY hl c1) Ax rfl<|At rfl<|Al rfl λh=>A3 rfl<|Ae rfl (hC) Ax rfl<|At rfl<|Ah ⟨_,AC⟩
 rw [if_neg c1] at h;have c1:AZ l a jH=false:=by simpa using c1
 by_cases c2:AZ l a [40]=true
 ·rw [if_pos c2] at h;obtain ⟨c3,h⟩:=DO h;have c3:=c3 _ (AP.2 rfl);cases hr:Dm l f (a+1) with
  | none=>rw [hr] at h;cases h
  | some r =>
  rw [hr] at h;simp only [Dy] at h;obtain ⟨s1,h⟩:=AX h;cases h;have hT:=ihT _ r.1 r.2 hr;obtain ⟨⟨r1,r2,r3,r4,r5⟩,rp⟩:=r;simp only at s1 hT ⊢;exact Ad AG func317 rfl [2,3,4]<|At rfl<|Ae rfl (hI4) Ax rfl<|At rfl<|Ag rfl λh=>A3 rfl<|Ae rfl (hI1) Ax rfl<|At rfl<|Ag rfl λh=>A3 rfl<|Ae rfl (hI2) Ax rfl<|At rfl<|Ag rfl λh=>A3 rfl<|Ae rfl (Bi b1) Ax rfl<|At rfl<|Ag rfl λh=>A3 rfl<|Ae rfl (Bi b2) Ax rfl<|At rfl<|Ag rfl λh=>A3 rfl<|Ae rfl (Bi c1) Ax rfl<|At rfl<|Ag rfl λh=>A3 rfl<|Ae rfl (CY hl c2) Ax rfl<|At rfl<|Al rfl λh=>A3 rfl<|Ae rfl (Bi c3) Ax rfl<|At rfl<|Ag rfl λh=>A3 rfl<|Ae rfl (hT) Ax rfl<|At rfl<|Ae rfl (B8 hl s1) Ax rfl<|At rfl<|Ah ⟨_,AC⟩
 rw [if_neg c2] at h;have c2:AZ l a [40]=false:=by simpa using c2
 have hI3:=Kv l a 3
 split at h
 case isFalse=>cases h
 rename_i k3;rw [k3] at hI3;obtain ⟨u,hu,_⟩:=Ee k3;have hK:=ihK u hu t b h;obtain ⟨t1,t2,t3,t4,t5⟩:=t;exact Ad AG func317 rfl [2,3,4]<|At rfl<|Ae rfl (hI4) Ax rfl<|At rfl<|Ag rfl λh=>A3 rfl<|Ae rfl (hI1) Ax rfl<|At rfl<|Ag rfl λh=>A3 rfl<|Ae rfl (hI2) Ax rfl<|At rfl<|Ag rfl λh=>A3 rfl<|Ae rfl (Bi b1) Ax rfl<|At rfl<|Ag rfl λh=>A3 rfl<|Ae rfl (Bi b2) Ax rfl<|At rfl<|Ag rfl λh=>A3 rfl<|Ae rfl (Bi c1) Ax rfl<|At rfl<|Ag rfl λh=>A3 rfl<|Ae rfl (Bi c2) Ax rfl<|At rfl<|Ag rfl λh=>A3 rfl<|Ae rfl (hI3) Ax rfl<|At rfl<|Al rfl λh=>A3 rfl<|Ae rfl (hK) Ax rfl<|At rfl<|Ah ⟨_,AC⟩
theorem YJ (hl:l.length<=10000) (n:Nat) (hnn:n<=1000000) (IH:∀f,f<n->YB l f):uI l n:=by
 intro k a ks b h;cases n with
 | zero=>simp [LW] at h
 | succ f =>
 rw [LW] at h;obtain ⟨s1,h⟩:=AX h;cases hr:Dm l f (a+1) with
 | none=>rw [hr] at h;cases h
 | some r =>
 rw [hr] at h;simp only [Dy] at h;have hP:=(IH f (CC f)).term _ r.1 r.2 hr;have IH:=λg (hg:g<=f)=>(IH g (by omega)).term;clear hr;obtain ⟨⟨r1,r2,r3,r4,r5⟩,rp⟩:=r;simp only at h hP;refine Ad AG func321 rfl [2,3,4,5,6]<|At rfl<|Ae rfl (B8 hl s1) Ax rfl<|At rfl<|Ae rfl (hP) Ax rfl<|jgf 6 rfl (by simp)<|sR AG 3 rfl (by simp)<|At rfl ?_;clear hP;refine Ak (λz:Nat×List Tm×Nat=>[(0,.ref 1 0),(1,.imm (.int .i64 k)),(6,.own 3 (EQ z.2.1).length)]) (λz=>[(1,some (oL l z.2.2)),(3,some (.row 49 5 (EQ z.2.1)))]) [4,5,6] (λz=>z.1)
  (λz=>z.1+z.2.1.length<=f+1/\MF l z.1 k z.2.1 z.2.2=some (ks,b)) (f,[.mk r1 r2 r3 r4 r5],rp) ⟨by simp,h⟩ AC AK rfl λz hz ih=>?_
 clear h;obtain ⟨f1,out,a1⟩:=z;obtain ⟨z1,z2⟩:=hz;simp only at z1 z2 ih;cases f1 with
 | zero=>simp [MF] at z2
 | succ f1 =>
 rw [MF] at z2;refine X0 rfl ?_;by_cases hk:k<0
 ·by_cases c1:AZ l a1 [44]=true
  ·rw [if_pos (.inl ⟨hk,c1⟩)] at z2;obtain ⟨-,z2⟩:=AX z2;cases hu:Dm l f1 (a1+1) with
   | none=>rw [hu] at z2;cases z2
   | some u =>
   rw [hu] at z2;simp only [Dy] at z2;have hT:=IH f1 (by omega) _ u.1 u.2 hu;have hap:EQ (out++[u.1])=EQ out++[dTmc u.1]:=by rw [KE];rfl
   obtain ⟨⟨u1,u2,u3,u4,u5⟩,up⟩:=u;simp only at z2 hT hap;refine A5 [(1,1)] [] [] (fr:=[]) (nm:=[1,1]) rfl (by simp [Am,hk]) (by simp [Am]) (CY hl c1) Ax rfl trivial rfl rfl rfl<|jg [] rfl (by simp [Am];omega)<|Ab rfl (λh=>?_) (λh=>by exfalso;simp [hk] at h);refine A3 rfl<|Ab rfl (λh=>by exfalso;simp at h;omega) (λh=>?_);exact A3 rfl<|Ae rfl (hT) Ax rfl<|At rfl<|B7 AG rfl ⟨by simp,by simp [maxLen];omega,by simp;omega,trivial⟩<|At rfl<|Bt 3 5 rfl<|Ac (ih (f1,out++[.mk u1 u2 u3 u4 u5],up) (CC _) ⟨by simp only [B5,Da,Cz];omega,z2⟩) ⟨rfl,rfl,by rw [hap];rfl,trivial⟩ ⟨rfl,by rw [hap];rfl,trivial⟩ rfl
  ·have e:¬((k<0/\AZ l a1 [44]=true)\/(out.length:Int)<k):=λh=>h.elim (λh=>c1 h.2) (λh=>by omega);rw [if_neg e] at z2;have c1:AZ l a1 [44]=false:=by simpa using c1
   obtain ⟨s3,z2⟩:=AX z2;cases z2;refine A5 [(1,1)] [] [1] (fr:=[]) (nm:=[]) rfl (by simp [Am,hk]) (by simp [Am]) (Bi c1) Ax rfl ⟨⟨rfl,rfl⟩,trivial⟩ rfl rfl rfl<|Ly rfl<|Ab rfl (λh=>by exfalso;simp at h;omega) (λh=>?_);exact Az rfl<|BC 3 rfl<|A3 rfl<|Ae rfl (B8 hl s3) Ax rfl<|At rfl<|Ah ⟨_,AC⟩
 ·refine PX (.imm (.bool false)) rfl (by simp [Am];omega)<|Ly rfl ?_;by_cases c2:(out.length:Int)<k
  ·rw [if_pos (.inr c2)] at z2;obtain ⟨s3,z2⟩:=AX z2;cases hu:Dm l f1 (a1+1) with
   | none=>rw [hu] at z2;cases z2
   | some u =>
   rw [hu] at z2;simp only [Dy] at z2;have hT:=IH f1 (by omega) _ u.1 u.2 hu;have hap:EQ (out++[u.1])=EQ out++[dTmc u.1]:=by rw [KE];rfl
   obtain ⟨⟨u1,u2,u3,u4,u5⟩,up⟩:=u;simp only at z2 hT hap;refine Ab rfl (λh=>?_) (λh=>by exfalso;simp at h;omega);refine A3 rfl<|Ab rfl (λh=>?_) (λh=>by exfalso;simp at h;omega);exact A3 rfl<|Ae rfl (B8 hl s3) Ax rfl<|At rfl<|Ae rfl (hT) Ax rfl<|At rfl<|B7 AG rfl ⟨by simp,by simp [maxLen];omega,by simp;omega,trivial⟩<|At rfl<|Bt 3 5 rfl<|Ac (ih (f1,out++[.mk u1 u2 u3 u4 u5],up) (CC _) ⟨by simp only [B5,Da,Cz];omega,z2⟩) ⟨rfl,rfl,by rw [hap];rfl,trivial⟩ ⟨rfl,by rw [hap];rfl,trivial⟩ rfl
  ·rw [if_neg (λh=>h.elim (λh=>hk h.1) c2)] at z2;obtain ⟨s3,z2⟩:=AX z2;cases z2;refine Ab rfl (λh=>by exfalso;simp at h;omega) (λh=>?_);exact Az rfl<|BC 3 rfl<|A3 rfl<|Ae rfl (B8 hl s3) Ax rfl<|At rfl<|Ah ⟨_,AC⟩
def mtB (n k:Nat):Blk:=.cells 49 5 [.imm (.int .i64 15),.imm (.int .i64 0),.imm (.str []),.own 5 n,.own 6 k]
theorem cK (hl:l.length<=10000) (n:Nat) (hnn:n<=1000000) (IH:∀f,f<n->YB l f):uU l n:=by
 intro a t b h;cases n with
 | zero=>simp [UY] at h
 | succ f =>
 rw [UY] at h;cases hr:Dm l f a with
 | none=>rw [hr] at h;cases h
 | some r =>
 rw [hr] at h;simp only [Dy] at h;obtain ⟨s1,h⟩:=AX h;have hP:=(IH f (CC f)).term _ r.1 r.2 hr;have IH:=λg (hg:g<=f)=>(IH g (by omega)).term;clear hr;obtain ⟨⟨r1,r2,r3,r4,r5⟩,rp⟩:=r;simp only at h hP s1;refine Ad AG func322 rfl [2,3,5,4,6,7,8,9,10]<|At rfl<|Ae rfl (hP) Ax rfl<|jgf 6 rfl (by simp)<|sR AG 5 rfl (by simp)<|At rfl<|Ae rfl (B8 hl s1) Ax rfl<|At rfl ?_;clear hP
 refine Ef 4 6 (e:=182) (sz:=4) [.imm (.int .i64 15),.imm (.int .i64 0),.imm (.str []),.own 5 1,.own 6 0] (by decide) rfl ⟨.inl rfl,.inl rfl,.inl rfl,.inl rfl,.inr ⟨rfl,rfl⟩,trivial⟩<|Ak (λz:Bool×Nat×List Ty×List Tm×Nat=>[(5,.imm (.bool z.1)),(0,.ref 1 0),(4,.ref 4 0),(2,.ref 2 0)]) (λz=>[(1,some (oL l z.2.2.2.2)),(2,some (.cells 49 5 [.imm (.int .i64 0),.imm (.int .i64 0),.imm (.str []),.nils,.nils])),(4,some (mtB (EQ z.2.2.2.1).length (AA z.2.2.1).length)),(5,some (.row 49 5 (EQ z.2.2.2.1))),(6,some (.row 182 4 (AA z.2.2.1)))]) [7,8,9,10] (λz=>z.2.1)
  (λz=>z.2.1+z.2.2.1.length<=f/\z.2.1+z.2.2.2.1.length<=f+1/\if z.1=true then MI l z.2.1 z.2.2.1 z.2.2.2.1 z.2.2.2.2=some (t,b) else t = .mk 15 0 [] z.2.2.2.1 z.2.2.1/\AZ l z.2.2.2.2 [125]=true/\b=z.2.2.2.2+1) (true,f,[],[.mk r1 r2 r3 r4 r5],rp+1)
  ⟨by simp,by simp,by rw [if_pos rfl];exact h⟩ Cb B6 rfl λz hz ih=>?_
 clear h;obtain ⟨more,f1,ps,ks,a1⟩:=z;obtain ⟨z1,z3,z2⟩:=hz;simp only at z1 z2 z3 ih;refine X0 rfl ?_;cases more with
 | false =>
  simp only [DK,if_false] at z2;obtain ⟨rfl,z2,rfl⟩:=z2;exact Ag rfl λh=>Az rfl<|BC 5 rfl<|BC 6 rfl<|A3 rfl<|Ae rfl (B8 hl z2) Ax rfl<|At rfl<|Ah ⟨_,AC⟩
 | true =>
  simp only [if_true] at z2;cases f1 with
  | zero=>simp [MI] at z2
  | succ f1 =>
  rw [MI] at z2;cases hq:Zp l f1 a1 with
  | none=>rw [hq] at z2;cases z2
  | some q =>
  rw [hq] at z2;simp only [Dy] at z2;obtain ⟨s2,z2⟩:=AX z2;cases hu:Dm l f1 (q.2+1) with
  | none=>rw [hu] at z2;cases z2
  | some u =>
  rw [hu] at z2;simp only [Dy] at z2;have hQ:=pF hl f1 (by omega) a1 q.1 q.2 hq;have hT:=IH f1 (by omega) _ u.1 u.2 hu;have hap:AA (ps++[q.1])=AA ps++[dTyc q.1]:=by rw [GM];rfl
  have hak:EQ (ks++[u.1])=EQ ks++[dTmc u.1]:=by rw [KE];rfl
  obtain ⟨⟨q1,q2,q3,q4⟩,qp⟩:=q;obtain ⟨⟨u1,u2,u3,u4,u5⟩,up⟩:=u;simp only at z2 s2 hQ hT hap hak;refine Al rfl λh=>A3 rfl<|Ae rfl (hQ) Ax rfl<|At rfl<|Ae rfl (B8 hl s2) Ax rfl<|At rfl<|Ae rfl (hT) Ax rfl<|At rfl<|B7 AG rfl ⟨by simp,by simp [maxLen];omega,by simp;omega,trivial⟩<|At rfl<|B7 AG rfl ⟨by simp,by simp [maxLen];omega,by simp;omega,trivial⟩<|At rfl ?_;by_cases c6:AZ l up [124]=true
  ·rw [if_pos c6] at z2;exact Ae rfl (CY hl c6) Ax rfl<|At rfl<|Bt 6 9 rfl<|Bt 5 10 rfl<|Ac (ih (true,f1,ps++[.mk q1 q2 q3 q4],ks++[.mk u1 u2 u3 u4 u5],up+1) (CC _) ⟨by simp only [B5,Da,Cz];omega,by simp only [B5,Da,Cz];omega,by rw [if_pos rfl];exact z2⟩) Cb ⟨rfl,rfl,by rw [hap,hak];rfl,by rw [hak];rfl,by rw [hap];rfl,trivial⟩ rfl
  ·rw [if_neg c6] at z2;have c6:AZ l up [124]=false:=by simpa using c6
   obtain ⟨z4,z2⟩:=AX z2;cases z2;exact Ae rfl (Bi c6) Ax rfl<|At rfl<|Bt 6 9 rfl<|Bt 5 10 rfl<|Ac (ih (false,f1,ps++[.mk q1 q2 q3 q4],ks++[.mk u1 u2 u3 u4 u5],up) (CC _) ⟨by simp only [B5,Da,Cz];omega,by simp only [B5,Da,Cz];omega,by rw [if_neg (by simp)];exact ⟨rfl,z4,rfl⟩⟩) Cb ⟨rfl,rfl,by rw [hap,hak];rfl,by rw [hak];rfl,by rw [hap];rfl,trivial⟩ rfl
theorem eB (hl:l.length<=10000):∀n,n<=1000000->YB l n:=λn=>by
 induction n using Nat.strongRecOn with
 | ind n IH=>exact λhn =>
  have IH':=λf hf=>IH f hf (wM (Nat.le_of_lt hf) hn)
  ⟨gZ hl n IH',nF hl n IH',uC hl n IH',lX hl n IH',cK hl n hn IH',YJ hl n hn IH'⟩
def zc2 (x:Str) (n:Nat):Blk:=.cells 113 2 [.imm (.str x),.own 4 n]
def cnB (x:Str) (n:Nat):Blk:=.cells 178 2 [.imm (.str x),.own 6 n]
theorem tK (hl:l.length<=10000) {f:Nat} (hf:f<=100000) {a:Nat} {d:Dt} (h:eC l f a=some (d,b)):Tq4 240 [.ref 1 0] (GW l a) (.ret (.imm (.agg (C7 d))) (GW l b)):=by
 unfold eC at h
 split at h
 case isFalse=>cases h
 rename_i k1;obtain ⟨s1,h⟩:=AX h;obtain ⟨u,hu,hk,hx,_⟩:=Ee k1;rw [hx] at h;cases hr:TD l f [] (a+2) with
 | none=>rw [hr] at h;cases h
 | some r =>
 rw [hr] at h;cases h;obtain ⟨css,b⟩:=r;obtain ⟨u1,u2,u3,u4⟩:=u;simp only;refine Ad AG func240 rfl [2,3,4,5,6,7,8,9]<|At rfl<|Ae rfl (D7 hl hu hk) Ax rfl<|At rfl<|Ae rfl (B8 hl s1) Ax rfl<|At rfl<|Ef 3 4 (e:=178) (sz:=2) [.imm (.str u2),.own 4 0] (by decide) rfl ⟨.inl rfl,.inr ⟨rfl,rfl⟩,trivial⟩<|Ak (λz:Bool×Nat×List Cd×Nat=>[(4,.imm (.bool z.1)),(0,.ref 1 0),(3,.ref 3 0),(2,.ref 2 0)]) (λz=>[(1,some (oL l z.2.2.2)),(2,some (.cells 113 2 [.imm (.str []),.nils])),(3,some (zc2 u2 (z.2.2.1.map Fa).length)),(4,some (.row 178 2 (z.2.2.1.map Fa)))]) [5,6,7,8,9] (λz=>z.2.1)
  (λz=>z.2.1+z.2.2.1.length<=f/\if z.1=true then TD l z.2.1 z.2.2.1 z.2.2.2=some (css,b) else css=z.2.2.1/\AZ l z.2.2.2 [59]=true/\b=z.2.2.2+1) (true,f,[],a+2)
  ⟨by simp,by rw [if_pos rfl];exact hr⟩ Cb Cb rfl λz hz ih=>?_
 clear hr hu k1 hx hk s1;obtain ⟨more,f1,cs,a1⟩:=z;obtain ⟨z1,z2⟩:=hz;simp only at z1 z2 ih;refine X0 rfl ?_;cases more with
 | false =>
  simp only [DK,if_false] at z2;obtain ⟨rfl,z2,rfl⟩:=z2;exact Ag rfl λh=>Az rfl<|BC 4 rfl<|A3 rfl<|Ae rfl (B8 hl z2) Ax rfl<|At rfl<|Ah ⟨_,AC⟩
 | true =>
  simp only [if_true] at z2;cases f1 with
  | zero=>simp [TD] at z2
  | succ f1 =>
  rw [TD] at z2
  split at z2
  case isFalse=>cases z2
  rename_i k2;obtain ⟨v,hv,hk,hx,_⟩:=Ee k2;rw [hx] at z2;obtain ⟨v1,v2,v3,v4⟩:=v;have hap:∀ts,(cs++[(⟨v2,ts⟩:Cd)]).map Fa=cs.map Fa++[Fa ⟨v2,ts⟩]:=λts=>by simp
  simp only at z2;refine Al rfl λh=>A3 rfl<|Ae rfl (D7 hl hv hk) Ax rfl<|At rfl ?_;by_cases c1:AZ l (a1+1) [40]=true
  ·rw [if_pos c1] at z2;cases hw:TE l f1 [] (a1+2) with
   | none=>rw [hw] at z2;cases z2
   | some w =>
   rw [hw] at z2;obtain ⟨tss,c⟩:=w;simp only [Dy] at z2;refine Ae rfl (CY hl c1) Ax rfl<|At rfl<|Al rfl λh=>A3 rfl<|Ef 5 6 (e:=25) (sz:=4) [.imm (.str v2),.own 6 0] (by decide) rfl ⟨.inl rfl,.inr ⟨rfl,rfl⟩,trivial⟩<|Ak (λz:Bool×Nat×List Ty×Nat=>[(6,.imm (.bool z.1)),(0,.ref 1 0),(3,.ref 3 0),(2,.ref 2 0),(5,.ref 5 0)]) (λz=>[(1,some (oL l z.2.2.2)),(2,some (.cells 113 2 [.imm (.str []),.nils])),(3,some (zc2 u2 (cs.map Fa).length)),(4,some (.row 178 2 (cs.map Fa))),(5,some (cnB v2 (AA z.2.2.1).length)),(6,some (.row 25 4 (AA z.2.2.1)))]) [7,8,9] (λz=>z.2.1)
    (λz=>z.2.1+z.2.2.1.length<=f1/\if z.1=true then TE l z.2.1 z.2.2.1 z.2.2.2=some (tss,c) else tss=z.2.2.1/\AZ l z.2.2.2 [41]=true/\c=z.2.2.2+1) (true,f1,[],a1+2)
    ⟨by simp,by rw [if_pos rfl];exact hw⟩ B6 GU rfl λy hy jh=>?_
   clear hw;obtain ⟨more,g1,ts,a2⟩:=y;obtain ⟨y1,y2⟩:=hy;simp only at y1 y2 jh;refine X0 rfl ?_;cases more with
   | false =>
    simp only [DK,if_false] at y2;obtain ⟨rfl,y2,rfl⟩:=y2;refine Ag rfl λh=>Az rfl<|BC 6 rfl<|A3 rfl<|Ae rfl (B8 hl y2) Ax rfl<|At rfl<|B7 AG rfl ⟨by simp,by simp [maxLen];omega,by simp;omega,trivial⟩<|At rfl ?_;by_cases c6:AZ l (a2+1) [124]=true
    ·rw [if_pos c6] at z2;exact Ae rfl (CY hl c6) Ax rfl<|At rfl<|Bt 4 7 rfl<|Ac (ih (true,f1,cs++[⟨v2,tss⟩],a2+1+1) (CC _) ⟨by simp only [B5,Da,Cz];omega,by rw [if_pos rfl];exact z2⟩) Cb ⟨rfl,rfl,by rw [hap];rfl,by rw [hap];rfl,trivial⟩ rfl
    ·rw [if_neg c6] at z2;have c6:AZ l (a2+1) [124]=false:=by simpa using c6
     obtain ⟨z4,z2⟩:=AX z2;cases z2;exact Ae rfl (Bi c6) Ax rfl<|At rfl<|Bt 4 7 rfl<|Ac (ih (false,f1,cs++[⟨v2,tss⟩],a2+1) (CC _) ⟨by simp only [B5,Da,Cz];omega,by rw [if_neg (by simp)];exact ⟨rfl,z4,rfl⟩⟩) Cb ⟨rfl,rfl,by rw [hap];rfl,by rw [hap];rfl,trivial⟩ rfl
   | true =>
    simp only [if_true] at y2;cases g1 with
    | zero=>simp [TE] at y2
    | succ g1 =>
    rw [TE] at y2;cases hq:MH l a2 with
    | none=>rw [hq] at y2;cases y2
    | some q =>
    rw [hq] at y2;simp only [Dy] at y2;have hQ:=Rm hl (t:=q.1) (b:=q.2) hq;have hat:AA (ts++[q.1])=AA ts++[dTyc q.1]:=by rw [GM];rfl
    obtain ⟨⟨q1,q2,q3,q4⟩,qp⟩:=q;simp only at y2 hQ hat
    refine Al rfl λh=>A3 rfl<|Ae rfl (hQ) Ax rfl<|At rfl<|B7 AG rfl ⟨by simp,by simp [maxLen];omega,by simp;omega,trivial⟩<|At rfl ?_;by_cases c6:AZ l qp [44]=true
    ·rw [if_pos c6] at y2;exact Ae rfl (CY hl c6) Ax rfl<|At rfl<|Bt 6 8 rfl<|Ac (jh (true,g1,ts++[.mk q1 q2 q3 q4],qp+1) (CC _) ⟨by simp only [B5,Da,Cz];omega,by rw [if_pos rfl];exact y2⟩) B6 ⟨rfl,rfl,rfl,rfl,by rw [hat];rfl,by rw [hat];rfl,trivial⟩ rfl
    ·rw [if_neg c6] at y2;have c6:AZ l qp [44]=false:=by simpa using c6
     obtain ⟨z4,y2⟩:=AX y2;cases y2;exact Ae rfl (Bi c6) Ax rfl<|At rfl<|Bt 6 8 rfl<|Ac (jh (false,g1,ts++[.mk q1 q2 q3 q4],qp) (CC _) ⟨by simp only [B5,Da,Cz];omega,by rw [if_neg (by simp)];exact ⟨rfl,z4,rfl⟩⟩) B6 ⟨rfl,rfl,rfl,rfl,by rw [hat];rfl,by rw [hat];rfl,trivial⟩ rfl
  ·rw [if_neg c1] at z2;have c1:AZ l (a1+1) [40]=false:=by simpa using c1
   simp only [Dy] at z2;refine Ae rfl (Bi c1) Ax rfl<|At rfl<|Ag rfl λh=>A3 rfl<|B7 AG rfl ⟨by simp,by simp [maxLen];omega,by simp;omega,trivial⟩<|At rfl ?_;by_cases c6:AZ l (a1+1) [124]=true
   ·rw [if_pos c6] at z2;exact Ae rfl (CY hl c6) Ax rfl<|At rfl<|Bt 4 6 rfl<|Ac (ih (true,f1,cs++[⟨v2,[]⟩],a1+1+1) (CC _) ⟨by simp only [B5,Da,Cz];omega,by rw [if_pos rfl];exact z2⟩) Cb ⟨rfl,rfl,by rw [hap];rfl,by rw [hap];rfl,trivial⟩ rfl
   ·rw [if_neg c6] at z2;have c6:AZ l (a1+1) [124]=false:=by simpa using c6
    obtain ⟨z4,z2⟩:=AX z2;cases z2;exact Ae rfl (Bi c6) Ax rfl<|At rfl<|Bt 4 6 rfl<|Ac (ih (false,f1,cs++[⟨v2,[]⟩],a1+1) (CC _) ⟨by simp only [B5,Da,Cz];omega,by rw [if_neg (by simp)];exact ⟨rfl,z4,rfl⟩⟩) Cb ⟨rfl,rfl,by rw [hap];rfl,by rw [hap];rfl,trivial⟩ rfl
theorem xI (hl:l.length<=10000) {f:Nat} (hf:f<=100000) {a:Nat} {d:Fd} (h:vX l f a=some (d,b)):Tq4 241 [.ref 1 0] (GW l a) (.ret (.imm (.agg (CG d))) (GW l b)):=by
 unfold vX at h
 split at h
 case isFalse=>cases h
 rename_i k1;obtain ⟨s1,h⟩:=AX h
 split at h
 case isFalse=>cases h
 rename_i k2;obtain ⟨s2,h⟩:=AX h;obtain ⟨x,hx,hk,ht,_⟩:=Ee k1;obtain ⟨y,hy,hk2,ht2,_⟩:=Ee k2;rw [ht,ht2] at h;cases hr:MH l (a+4) with
 | none=>rw [hr] at h;cases h
 | some r =>
 rw [hr] at h;simp only [Dy] at h;obtain ⟨s3,h⟩:=AX h;obtain ⟨s4,h⟩:=AX h;cases hu:MH l (r.2+2) with
 | none=>rw [hu] at h;cases h
 | some u =>
 rw [hu] at h;simp only [Dy] at h;obtain ⟨s5,h⟩:=AX h;cases hv:Dm l f (u.2+1) with
 | none=>rw [hv] at h;cases h
 | some v =>
 rw [hv] at h;simp only [Dy] at h;obtain ⟨s6,h⟩:=AX h;cases h;have hR:=Rm hl (t:=r.1) (b:=r.2) hr;have hU:=Rm hl (t:=u.1) (b:=u.2) hu;have hV:=(eB hl f (by omega)).term _ v.1 v.2 hv;clear hr hu hv;obtain ⟨⟨r1,r2,r3,r4⟩,rp⟩:=r;obtain ⟨⟨u1,u2,u3,u4⟩,up⟩:=u;obtain ⟨⟨v1,v2,v3,v4,v5⟩,vp⟩:=v;obtain ⟨x1,x2,x3,x4⟩:=x;obtain ⟨y1,y2,y3,y4⟩:=y;simp only at s3 s4 s5 s6 hR hU hV ⊢
 exact Ad AG func241 rfl [2,3]<|At rfl<|Ae rfl (D7 hl hx hk) Ax rfl<|At rfl<|Ae rfl (B8 hl s1) Ax rfl<|At rfl<|Ae rfl (D7 hl hy hk2) Ax rfl<|At rfl<|Ae rfl (B8 hl s2) Ax rfl<|At rfl<|Ae rfl (hR) Ax rfl<|At rfl<|Ae rfl (B8 hl s3) Ax rfl<|At rfl<|Ae rfl (B8 hl s4) Ax rfl<|At rfl<|Ae rfl (hU) Ax rfl<|At rfl<|Ae rfl (B8 hl s5) Ax rfl<|At rfl<|Ae rfl (hV) Ax rfl<|At rfl<|Ae rfl (B8 hl s6) Ax rfl<|At rfl<|Ah ⟨_,AC⟩
def mdB (x:Str) (n:Nat):Blk:=.cells 43 3 [.imm (.str x),.own 4 n,.nils]
def mdB2 (x:Str) (n k:Nat):Blk:=.cells 43 3 [.imm (.str x),.own 4 n,.own 5 k]
theorem Z0 (hl:l.length<=10000) {f:Nat} (hf:f<=100000) {m:Md} (h:UX l f=some (m,b)):Tq4 171 [.ref 1 0] (GW l 0) (.ret (.imm (.agg (dMdc m))) (GW l b)):=by
 unfold UX at h;obtain ⟨s1,h⟩:=AX h
 split at h
 case isFalse=>cases h
 rename_i k1;obtain ⟨s2,h⟩:=AX h;obtain ⟨x,hx,hk,ht,_⟩:=Ee k1;rw [ht] at h;cases hr:NS l f [] 3 with
 | none=>rw [hr] at h;cases h
 | some r =>
 rw [hr] at h;simp only [Dy] at h;cases hu:TC l f [] r.2 with
 | none=>rw [hu] at h;cases h
 | some u =>
 rw [hu] at h;simp only [Dy] at h;obtain ⟨s3,h⟩:=AX h;cases h;obtain ⟨ds,c⟩:=r;obtain ⟨fs,e⟩:=u;obtain ⟨x1,x2,x3,x4⟩:=x;simp only at hu s3 ⊢;refine Ad AG func171 rfl [2,3,4,5,6,7,8]<|At rfl<|Ae rfl (B8 hl s1) Ax rfl<|At rfl<|Ae rfl (D7 hl hx hk) Ax rfl<|At rfl<|Ae rfl (B8 hl s2) Ax rfl<|At rfl<|Ef 3 4 (e:=113) (sz:=2) [.imm (.str x2),.own 4 0,.nils] (by decide) rfl ⟨.inl rfl,.inr ⟨rfl,rfl⟩,.inl rfl,trivial⟩<|Ak (λ_:Nat×List Dt×Nat=>[(0,.ref 1 0),(3,.ref 3 0),(2,.ref 2 0)]) (λz=>[(1,some (oL l z.2.2)),(2,some (.cells 43 3 [.imm (.str []),.nils,.nils])),(3,some (mdB x2 (z.2.1.map C7).length)),(4,some (.row 113 2 (z.2.1.map C7)))]) [5,6,7,8] (λz=>z.1)
  (λz=>z.1+z.2.1.length<=f/\NS l z.1 z.2.1 z.2.2=some (ds,c)) (f,[],3) ⟨by simp,hr⟩ AC Cb rfl λz hz ih=>?_
 obtain ⟨f1,d1,a1⟩:=z;obtain ⟨z1,z2⟩:=hz;simp only at z1 z2 ih;cases f1 with
 | zero=>simp [NS] at z2
 | succ f1 =>
 rw [NS] at z2;refine A3 rfl ?_;by_cases c1:AZ l a1 [116,121,112,101]=true
 ·rw [if_pos c1] at z2;cases hq:eC l f1 (a1+1) with
  | none=>rw [hq] at z2;cases z2
  | some q =>
  rw [hq] at z2;simp only [Dy] at z2;have hD:=tK hl (f:=f1) (by omega) (d:=q.1) (b:=q.2) hq;have hap:(d1++[q.1]).map C7=d1.map C7++[C7 q.1]:=by simp
  obtain ⟨⟨q1,q2⟩,qp⟩:=q;simp only at z2 hD hap;exact Ae rfl (CY hl c1) Ax rfl<|At rfl<|Al rfl λh=>A3 rfl<|Ae rfl (hD) Ax rfl<|At rfl<|B7 AG rfl ⟨by simp,by simp [maxLen];omega,by simp;omega,trivial⟩<|At rfl<|Bt 4 6 rfl<|Ac (ih (f1,d1++[⟨q1,q2⟩],qp) (CC _) ⟨by simp only [B5,Da,Cz];omega,z2⟩) AC ⟨rfl,rfl,by rw [hap];rfl,by rw [hap];rfl,trivial⟩ rfl
 rw [if_neg c1] at z2;have c1:AZ l a1 [116,121,112,101]=false:=by simpa using c1
 cases z2;clear ih;refine Ae rfl (Bi c1) Ax rfl<|At rfl<|Ag rfl λh=>Az rfl<|A3 rfl<|Ef 3 5 (e:=71) (sz:=15) [.imm (.str x2),.own 4 (ds.map C7).length,.own 5 0] (by decide) rfl ⟨.inl rfl,.inl rfl,.inr ⟨rfl,rfl⟩,trivial⟩<|Ak (λ_:Nat×List Fd×Nat=>[(0,.ref 1 0),(3,.ref 3 0),(2,.ref 2 0)]) (λz=>[(1,some (oL l z.2.2)),(2,some (.cells 43 3 [.imm (.str []),.nils,.nils])),(3,some (mdB2 x2 (ds.map C7).length (z.2.1.map CG).length)),(4,some (.row 113 2 (ds.map C7))),(5,some (.row 71 15 (z.2.1.map CG)))]) [6,7,8] (λz=>z.1)
  (λz=>z.1+z.2.1.length<=f/\TC l z.1 z.2.1 z.2.2=some (fs,e)) (f,[],c) ⟨by simp,hu⟩ AC B6 rfl λz hz ih=>?_
 clear z1;obtain ⟨f2,d1,a2⟩:=z;obtain ⟨z1,z2⟩:=hz;simp only at z1 z2 ih;cases f2 with
 | zero=>simp [TC] at z2
 | succ f2 =>
 rw [TC] at z2;refine A3 rfl ?_;by_cases c2:AZ l a2 [102,117,110]=true
 ·rw [if_pos c2] at z2;cases hq:vX l f2 (a2+1) with
  | none=>rw [hq] at z2;cases z2
  | some q =>
  rw [hq] at z2;simp only [Dy] at z2;have hD:=xI hl (f:=f2) (by omega) (d:=q.1) (b:=q.2) hq;have hap:(d1++[q.1]).map CG=d1.map CG++[CG q.1]:=by simp
  obtain ⟨⟨q1,q2,⟨g1,g2,g3,g4⟩,⟨k1,k2,k3,k4⟩,⟨t1,t2,t3,t4,t5⟩⟩,qp⟩:=q;simp only at z2 hD hap;exact Ae rfl (CY hl c2) Ax rfl<|At rfl<|Al rfl λh=>A3 rfl<|Ae rfl (hD) Ax rfl<|At rfl<|B7 AG rfl ⟨by simp,by simp [maxLen];omega,by simp;omega,trivial⟩<|At rfl<|Bt 5 7 rfl<|Ac (ih (f2,d1++[_],qp) (CC _) ⟨by simp only [B5,Da,Cz];omega,z2⟩) AC ⟨rfl,rfl,by rw [hap];rfl,rfl,by rw [hap];rfl,trivial⟩ rfl
 rw [if_neg c2] at z2;have c2:AZ l a2 [102,117,110]=false:=by simpa using c2
 cases z2;clear ih;exact Ae rfl (Bi c2) Ax rfl<|At rfl<|Ag rfl λh=>Az rfl<|BC 4 rfl<|BC 5 rfl<|A3 rfl<|Ae rfl (B8 hl s3) Ax rfl<|At rfl<|Ah ⟨_,AC⟩
theorem JE {g f:Nat} {t:Tm} (hs:s.length<=8000) (hg:g<=1000000) (ht:ID g s (Fg s 0)=some l) (hl:l.length<=10000) (hf:f<=100000) (hp:Dm l f 0=some (t,l.length)) (hc:EB t=true) :
  Tq3 111 [.str s] (.tup [.agg (dTmc t),.int .i64 0]):=by
 have hR:=dO s l hs g hg ht;have hT:=(eB hl f (by omega)).term _ _ _ hp;have hW:=ST l;have hC:=VQ t;rw [hc] at hC;obtain ⟨t1,t2,t3,t4,t5⟩:=t;exact Ad AG func111 rfl [2,1,3]<|At rfl<|Aq [1] [] [(1,1)] rfl hR trivial rfl rfl<|At rfl<|Ag rfl λh=>A3 rfl<|Ae rfl (hT) Ax rfl<|At rfl<|Ae rfl (hW) Ax rfl<|At rfl<|Ag rfl λh=>A3 rfl<|Af rfl hC<|At rfl<|Ag rfl λh=>A3 rfl<|Aa rfl rfl rfl
theorem Sg {g f:Nat} {t:Md} (hs:s.length<=8000) (hg:g<=1000000) (ht:ID g s (Fg s 0)=some l) (hl:l.length<=10000) (hf:f<=100000) (hp:UX l f=some (t,l.length)) (hc:BV t=true) :
  Tq3 110 [.str s] (.tup [.agg (dMdc t),.int .i64 0]):=by
 have hR:=dO s l hs g hg ht;have hT:=Z0 hl hf hp;have hW:=ST l;have hC:=U5 t;rw [hc] at hC;obtain ⟨t1,t2,t3⟩:=t;exact Ad AG func110 rfl [2,1,3]<|At rfl<|Aq [1] [] [(1,1)] rfl hR trivial rfl rfl<|At rfl<|Ag rfl λh=>A3 rfl<|Ae rfl (hT) Ax rfl<|At rfl<|Ae rfl (hW) Ax rfl<|At rfl<|Ag rfl λh=>A3 rfl<|Af rfl hC<|At rfl<|Ag rfl λh=>A3 rfl<|Aa rfl rfl rfl
def gJ (L:List Ty) (x:List Ty×Bool) (r:Option Sb):Prop:=x.1.length=L.length/\x.2=r.isSome/\∀σ',r=some σ'->Mr x.1=σ'
mutual
def I5:Ty->Ty->Sb->Option Sb
 | .mk f n x ps,b,σ=>if f=9 then (match σ n with | none=>some (Ea σ n b) | some v=>if Ib v b=true then some σ else none)
  else if f=Cg b/\x=cX b/\ps.length=(Ft b).length then IL ps (Ft b) σ else none
def IL:List Ty->List Ty->Sb->Option Sb
 | p::ps,q::qs,σ=>match I5 p q σ with
  | some σ'=>IL ps qs σ'
  | none=>none
 | _,_,σ=>some σ
end
mutual
def Gf:Ty->Ty->List Ty->List Ty×Bool
 | .mk f n x ps,b,l=>if f=9 then (if Cg (l.getD n.toNat Hi)=0 then (l.set n.toNat b,true) else (l,Ib (l.getD n.toNat Hi) b))
  else if f=Cg b/\x=cX b/\ps.length=(Ft b).length then Kh ps (Ft b) l else (l,false)
def Kh:List Ty->List Ty->List Ty->List Ty×Bool
 | p::ps,q::qs,l=>if (Gf p q l).2=true then Kh ps qs (Gf p q l).1 else Gf p q l
 | _,_,l=>(l,true)
end
mutual
theorem NZ:∀(a b:Ty) (l:List Ty),Ck b=true->inB l.length a->gJ l (Gf a b l) (I5 a b (Mr l))
 | .mk f n x ps,b,l,hb,ha=>by
  by_cases e9:f=9
  ·subst e9;have hn:=ha.num rfl;simp only [num] at hn;obtain ⟨v,hv⟩:=Ao (l:=l) (i:=n.toNat) (by omega);have hs:=dI hv;rw [show ((n.toNat:Nat):Int)=n by omega] at hs;have hd:l.getD n.toNat Hi=v:=by rw [ZB,hv];rfl
   rw [Gf,I5,if_pos rfl,if_pos rfl,hd,hs];by_cases h0:Cg v=0
   ·rw [if_pos h0,if_pos h0];exact ⟨by simp,rfl,λσ' h=>by cases h;exact vP hn (zaf hb)⟩
   ·rw [if_neg h0,if_neg h0];simp only;cases Ib v b with
    | true=>exact ⟨rfl,rfl,λσ' h=>by cases h;rfl⟩
    | false=>exact ⟨rfl,rfl,λσ' h=>nomatch h⟩
  ·rw [Gf,I5,if_neg e9,if_neg e9];by_cases hh:f=Cg b/\x=cX b/\ps.length=(Ft b).length
   ·rw [if_pos hh,if_pos hh];exact QQ ps (Ft b) l (E3 hb) (λp hp=>ha.part e9 hp)
   ·rw [if_neg hh,if_neg hh];exact ⟨rfl,rfl,λσ' h=>nomatch h⟩
theorem QQ:∀(ta tb:List Ty) (l:List Ty),(∀b∈tb,Ck b=true)->(∀a∈ta,inB l.length a)->gJ l (Kh ta tb l) (IL ta tb (Mr l))
 | a::ta,b::tb,l,hb,ha=>by
  obtain ⟨h1,h2,h3⟩:=NZ a b l (hb b (by simp)) (ha a (by simp));rw [Kh,IL];cases hm:I5 a b (Mr l) with
  | none =>
   rw [hm] at h2;rw [if_neg (by rw [h2];simp)];exact ⟨h1,h2,λσ' h=>nomatch h⟩
  | some σ1 =>
   rw [hm] at h2;rw [if_pos (by rw [h2];rfl)];have ih:=QQ ta tb (Gf a b l).1 (λb' hb'=>hb b' (by simp [hb'])) (λa' ha'=>by rw [h1];exact ha a' (by simp [ha']));rw [h3 σ1 hm] at ih;exact ⟨ih.1.trans h1,ih.2.1,ih.2.2⟩
 | [],[],l,_,_=>⟨rfl,rfl,λσ' h=>by cases h;rfl⟩
 | [],_::_,l,_,_=>⟨rfl,rfl,λσ' h=>by cases h;rfl⟩
 | _::_,[],l,_,_=>⟨rfl,rfl,λσ' h=>by cases h;rfl⟩
end
theorem qA:∀(a b:Ty) (l:List Ty),Ck b=true->inB l.length a->(Gf a b l).1.length=l.length:=λa b l hb ha=>(NZ a b l hb ha).1
theorem kQ (f:FuncId) (aa bb:List Ty) (hq:∀(i:Nat) a b,aa[i]?=some a->bb[i]?=some b->Tq3 f [.agg (dTyc a),.agg (dTyc b)] (.bool (Ib a b))) :
  Tq3 178 [.sl (AA aa),.sl (AA bb),.fn (.func f)] (.bool (FY aa bb)):=by
 refine B3 λhv=>?_;simp [CV,F0,maxLen] at hv;refine Ad ttY_ok func178 rfl [1,2,3,4]<|Ai rfl ?_;by_cases hl:aa.length=bb.length
 ·refine Ab rfl (λh=>by exfalso;simp at h;omega) (λh=>?_);refine As rfl<|Ak (λi:Nat=>[(17,.imm (.int .i64 i)),(16,.imm (.int .i64 aa.length)),(15,.imm (.sl (AA aa))),(1,.imm (.sl (AA bb))),(2,.imm (.fn (.func f)))]) (λ_=>[]) [1,2,3,4] (λi=>aa.length-i) (λi=>i<=aa.length/\FY aa bb=FY (aa.drop i) (bb.drop i)) 0
   ⟨AJ _,rfl⟩ ⟨rfl,BB (by simp),AC⟩ trivial rfl λi hi ih=>?_
  obtain ⟨hi1,hi2⟩:=hi;refine As rfl<|Ab rfl (λh=>?_) (λh=>?_)
  ·have hlt:i<aa.length:=by simp at h;omega
   obtain ⟨a,ha⟩:=Ao hlt;obtain ⟨b,hb⟩:=Ao (l:=bb) (i:=i) (by omega);have hga:=AE ha;have hgb:=AE hb;have hQ:=hq i a b ha hb;rw [Av ha,Av hb,FY] at hi2;generalize Ib a b=o at *;obtain ⟨a1,a2,a3,a4⟩:=a;obtain ⟨b1,b2,b3,b4⟩:=b;refine As rfl<|Sl rfl hga<|Ai rfl<|Sl rfl hgb<|Ai rfl<|Af rfl hQ<|Ai rfl ?_;cases o with
   | false =>
    rw [Bool.false_and] at hi2;exact Al rfl λh=>As rfl<|Ah ⟨_,rfl,tV (by rw [hi2]),trivial⟩
   | true =>
    rw [Jx] at hi2;exact Ag rfl λh=>As rfl<|Ac (ih (i+1) (by omega) ⟨by omega,hi2⟩) ⟨AU,Cb⟩ trivial rfl
  ·have hlt:¬i<aa.length:=by simp at h;omega
   rw [Bo (by omega),Bo (by omega)] at hi2;exact Az rfl<|As rfl<|Ah ⟨_,rfl,tV (by rw [hi2];rfl),trivial⟩
 ·refine Ab rfl (λh=>?_) (λh=>by exfalso;simp at h;omega);exact As rfl<|Ah ⟨_,rfl,tV (by rw [Ut hl]),trivial⟩
theorem Xn:∀a b:Ty,Tq3 121 [.agg (dTyc a),.agg (dTyc b)] (.bool (Ib a b))
 | .mk s n x ps,.mk s' n' x' qs=>by
  have hE:=kQ 121 ps qs λi a b ha hb=>Xn a b;simp only [Ib];generalize FY ps qs=o at *;refine Ad ttY_ok func121 rfl [1,2,3,4]<|BH rfl<|AI rfl hE<|BH rfl<|Aa rfl rfl (congrArg _ ?_);cases o <;> cases s == s' <;> cases n == n' <;> cases x == x' <;> rfl
termination_by a=>SizeOf.sizeOf a
decreasing_by
 have:=Cj (AF ha);simp_wf;omega
theorem kP (l:List Ty) (f:FuncId) (a b:List V) (q:Ty->Bool) (hq:∀t∈l,Tq3 f (a++[.agg (dTyc t)]++b) (.bool (q t))) :
  ∃i:Int,(0<=i↔l.any q=true)/\Tq3 245 [.sl (AA l),.clo (.func f) a b] (.int .i64 i):=by
 obtain ⟨i,h1,h2⟩:∃i:Int,(0<=i↔l.any q=true)/\((i = -1/\l.any q=false)\/∃(k:Nat) (t:Ty),i=k/\l[k]?=some t/\q t=true/\(l.take k).any q=false):=by
  by_cases h:l.any q=true
  ·have key:∀(n:Nat),(l.take n).any q=true->∃(k:Nat) (t:Ty),l[k]?=some t/\q t=true/\(l.take k).any q=false:=λn=>by
    induction n with
    | zero=>intro h;simp at h
    | succ n ih =>
     intro h;by_cases hn:(l.take n).any q=true
     ·exact ih hn
     ·by_cases hl:n<l.length
      ·obtain ⟨t,ht⟩:=Ao hl;rw [Bp ht,GZ] at h;simp only [QZ] at hn;rw [hn,QX] at h;exact ⟨n,t,ht,by simpa using h,hn⟩
      ·rw [Db (by omega)] at h hn;exact absurd h hn
   obtain ⟨k,t,k1,k2,k3⟩:=key l.length (by rw [Jw];exact h);exact ⟨k,⟨λ_=>h,λ_=>by omega⟩,.inr ⟨k,t,rfl,k1,k2,k3⟩⟩
  ·exact ⟨-1,⟨λh'=>by omega,λh'=>absurd h' h⟩,.inl ⟨rfl,by simpa using h⟩⟩
 refine ⟨i,h1,?_⟩;clear h1;refine B3 λhv=>?_;simp [CV,F0,maxLen] at hv;refine Ad ttY_ok func245 rfl [1,2]<|Ai rfl<|Ak (λj:Nat=>[(8,.imm (.int .i64 j)),(7,.imm (.int .i64 l.length)),(0,.imm (.sl (AA l))),(1,.imm (.clo (.func f) a b))]) (λ_=>[]) [1,2] (λj=>l.length-j) (λj=>j<=l.length/\(l.take j).any q=false) 0
  ⟨AJ _,rfl⟩ ⟨rfl,BB (by simp),AK⟩ trivial rfl λj hj ih=>?_
 obtain ⟨hj1,hj2⟩:=hj;refine As rfl<|Ab rfl (λh=>?_) (λh=>?_)
 ·have hlt:j<l.length:=by simp at h;omega
  obtain ⟨t,ht⟩:=Ao hlt;have hg:=AE ht;have hQ:=hq t (AF ht);have htk:(l.take (j+1)).any q=q t:=by rw [Bp ht,GZ,hj2];simp
  have hfound:q t=true->i=j:=λhqt=>by
   rcases h2 with ⟨_,h⟩ | ⟨k,u,rfl,k1,k2,k3⟩
   ·have:l.any q=true:=DJ.2 ⟨t,AF ht,hqt⟩;rw [this] at h;cases h
   ·congr 1;rcases Mc k j with hc | hc | hc
    ·have:(l.take j).any q=true:=DJ.2 ⟨u,DL.2 ⟨k,by rw [D6,if_pos hc];exact k1⟩,k2⟩;rw [hj2] at this;cases this
    ·exact hc
    ·have:(l.take k).any q=true:=DJ.2 ⟨t,DL.2 ⟨j,by rw [D6,if_pos hc];exact ht⟩,hqt⟩;rw [k3] at this;cases this
  generalize q t=o at *;obtain ⟨t1,t2,t3,t4⟩:=t;refine As rfl<|Sl rfl hg<|Ai rfl<|PY rfl (λ_=>hQ) (by simp)<|Ai rfl ?_;cases o with
  | true =>
   exact Al rfl λh=>As rfl<|Ah ⟨_,rfl,tV (by rw [hfound rfl]),trivial⟩
  | false =>
   exact Ag rfl λh=>As rfl<|Ac (ih (j+1) (by omega) ⟨by omega,htk⟩) ⟨AU,AC⟩ trivial rfl
 ·have hlt:¬j<l.length:=by simp at h;omega
  rw [Db (by omega)] at hj2;have hi:i = -1:=by
   rcases h2 with ⟨h,_⟩ | ⟨k,u,_,k1,k2,_⟩
   ·exact h
   ·have:l.any q=true:=DJ.2 ⟨u,AF k1,k2⟩;rw [hj2] at this;cases this
  exact Az rfl<|As rfl<|Ah ⟨_,rfl,tV (by rw [hi]),trivial⟩
theorem V1 (l:List Ty) (f:FuncId) (a b:List V) (q:Ty->Bool) (hq:∀t∈l,Tq3 f (a++[.agg (dTyc t)]++b) (.bool (q t))) :
  Tq3 174 [.sl (AA l),.clo (.func f) a b] (.bool (l.any q)):=by
 obtain ⟨i,h1,h2⟩:=kP l f a b q hq;refine Ad ttY_ok func174 rfl [1,2]<|Ai rfl<|Af rfl h2<|Ai rfl<|Aa rfl rfl (congrArg _ ?_);rw [Fq,<- h1];simp
theorem rZ (g:FuncId) (q:Ty->Bool) (t:Ty) (hq:Tq3 g [.agg (dTyc t)] (.bool (q t))):Tq3 175 [.agg (dTyc t),.ip 26 [.fn (.func g)] 0] (.bool (!q t)):=by
 generalize q t=o at *;obtain ⟨t1,t2,t3,t4⟩:=t;exact M8<|Ad ttY_ok func175 rfl [2,3,4,5]<|Ai rfl<|Af rfl hq<|Ai rfl<|Aa rfl rfl rfl
theorem wY (l:List Ty) (g:FuncId) (q:Ty->Bool) (hq:∀t∈l,Tq3 g [.agg (dTyc t)] (.bool (q t))):Tq3 112 [.sl (AA l),.fn (.func g)] (.bool (l.all q)):=by
 have hC:=V1 l 175 [] [.ip 26 [.fn (.func g)] 0] (λt=>!q t) λt ht=>rZ g q t (hq t ht);refine Ad ttY_ok func112 rfl [2,3,4,5]<|Ai rfl<|Lc rfl (λ_=>hC) rfl (by simp)<|Ai rfl<|Aa rfl rfl (congrArg _ ?_);rw [Fq];simp
theorem Vz (t:Ty):Tq3 113 [.agg (dTyc t)] (.bool (AO true t)):=by
 have hC:=VY t;unfold SI at hC;generalize AO true t=o at *;obtain ⟨t1,t2,t3,t4⟩:=t;refine Ad ttY_ok func113 rfl [2,3,4,5]<|Ai rfl<|Af rfl hC<|Ai rfl ?_;exact Ah ⟨_,rfl,tV (by cases o <;> rfl),trivial⟩
theorem FC (l:List Ty):Tq3 53 [.sl (AA l)] (.bool (l.all (AO true))):=by
 have hA:=wY l 113 (AO true) λt _=>Vz t;exact Ad ttY_ok func53 rfl [2,3,4,5]<|Ai rfl<|Af rfl hA<|Ai rfl<|Aa rfl rfl rfl
end Go.Hk
