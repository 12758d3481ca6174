/- A part more of a node, a head more; contract of has. (And what it stands on.) -/
import Derived.Test.YtegabgaflilabaaGreatWd
import Derived.Test.YtegabgaflilabaaGreatWc
set_option linter.unusedSimpArgs false
set_option linter.unusedVariables false

set_option maxRecDepth 100000
set_option maxHeartbeats 4000000
namespace Go.Hk
open Go.Proofs
def XP:TT:=mO++[
 (161,⟨.struct [(0,26),(4,122),(7,158),(8,159)],true,9,136,[.imm (.int .i64 0),.imm (.int .i64 0),.imm (.str []),.nils,.imm (.int .i64 0),.imm (.int .i64 0),.imm (.str []),.nils,.nils]⟩),
 (96,⟨.ptr 161,false,1,8,[.imm .nilp]⟩),
 (158,⟨.sl 122,false,1,24,[.nils]⟩),
 (159,⟨.sl 96,false,1,24,[.nils]⟩),
 (126,⟨.struct [(0,46),(4,4)],true,5,64,[.imm (.int .i64 0),.imm (.int .i64 0),.imm (.str []),.nils,.imm (.bool false)]⟩),
 (156,⟨.struct [(0,32),(1,122)],true,4,56,[.nils,.imm (.int .i64 0),.imm (.int .i64 0),.imm (.str [])]⟩),
 (151,⟨.ptr 156,false,1,8,[.imm .nilp]⟩),
 (197,⟨.iface,false,1,16,[.imm .niliface]⟩),
 (128,⟨.sl 197,false,1,24,[.nils]⟩),
 (139,⟨.struct [(0,69)],true,4,56,[.imm (.int .i64 0),.imm (.int .i64 0),.imm (.str []),.nils]⟩),
 (201,⟨.struct [(0,69)],true,4,56,[.imm (.int .i64 0),.imm (.int .i64 0),.imm (.str []),.nils]⟩),
 (36,⟨.struct [(0,3),(1,32),(2,33),(3,34)],true,4,80,[.imm (.int .i64 0),.nils,.nils,.nils]⟩),
 (34,⟨.sl 36,false,1,24,[.nils]⟩),
 (94,⟨.struct [(0,89),(1,3)],true,2,16,[.imm .nilp,.imm (.int .i64 0)]⟩),
 (92,⟨.ptr 94,false,1,8,[.imm .nilp]⟩),
 (108,⟨.struct [(0,26),(4,33),(5,46),(9,106)],true,10,160,[.imm (.int .i64 0),.imm (.int .i64 0),.imm (.str []),.nils,.nils,.imm (.int .i64 0),.imm (.int .i64 0),.imm (.str []),.nils,.nils]⟩),
 (106,⟨.sl 108,false,1,24,[.nils]⟩),
 (48,⟨.struct [(0,4),(1,46)],true,5,64,[.imm (.bool false),.imm (.int .i64 0),.imm (.int .i64 0),.imm (.str []),.nils]⟩),
 (259,⟨.func,false,1,8,[.imm .nilfn]⟩)]
theorem Al:TTok Tryz.prog XP:=.of_eq (l:=[4,3,9,165,26,69,162,27,5,24,23,172,163,67,167,171,75,22,169,72,70,37,46,44,33,29,53,87,150,122,207,147,148,32,89,99,232,190,137,161,96,158,159,126,156,151,197,128,139,201,36,34,94,92,108,106,48,259]) (by kernel_rfl)
section
variable {n:Nat} {F:List Nat} {Q:DQ} {env env':Env} {st st':St} {ids ids':List Nat} {k todo:List DI} {ob:List Prop}
theorem md (path:List Pt) (h:run XP n 300 path todo env st ids [] = .at k env' st' ids' ob) (hob:AA ob) (hd:G Tryz.prog n F Q k env' st' ids'):DGo Tryz.prog n F Q todo env st ids:=Lv Al EV 300 path h hob hd
theorem Aq (h:run XP n 300 [] todo env st ids [] = .at k env' st' ids' ob) (hd:G Tryz.prog n F Q k env' st' ids') (hob:AA ob:=by simp):DGo Tryz.prog n F Q todo env st ids:=md [] h hob hd
theorem mdqc (h:run XP n 300 [] todo env st ids [] = .at k env' st' ids' ob) (hd:G Tryz.prog n F Q k env' st' ids') (hob:AA ob:=by simp [An]):DGo Tryz.prog n F Q todo env st ids:=md [] h hob hd
theorem mg (path:List Pt) (h:run XP n 300 path todo env st ids [] = .at k env' st' ids' ob) (hob:AA ob) (hd:G Tryz.prog n F Q k env' st' ids'):G Tryz.prog n F Q todo env st ids:=Ks Al EV 300 path h hob hd
theorem Ao (h:run XP n 300 [] todo env st ids [] = .at k env' st' ids' ob) (hd:G Tryz.prog n F Q k env' st' ids') (hob:AA ob:=by simp):G Tryz.prog n F Q todo env st ids:=mg [] h hob hd
theorem Dm (h:run XP n 300 [] todo env st ids [] = .at k env' st' ids' ob) (hd:G Tryz.prog n F Q k env' st' ids') (hob:AA ob:=by simp [An]):G Tryz.prog n F Q todo env st ids:=mg [] h hob hd
theorem nH (f:Nat) (h:run XP n f [] todo env st ids [] = .at k env' st' ids' ob) (hob:AA ob) (hd:G Tryz.prog n F Q k env' st' ids'):DGo Tryz.prog n F Q todo env st ids:=Lv Al EV f [] h hob hd
theorem rR (f:Nat) (h:run XP n f [] todo env st ids [] = .at k env' st' ids' ob) (hob:AA ob) (hd:G Tryz.prog n F Q k env' st' ids'):G Tryz.prog n F Q todo env st ids:=Ks Al EV f [] h hob hd
theorem mi {es:List (List V)} {m:Int} {sz:Nat} {e:TypeId} {g:Option (Bool×Bool)} {ob:List Prop} {t:Nat} {todo':List DI} {c:List V} (h:P7 XP n env todo=some ⟨es,m,sz,e,g,ob,some t,todo'⟩)
  (hc:An g->0<=m/\es[m.toNat]?=some c/\c.length=sz) (hob:AA ob) (hk:G Tryz.prog n F Q todo' ((t,gD g (.ip e c 0))::env) st ids):G Tryz.prog n F Q todo env st ids:=Gg Al h hc hob hk
end
def AI:Ty->Int
 | .mk f _ _ _=>f
def CH:Ty->Str
 | .mk _ _ x _=>x
def zT:Ty:=.mk 0 0 [] []
inductive Mi where
 | mk (ty:Ty) (nt:List Ty) (hd:Ty) (ks:List Mi)
def Mi.ty:Mi->Ty
 | .mk t _ _ _=>t
def Mi.nt:Mi->List Ty
 | .mk _ n _ _=>n
def Mi.hd:Mi->Ty
 | .mk _ _ h _=>h
def Mi.ks:Mi->List Mi
 | .mk _ _ _ k=>k
def As (t:Ty):Mi:=.mk t [] zT []
def AB (ds:List Dt):Ty->List Ty
 | .mk so _ x _=>if so=2 then [.mk 2 0 [] [],.mk 2 1 [] []] else if so=3 then [.mk 3 0 [] []] else if so=8 then (match ds[(Bf x 0 ds).toNat]? with
  | some d=>d.cons.map λc=>.mk 4 0 c.name []
  | none=>[]) else []
def BL (l:List Ty) (h:Ty):Bool:=l.any λx=>AD x h
def Bm (ds:List Dt) (m:Mi) (h:Ty):Mi:=.mk m.ty [] h ((AW ds m.ty (CH h)).1.map As)
def HV (ds:List Dt) (m:Mi):List Ty:=(AB ds m.ty).filter λh=>!BL m.nt h
def Ac (ds:List Dt) (m:Mi):Mi:=if AI m.hd≠0 then m else match HV ds m with
 | [h]=>Bm ds m h
 | _=>m
def A0 (ds:List Dt):Mi->List Int->Ty->Bool->Mi
 | m,[],h,true=>Bm ds m h
 | m,[],h,false=>.mk m.ty (m.nt++[h]) m.hd m.ks
 | m,i::p,h,is=>match (Ac ds m).ks[i.toNat]? with
  | some k=>.mk (Ac ds m).ty (Ac ds m).nt (Ac ds m).hd ((Ac ds m).ks.set i.toNat (A0 ds k p h is))
  | none=>m
mutual
def Ar (ds:List Dt):Ty->Mi->Int×List Int×Ty
 | .mk f n x ps,m=>if f=1\/f=2 then (1,[],zT) else
  if AI (Ac ds m).hd=0/\BL (Ac ds m).nt (AQ (.mk f n x ps))=false then (2,[],AQ (.mk f n x ps)) else
  if AI (Ac ds m).hd=0\/AD (Ac ds m).hd (AQ (.mk f n x ps))=false then (0,[],zT) else AL ds 0 ps (Ac ds m).ks
def AL (ds:List Dt):Int->List Ty->List Mi->Int×List Int×Ty
 | _,[],_=>(1,[],zT)
 | _,_::_,[]=>(1,[],zT)
 | i,p::r,k::ks=>if (Ar ds p k).1=1 then AL ds (i+1) r ks else ((Ar ds p k).1,i::(Ar ds p k).2.1,(Ar ds p k).2.2)
end
def Kf (nt:List Ty):Nat->Int->Ty
 | 0,i=>.mk 1 i [] []
 | f+1,i=>if BL nt (.mk 1 i [] [])=false then .mk 1 i [] [] else if BL nt (.mk 1 (0-i) [] [])=false then .mk 1 (0-i) [] [] else Kf nt f (i+1)
def Dy (nt:List Ty):Ty:=Kf nt nt.length 0
def Be (ds:List Dt) (m:Mi) (h:Ty):Int:=if AI h=4 then Bc ds (Dd ds) 1 (AW ds m.ty (CH h)).1 else 1
def Gj:Option (Ty×Int)->Int->Bool
 | none,_=>true
 | some p,n=>decide (n<p.2)
def DE (ds:List Dt) (m:Mi):Option (Ty×Int)->List Ty->Option (Ty×Int)
 | b,[]=>b
 | b,h::r=>DE ds m (if 0<Be ds m h/\BL m.nt h=false/\Gj b (Be ds m h)=true then some (h,Be ds m h) else b) r
def AM (ds:List Dt) (m:Mi):Option Ty:=(DE ds m none (AB ds m.ty)).map (·.1)
def Bu (g:Mi->Option (Option Ty)):List Mi->Option (Option (List Ty))
 | []=>some (some [])
 | k::r=>match g k with
  | none=>none
  | some none=>some none
  | some (some v)=>match Bu g r with
   | none=>none
   | some none=>some none
   | some (some vs)=>some (some (v::vs))
def CD:Ty->List Ty->Ty
 | .mk a b c _,l=>.mk a b c l
def AO (ds:List Dt):Nat->Mi->Option (Option Ty)
 | 0,_=>none
 | f+1,m=>if AI m.hd=0 then
   (if AI m.ty=1 then some (some (Dy m.nt)) else
   if AI m.ty=4\/AI m.ty=5\/AI m.ty=6\/AI m.ty=7 then some (some (.mk 5 0 [] [])) else
   match AM ds m with
   | none=>some none
   | some h=>(Bu (AO ds f) (Bm ds m h).ks).map (·.map (CD h)))
  else (Bu (AO ds f) m.ks).map (·.map (CD m.hd))
def DC (n:Int):Int:=if 0<n then 2*n-1 else -2*n
mutual
def Cg (ds:List Dt):Ty->Ty->Int
 | .mk f n x ps,.mk _ n' x' ps'=>if f=1 then DC n-DC n' else if f=2 then n-n' else if f=4 then (if (Ck ds x).2-(Ck ds x').2≠0 then (Ck ds x).2-(Ck ds x').2 else BY ds ps ps') else 0
def BY (ds:List Dt):List Ty->List Ty->Int
 | [],_=>0
 | _::_,[]=>0
 | p::r,q::s=>if Cg ds p q≠0 then Cg ds p q else BY ds r s
end
def Cv (ds:List Dt) (a b:Ty):Bool:=if Aj a=Aj b then decide (Cg ds a b<0) else decide (Aj a<Aj b)
def HI (ds:List Dt):Option Ty->Option Ty->Option Ty
 | none,b=>b
 | some a,none=>some a
 | some a,some b=>if Cv ds b a then some b else some a
def jO (ds:List Dt) (m:Mi):Option (Option Ty):=AO ds 1000 m
def OB (ds:List Dt):Option (Option Ty)->Option (Option Ty)->Option (Option Ty)
 | some a,some b=>some (HI ds a b)
 | _,_=>none
def C3 (ds:List Dt):Nat->Mi->List (Ty×Int)->Option (Option Ty)
 | 0,_,_=>none
 | _+1,m,[]=>jO ds m
 | f+1,m,(p,b)::r=>if (Ar ds p m).1=2 then OB ds (C3 ds f (A0 ds m (Ar ds p m).2.1 (Ar ds p m).2.2 true) ((p,b)::r)) (C3 ds f (A0 ds m (Ar ds p m).2.1 (Ar ds p m).2.2 false) ((p,b)::r)) else
  if (Ar ds p m).1=b then C3 ds f m r else some none
end Go.Hk
namespace Go.Hk
section
variable {P:Program} {n:Nat} {F:List Nat} {Q:DQ} {tt:TT} {env env':Env} {st st':St} {ids ids':List Nat} {todo:List DI}
end
end Go.Hk
namespace Go.Hk
section
variable {P:Program} {n:Nat} {F:List Nat} {Q:DQ} {tt:TT} {env env':Env} {st st':St} {ids ids':List Nat} {todo:List DI} {d:D} {ob:List Prop}
end
end Go.Hk
namespace Go.Hk
mutual
def unn:V->V
 | .nilsl=>.sl []
 | .agg xs=>.agg (L5 xs)
 | .tup xs=>.tup (L5 xs)
 | .sl es=>.sl (SS es)
 | .ip t cs off=>.ip t (L5 cs) off
 | .iface t x=>.iface t (unn x)
 | x=>x
def L5:List V->List V
 | []=>[]
 | x::r=>unn x::L5 r
def SS:List (List V)->List (List V)
 | []=>[]
 | x::r=>L5 x::SS r
end
theorem HD:∀l:List V,L5 l=l.map unn
 | []=>rfl
 | x::r=>by simp [L5,HD r]
theorem Qp:∀l:List (List V),SS l=l.map L5
 | []=>rfl
 | x::r=>by simp [SS,Qp r]
theorem RepV.unn {I:Imm} {v:Value} {x:V} (h:RepV I v x):RepV I v (unn x):=by
 have gL:∀{xs:List V} {i:Nat} {y:V},(L5 xs)[i]?=some y->∃z,xs[i]?=some z/\y=Go.Hk.unn z:=by
  intro xs i y hy;rw [HD,List.getElem?_map] at hy;cases hz:xs[i]? with
  | none=>rw [hz] at hy;cases hy
  | some z=>rw [hz] at hy;cases hy;exact ⟨z,rfl,rfl⟩
 have gLL:∀{es:List (List V)} {i:Nat} {e:List V},(SS es)[i]?=some e->∃z,es[i]?=some z/\e=L5 z:=by
  intro es i y hy;rw [Qp,List.getElem?_map] at hy;cases hz:es[i]? with
  | none=>rw [hz] at hy;cases hy
  | some z=>rw [hz] at hy;cases hy;exact ⟨z,rfl,rfl⟩
 induction h with
 | agg cs xs hl h1 _ ih=>exact .agg cs _ (by rw [HD,List.length_map,hl]) h1 λi c y hc hy=>by obtain ⟨z,hz,rfl⟩:=gL hy;exact ih i c z hc hz
 | tup cs xs hl _ ih=>exact .tup cs _ (by rw [HD,List.length_map,hl]) λi c y hc hy=>by obtain ⟨z,hz,rfl⟩:=gL hy;exact ih i c z hc hz
 | slnil=>exact .slnil
 | sl0 a=>exact .sl0 a
 | nilsl=>exact .slnil
 | sl b o len cap sz es vs hl hc hm hsz hcell _ ih =>
  refine .sl b o len cap sz _ vs (by rw [Qp,List.length_map,hl]) hc hm (λe he=>?_) (λi e j x hi hj=>?_) (λi e j x hi hj=>?_)
  ·obtain ⟨i,hi⟩:=List.getElem?_of_mem he;obtain ⟨z,hz,rfl⟩:=gLL hi;rw [HD,List.length_map];exact hsz z (List.mem_of_getElem? hz)
  ·obtain ⟨z,hz,rfl⟩:=gLL hi;obtain ⟨y,hy,rfl⟩:=gL hj;exact hcell i z j y hz hy
  ·obtain ⟨z,hz,rfl⟩:=gLL hi;obtain ⟨y,hy,rfl⟩:=gL hj;exact ih i z j y hz hy
 | iface t v x _ ih=>exact .iface t v _ ih
 | ip b o t cs off vs hcell _ ih =>
  refine .ip b o t _ off vs (λj y hj=>?_) (λj y hj=>?_)
  ·obtain ⟨z,hz,rfl⟩:=gL hj;exact hcell j z hz
  ·obtain ⟨z,hz,rfl⟩:=gL hj;exact ih j z hz
 | bool b=>exact .bool b
 | int k n=>exact .int k n
 | str s l hs=>exact .str s l hs
 | niliface=>exact .niliface
 | nilp=>exact .nilp
 | nilmap=>exact .nilmap
 | nilfn=>exact .nilfn
 | fn f=>exact .fn f
 | mapv b es clock kv hI hl hs h1 h2 _ _=>exact .mapv b es clock kv hI hl hs h1 h2
 | clo f first cap xs ys hf hc h1 h2 _ _=>exact .clo f first cap xs ys hf hc h1 h2
def rN:List D->List D->Prop
 | [],[]=>True
 | d::r,d'::r'=>(d=d'\/(d = .nils/\d' = .imm .nilsl))/\rN r r'
 | _,_=>False
theorem QT:∀{ds ds':List D},rN ds ds'->ds.length=ds'.length/\∀(i:Nat) (d':D),ds'[i]?=some d'->∃d,ds[i]?=some d/\(d=d'\/(d = .nils/\d' = .imm .nilsl))
 | [],[],_=>⟨rfl,λi d h=>by simp at h⟩
 | d::r,d'::r',h=>by
  obtain ⟨h1,h2⟩:=QT h.2;refine ⟨by simp [h1],λi x hx=>?_⟩;cases i with
  | zero=>simp at hx;subst hx;exact ⟨d,rfl,h.1⟩
  | succ i=>exact h2 i x (by simpa using hx)
 | [],_::_,h=>h.elim
 | _::_,[],h=>h.elim
theorem nC {I:Imm} {μ:Mu} {vs:List Value} {ds ds':List D} (h:rN ds ds') (hr:RepL I μ vs ds):RepL I μ vs ds':=by
 obtain ⟨h1,h2⟩:=QT h;refine ⟨by rw [hr.1,h1],λi v y hv hy=>?_⟩;obtain ⟨d,k1,k2⟩:=h2 i y hy;have:=hr.2 i v d hv k1;rcases k2 with rfl | ⟨rfl,rfl⟩
 ·exact this
 ·cases this;exact .imm _ _ .nilsl
section
variable {P:Program} {n:Nat} {F:List Nat} {Q:DQ} {tt:TT} {env env':Env} {st st':St} {ids ids':List Nat} {todo:List DI}
theorem kY (k:Nat) {t:TypeId} {sz:Nat} {ds:List D} (ds':List D) (hk:lk st k=some (some (.cells t sz ds))) (hcl:rN ds ds') (h:DGo P n F Q todo env ((k,some (.cells t sz ds'))::st) ids):DGo P n F Q todo env st ids:=by
 refine DS λI μ a w hc=>?_;obtain ⟨p1,p2⟩:=hc.toStRep.retell (st1:=(k,some (.cells t sz ds'))::st) (λi bb hlb=>by
  rcases A7.1 hlb with ⟨rfl,rfl⟩ | ⟨_,h2⟩
  ·refine ⟨_,hk,λgb hb=>?_⟩;obtain ⟨hs,b,us,e1,e2,e3,e4⟩:=hb;exact ⟨by rw [<- (QT hcl).1,hs],b,us,e1,e2,nC hcl e3,e4⟩
  ·exact ⟨bb,h2,λ_ h=>h⟩)
 exact ⟨I,μ,env,_,ids,p1,hc.env,p2,.refl _ _,h⟩
def sR (j:Nat):List D->List D->Prop
 | [],[]=>True
 | d::r,d'::r'=>(d=d'\/(d = .imm .nilsl/\d' = .own j 0))/\sR j r r'
 | _,_=>False
theorem Wp {j:Nat}:∀{ds ds':List D},sR j ds ds'->ds.length=ds'.length/\∀(i:Nat) (d':D),ds'[i]?=some d'->∃d,ds[i]?=some d/\(d=d'\/(d = .imm .nilsl/\d' = .own j 0))
 | [],[],_=>⟨rfl,λi d h=>by simp at h⟩
 | d::r,d'::r',h=>by
  obtain ⟨h1,h2⟩:=Wp h.2;refine ⟨by simp [h1],λi x hx=>?_⟩;cases i with
  | zero=>simp at hx;subst hx;exact ⟨d,rfl,h.1⟩
  | succ i=>exact h2 i x (by simpa using hx)
 | [],_::_,h=>h.elim
 | _::_,[],h=>h.elim
theorem Xi (k j:Nat) {e t:TypeId} {sz sz':Nat} {xs:List V} (ds':List D) (hsz:0<sz) (hk:lk st k=some (some (.immb t sz' xs))) (hcl:sR j (xs.map .imm) ds')
  (h:DGo P n F Q todo env ((k,some (.cells t sz' ds'))::(j,some (.row e sz []))::st) ids'):DGo P n F Q todo env st (j::ids'):=by
 refine DS λI μ a w hc=>?_;obtain ⟨gk,hgk,_⟩:=hc.blk k _ hk;have hjk:j≠k:=λe=>by rw [<- e,hc.idsFree j (by simp)] at hgk;cases hgk
 obtain ⟨q1,q2,q3⟩:=StRep.relay (R:=[]) (new:=[(j,.slice none 0 0,.row e sz [])]) (ids':=ids') hc.toStRep
  (λp hp b hb=>by rw [List.mem_singleton.1 hp] at hb;exact hb.elim)
  (λp hp q hq b _ _=>by rw [List.mem_singleton.1 hp,List.mem_singleton.1 hq]) (Imm.le_refl I) hc.imm (λb o h=>.inl h)
  (λ_ p hp=>by rw [List.mem_singleton.1 hp];exact ⟨[],World.ownsRow_nil w 0 e sz,.nil,by simp,by simp,hsz⟩)
 have hmj:Fj [(j,Value.slice none 0 0,Blk.row e sz [])] μ j=some (.slice none 0 0):=by simp [Fj,lk]
 have hk2:At ((j,some (.row e sz []))::st) k (.immb t sz' xs):=A7.2 (.inr ⟨hjk.symm,hk⟩);obtain ⟨c1,c2⟩:=Wp hcl;obtain ⟨p1,p2⟩:=q2.retell (st1:=(k,some (.cells t sz' ds'))::(j,some (.row e sz []))::st) (λi bb hlb=>by
  rcases A7.1 hlb with ⟨rfl,rfl⟩ | ⟨_,h2⟩
  ·refine ⟨_,hk2,λgb hb=>?_⟩;obtain ⟨hs,b,us,e1,e2,e3,e4⟩:=hb;refine ⟨by rw [<- c1,List.length_map,hs],b,us,e1,e2,⟨by rw [<- c1,List.length_map,e3.1],λi v y hv hy=>?_⟩,e4⟩;obtain ⟨d,y1,y2⟩:=c2 i y hy;rw [List.getElem?_map] at y1;cases hx:xs[i]? with
   | none=>rw [hx] at y1;cases y1
   | some x =>
    rw [hx] at y1;have hr:=e3.2 i v x hv hx;have y1:D.imm x=d:=by simpa using y1
    rcases y2 with rfl | ⟨rfl,rfl⟩
    ·rw [<- y1];exact .imm _ _ hr
    ·cases y1;cases hr;exact .own j 0 none 0 hmj
  ·exact ⟨bb,h2,λ_ h=>h⟩)
 exact ⟨I,_,env,_,ids',p1,λt d hd=>(hc.env t d hd).mono (Imm.le_refl I) q1,q3.trans p2,.of_le q1,h⟩
end
end Go.Hk
namespace Go.Hk
section
variable {P:Program} {n:Nat} {F:List Nat} {Q:DQ} {tt:TT} {env env':Env} {st st':St} {ids ids':List Nat} {todo todo':List DI} {I:Imm} {μ:Mu}
theorem fS {I:Imm} {vs:List Value} {xs:List V} (h:RepVL I vs xs):RepVL I vs (L5 xs):=by
 refine ⟨by rw [h.1];simp [HD],λi v x hv hx=>?_⟩;rw [HD,List.getElem?_map] at hx;cases hz:xs[i]? with
 | none=>rw [hz] at hx;cases hx
 | some z=>rw [hz] at hx;cases hx;exact (h.2 i v z hv hz).unn
theorem kW (k:Nat) {t:TypeId} {sz:Nat} {xs:List V} (xs':List V) (hk:lk st k=some (some (.immb t sz xs))) (hcl:L5 xs=xs') (h:DGo P n F Q todo env ((k,some (.immb t sz xs'))::st) ids):DGo P n F Q todo env st ids:=by
 subst hcl;refine DS λI μ a w hc=>?_;obtain ⟨p1,p2⟩:=hc.toStRep.retell (st1:=(k,some (.immb t sz (L5 xs)))::st) (λi bb hlb=>by
  rcases A7.1 hlb with ⟨rfl,rfl⟩ | ⟨_,h2⟩
  ·refine ⟨_,hk,λgb hb=>?_⟩;obtain ⟨hs,b,us,e1,e2,e3,e4⟩:=hb;exact ⟨by rw [<- hs];simp [HD],b,us,e1,e2,fS e3,e4⟩
  ·exact ⟨bb,h2,λ_ h=>h⟩)
 exact ⟨I,μ,env,_,ids,p1,hc.env,p2,.refl _ _,h⟩
end
end Go.Hk
namespace Go.Hk
open Go.Proofs
def S9:Ty->List V
 | .mk f n x _=>[.int .i64 f,.int .i64 n,.str x,if f=0 then .sl [] else .nilsl]
def JG (l:List Ty):List (List V):=l.map S9
@[simp] theorem dHds_length (l:List Ty):(JG l).length=l.length:=by simp [JG]
@[simp] theorem dHd_length (h:Ty):(S9 h).length=4:=by obtain ⟨a,b,c,d⟩:=h;rfl
theorem pS (a b:List Ty):JG (a++b)=JG a++JG b:=by simp [JG]
def Et:Ty->Ty
 | .mk f n x _=>.mk f n x []
theorem fR (h:Ty):L5 (S9 h)=dTyc (Et h):=by
 obtain ⟨f,n,x,ps⟩:=h;by_cases e:f=0 <;> simp [S9,e,L5,unn,Et,dTyc,BQ,SS]
def Le (c:Cd):Ty:=.mk 4 0 c.name []
mutual
def dMi:Mi->List V
 | .mk ty nt hd ks=>dTyc ty++[.sl (JG nt)]++S9 hd++[.sl (Xr ks)]
def Xr:List Mi->List (List V)
 | []=>[]
 | k::r=>dMi k::Xr r
end
theorem Vf:∀l:List Mi,Xr l=l.map dMi
 | []=>rfl
 | k::r=>by simp [Xr,Vf r]
@[simp] theorem dMis_length (l:List Mi):(Xr l).length=l.length:=by rw [Vf];simp
@[simp] theorem dMi_length (m:Mi):(dMi m).length=10:=by obtain ⟨⟨a,b,c,d⟩,nt,⟨e,f,g,h⟩,ks⟩:=m;rfl
theorem pR (a b:List Mi):Xr (a++b)=Xr a++Xr b:=by simp [Vf]
def Qz (t:Ty):Bool:=decide (1<=AI t/\AI t<=8)
theorem Qy {b:Bool} {t:Ty} (h:Ce b t=true) (h9:b=true->AI t≠9):Qz t=true:=by
 obtain ⟨s,n,x,ps⟩:=t;simp only [Ce,CW,Bool.and_eq_true] at h;have key:=h.2.1;clear h;refine decide_eq_true ?_;simp only [AI] at *;unfold Cl at key
 split at key
 ·omega
 ·split at key
  ·omega
  ·split at key
   ·omega
   ·split at key
    ·omega
    ·split at key
     ·rename_i e;cases b with
      | false=>simp at key
      | true=>exact absurd e (h9 rfl)
     ·cases key
structure OkW (ds:List Dt):Prop where
 okd:OkD ds
 dif:B1 (Cp ds)=true
 ndif:B1 (CJ ds)=true
 d4:ds.length<=4
 lim:∀d∈ds,d.cons.length<=5/\∀c∈d.cons,c.args.length<=3
 srt:∀d∈ds,∀c∈d.cons,∀t∈c.args,Qz t=true
theorem OkW.of {c:Cse} (h:Bt c=true):OkW c.datas:=by
 simp only [Bt,JC,Bool.and_eq_true] at h;obtain ⟨h1,h2,h3,h4⟩:=JV h.1.1.1.1;exact ⟨OkD.of2 h.1.1.1.1,h3,h2,(Fl h1).1,(Fl h1).2,λd hd k hk t ht=>by
  simp only [HQ,Bool.and_eq_true,List.all_eq_true] at h1;have hd:=h1.1.2 d hd;simp only [Fw,Bool.and_eq_true,List.all_eq_true] at hd;have hk:=hd.2 k hk;simp only [K1,Bool.and_eq_true,List.all_eq_true] at hk;exact Qy (hk.2 t ht) (λh=>by cases h)⟩
theorem OkW.typ {c:Cse} (h:Bt c=true):Qz c.type=true:=by
 simp only [Bt,JC,Bool.and_eq_true] at h;have h1:=h.1.1.2;have h2:=h.2.1;refine Qy h1 λ_ e=>?_;obtain ⟨ds,⟨s,n,x,ps⟩,rows⟩:=c;simp only [AI] at e;subst e;simp [Eu,Kn] at h2
theorem RQ {ds:List Dt} (ho:OkW ds) (t:Ty) (s:Str):(BO ds t s).1.args.length<=3:=by
 by_cases h:0<=(BO ds t s).2
 ·obtain ⟨d,h1,h2⟩:=RP h;exact (ho.lim d h1).2 _ h2
 ·have hz:∀(l:List Cd) (i:Nat),¬0<=(Dn s i l).2->(Dn s i l).1=oS:=by
   intro l
   induction l with
   | nil=>intro i _;rfl
   | cons c r ih =>
    intro i hh;simp only [Dn] at hh ⊢
    split
    ·rename_i e;rw [if_pos e] at hh;exact absurd (by simp) hh
    ·rename_i e;rw [if_neg e] at hh;exact ih _ hh
  obtain ⟨so,n,x,ps⟩:=t;simp only [BO] at h ⊢
  split
  ·rename_i e;rw [if_pos e] at h
   split
   ·rename_i d hd;simp only [hd] at h;rw [hz _ _ h];simp [oS]
   ·simp [oS]
  ·simp [oS]
theorem EY {ds:List Dt} (ho:OkW ds) (t:Ty) (s:Str):(AW ds t s).1.length<=3:=by
 have:=RQ ho t s;unfold AW;cases decide (0<=(BO ds t s).2)
 ·simp
 ·simpa using this
theorem Rx {ds:List Dt} (ho:OkW ds) (t:Ty):(AB ds t).length<=5:=by
 obtain ⟨so,n,x,ps⟩:=t;simp only [AB]
 split
 ·simp
 ·split
  ·simp
  ·split
   ·split
    ·rename_i d hd;simpa using (ho.lim d (List.mem_of_getElem? hd)).1
    ·simp
   ·simp
mutual
def G0 (ds:List Dt) (N:Nat):Mi->Bool
 | .mk ty nt hd ks=>(AK ds ty&&Qz ty)&&decide (ks.length<=3)&&decide (nt.length<=N)&&(Br hd).isEmpty&&XS ds N ks
def XS (ds:List Dt) (N:Nat):List Mi->Bool
 | []=>true
 | k::r=>G0 ds N k&&XS ds N r
end
theorem V4 (ds:List Dt) (N:Nat):∀l:List Mi,XS ds N l=l.all (G0 ds N)
 | []=>rfl
 | k::r=>by simp [XS,V4 ds N r]
theorem Bb {ds:List Dt} {N:Nat} {m:Mi}:G0 ds N m=true↔(AK ds m.ty=true/\m.ks.length<=3/\m.nt.length<=N)/\(Br m.hd=[]/\Qz m.ty=true)/\∀k∈m.ks,G0 ds N k=true:=by
 obtain ⟨ty,nt,hd,ks⟩:=m;simp only [G0,Bool.and_eq_true,decide_eq_true_eq,V4,List.all_eq_true,Mi.ty,Mi.ks,Mi.nt,Mi.hd,List.isEmpty_iff];constructor
 ·rintro ⟨⟨⟨⟨⟨a,s⟩,b⟩,c⟩,e⟩,d⟩;exact ⟨⟨a,b,c⟩,⟨e,s⟩,d⟩
 ·rintro ⟨⟨a,b,c⟩,⟨e,s⟩,d⟩;exact ⟨⟨⟨⟨⟨a,s⟩,b⟩,c⟩,e⟩,d⟩
theorem H7 {ds:List Dt} (ho:OkW ds) {t:Ty} {s:Str}:∀a∈(AW ds t s).1,Qz a=true:=by
 intro a ha;unfold AW at ha;by_cases h:0<=(BO ds t s).2
 ·obtain ⟨d,h1,h2⟩:=RP h;simp only [h,decide_true,if_true] at ha;exact ho.srt d h1 _ h2 a (by simpa using ha)
 ·simp [h] at ha
theorem V3 {ds:List Dt} {N:Nat} {t:Ty} (h:AK ds t=true) (hs:Qz t=true):G0 ds N (As t)=true:=Bb.2 ⟨⟨h,by simp [As,Mi.ks],by simp [As,Mi.nt]⟩,⟨rfl,hs⟩,λk hk=>by simp [As,Mi.ks] at hk⟩
theorem Ml {ds:List Dt} (ho:OkW ds) {N:Nat} {m:Mi} {h:Ty} (hm:AK ds m.ty=true) (hs:Qz m.ty=true) (hp:Br h=[]):G0 ds N (Bm ds m h)=true:=by
 have ha:=Co ho.okd (t:=m.ty) (s:=CH h);refine Bb.2 ⟨⟨hm,by simpa [Bm,Mi.ks] using EY ho m.ty (CH h),by simp [Bm,Mi.nt]⟩,⟨hp,hs⟩,λk hk=>?_⟩;simp only [Bm,Mi.ks,List.mem_map] at hk;obtain ⟨t,ht,rfl⟩:=hk;rw [CM,List.all_eq_true] at ha;exact V3 (ha t ht) (H7 ho t ht)
theorem B4 {ds:List Dt} {t h:Ty} (hh:h∈AB ds t):Br h=[]/\AI h≠0:=by
 obtain ⟨so,n,x,ps⟩:=t;simp only [AB] at hh
 split at hh
 ·rcases List.mem_cons.1 hh with rfl | hh
  ·exact ⟨rfl,by simp [AI]⟩
  ·rw [List.mem_singleton.1 hh];exact ⟨rfl,by simp [AI]⟩
 ·split at hh
  ·rw [List.mem_singleton.1 hh];exact ⟨rfl,by simp [AI]⟩
  ·split at hh
   ·split at hh
    ·obtain ⟨c,_,rfl⟩:=List.mem_map.1 hh;exact ⟨rfl,by simp [AI]⟩
    ·cases hh
   ·cases hh
theorem DG {ds:List Dt} {m:Mi} {h:Ty} (hh:HV ds m=[h]):h∈AB ds m.ty/\BL m.nt h=false:=by
 have:h∈HV ds m:=by rw [hh];simp
 simp only [HV,List.mem_filter] at this;simpa using this
theorem C9 {ds:List Dt} (ho:OkW ds) {N:Nat} {m:Mi} (hm:G0 ds N m=true):G0 ds N (Ac ds m)=true:=by
 unfold Ac
 split
 ·exact hm
 ·split
  ·rename_i h hh;exact Ml ho (Bb.1 hm).1.1 (Bb.1 hm).2.1.2 (B4 (DG hh).1).1
  ·exact hm
theorem Df (ds:List Dt) (m:Mi):(Ac ds m).ty=m.ty:=by
 unfold Ac
 split
 ·rfl
 ·split <;> rfl
theorem fI {ds:List Dt} {N:Nat} {m k:Mi} {i:Nat} (hm:G0 ds N m=true) (hk:m.ks[i]?=some k):G0 ds N k=true:=(Bb.1 hm).2.2 k (List.mem_of_getElem? hk)
def EG (ds:List Dt):Mi->List Int->Prop
 | _,[]=>True
 | m,i::p=>0<=i/\∃k,(Ac ds m).ks[i.toNat]?=some k/\EG ds k p
mutual
def nV (ds:List Dt):Ty->Mi->Bool
 | .mk f n x ps,m=>decide (f=1)||decide (f=2)||decide (AI (Ac ds m).hd=0) || !AD (Ac ds m).hd (AQ (.mk f n x ps))||(decide (ps.length<=(Ac ds m).ks.length)&&Uc ds ps (Ac ds m).ks)
def Uc (ds:List Dt):List Ty->List Mi->Bool
 | [],_=>true
 | _::_,[]=>true
 | p::r,k::s=>nV ds p k&&Uc ds r s
end
mutual
theorem IC (ds:List Dt):∀(p:Ty) (m:Mi),(Ar ds p m).2.1.length<=Aj p
 | .mk f n x ps,m=>by
  simp only [Ar,Aj];have:=TF ds ps (Ac ds m).ks 0
  split
  ·simp
  ·split
   ·simp
   ·split
    ·simp
    ·omega
theorem TF (ds:List Dt):∀(ps:List Ty) (ks:List Mi) (i:Int),(AL ds i ps ks).2.1.length<=1+Ag ps
 | [],_,_=>by simp [AL]
 | _::_,[],_=>by simp [AL]
 | p::r,k::ks,i=>by
  have h1:=IC ds p k;have h2:=TF ds r ks (i+1);have h3:1<=Aj p:=by obtain ⟨a,b,c,d⟩:=p;simp only [Aj];omega
  simp only [AL,Ag]
  split
  ·omega
  ·simp only [List.length_cons];omega
end
theorem Y3 {ds:List Dt} {ps:List Ty} {ks:List Mi} {i:Nat} {p:Ty} {k:Mi} (hp:ps[i]?=some p) (hk:ks[i]?=some k) :
  AL ds i (ps.drop i) (ks.drop i)=if (Ar ds p k).1=1 then AL ds ((i+1:Nat):Int) (ps.drop (i+1)) (ks.drop (i+1)) else ((Ar ds p k).1,(i:Int)::(Ar ds p k).2.1,(Ar ds p k).2.2):=by
 rw [Av hp,Av hk];rfl
theorem iT:∀(n:Nat) (l:List Int),(∀i:Nat,i<n->(i:Int)∈l)->n<=l.length
 | 0,_,_=>Nat.zero_le _
 | n+1,l,h=>by
  have hm:=h n (by omega);have h1:=iT n (l.erase (n:Int)) λi hi=>(List.mem_erase_of_ne (by omega)).2 (h i (by omega));have h2:=List.length_erase_of_mem hm;have h3:=List.length_pos_of_mem hm;omega
def nT:Ty->Int
 | .mk _ n _ _=>n
theorem nP {nt:List Ty} {i:Int} (h:BL nt (.mk 1 i [] [])=true):i∈nt.map nT:=by
 simp only [BL,List.any_eq_true] at h;obtain ⟨⟨a,b,c,d⟩,h1,h2⟩:=h;simp only [AD,Bool.and_eq_true,beq_iff_eq] at h2;exact List.mem_map.2 ⟨_,h1,by simp only [nT];exact h2.1.2⟩
theorem LM {nt:List Ty} {i:Nat} (h:∀j:Nat,j<i->BL nt (.mk 1 j [] [])=true):i<=nt.length:=by
 have:=iT i (nt.map nT) λj hj=>nP (h j hj);simpa using this
theorem TA {nt:List Ty} {i:Nat} (hi:i<=nt.length) (h:∀j:Nat,j<i->BL nt (.mk 1 j [] [])=true):Kf nt (nt.length-i) i =
  if BL nt (.mk 1 i [] [])=false then .mk 1 i [] [] else if BL nt (.mk 1 (0-i) [] [])=false then .mk 1 (0-i) [] [] else Kf nt (nt.length-(i+1)) ((i+1:Nat):Int):=by
 by_cases hl:i=nt.length
 ·subst hl;have hf:BL nt (.mk 1 nt.length [] [])=false:=by
   cases hb:BL nt (.mk 1 nt.length [] []) with
   | false=>rfl
   | true =>
    have:=LM (nt:=nt) (i:=nt.length+1) λj hj=>by
     by_cases e:j=nt.length
     ·rw [e];exact hb
     ·exact h j (by omega)
    omega
  rw [Nat.sub_self,if_pos hf];rfl
 ·obtain ⟨k,hk⟩:∃k,nt.length-i=k+1:=⟨nt.length-i-1,by omega⟩
  rw [hk,show nt.length-(i+1)=k by omega];rfl
def oV:Option Ty->List V
 | none=>.bool false::dTyc zT
 | some v=>.bool true::dTyc v
@[simp] theorem someR_length (r:Option Ty):(oV r).length=5:=by cases r <;> simp [oV]
theorem aP {s:Str}:∀{l:List Cd} {i k:Nat} {c:Cd},l[k]?=some c->c.name=s->(∀j d,j<k->l[j]?=some d->d.name≠s)->Dn s i l=(c,((i+k:Nat):Int))
 | [],_,k,c,h,_,_=>by simp at h
 | d::r,i,0,c,h,hs,_=>by
  simp at h;subst h;simp [Dn,hs]
 | d::r,i,k+1,c,h,hs,hn=>by
  have:=hn 0 d (by omega) rfl;rw [Dn,if_neg this,aP (k:=k) (by simpa using h) hs λj d' hj hd=>hn (j+1) d' (by omega) (by simpa using hd)];congr 2;omega
theorem Zi {ds:List Dt} (h:B1 (Cp ds)=true) {d:Dt} (hd:d∈ds):(d.cons.map Cd.name).Nodup:=by
 have hn:=Pl.1 h;obtain ⟨a,b,rfl⟩:=List.append_of_mem hd;simp only [Cp,List.flatMap_append,List.flatMap_cons] at hn;exact (List.nodup_append.1 (List.nodup_append.1 hn).2.1).1
theorem Vk {ds:List Dt} (ho:OkW ds) {n:Int} {x:Str} {ps:List Ty} {d:Dt} (hd:ds[(Bf x 0 ds).toNat]?=some d) {k:Nat} {c:Cd} (hc:d.cons[k]?=some c):BO ds (.mk 8 n x ps) c.name=(c,(k:Int)):=by
 have hn:=Zi ho.dif (List.mem_of_getElem? hd);simp only [BO,if_true,hd];rw [aP hc rfl λj e hj he h=>?_]
 ·simp
 ·have hlt:=(List.getElem?_eq_some_iff.1 hc).1;have h1:(d.cons.map Cd.name)[j]?=some c.name:=by simp [he,h]
  have h2:(d.cons.map Cd.name)[k]?=some c.name:=by simp [hc]
  have:=(List.getElem?_inj (by simpa using by omega) hn).1 (h1.trans h2.symm);omega
theorem XD {ds:List Dt} (ho:OkW ds) {n:Int} {x:Str} {ps:List Ty} {d:Dt} (hd:ds[(Bf x 0 ds).toNat]?=some d) {k:Nat} {c:Cd} (hc:d.cons[k]?=some c):AW ds (.mk 8 n x ps) c.name=(c.args,true):=by
 simp [AW,Vk ho hd hc]
theorem WE {ds:List Dt} (ho:OkW ds):∀(f:Nat) (s:List Int),IR ds s->IR ds (ML ds f s)
 | 0,s,h=>h
 | f+1,s,h=>by
  have:=(N5 ho.d4 (l:=ds) (p:=(s,false)) (i:=0) (by simp) (λd hd=>(ho.lim d hd).2) h).1;simp only [ML];cases (Dr ds (s,false) 0 ds).2
  ·exact this
  ·exact WE ho f _ this
theorem N4 {ds:List Dt} (ho:OkW ds):IR ds (Dd ds):=WE ho _ _ (N3 ds)
theorem OW {g:Mi->Option (Option Ty)} {k:Mi} {r:List Mi} {o:Option (List Ty)} (h:Bu g (k::r)=some o):∃v,g k=some v/\(match v with
  | none=>o=none
  | some x=>∃q,Bu g r=some q/\o=q.map (x :: ·)):=by
 simp only [Bu] at h;cases hk:g k with
 | none=>simp [hk] at h
 | some v =>
  cases v with
  | none=>simp only [hk] at h;exact ⟨none,rfl,(Option.some.inj h).symm⟩
  | some x =>
   simp only [hk] at h;cases hr:Bu g r with
   | none=>simp [hr] at h
   | some q =>
    cases q with
    | none=>simp only [hr] at h;exact ⟨some x,rfl,none,rfl,(Option.some.inj h).symm⟩
    | some l=>simp only [hr] at h;exact ⟨some x,rfl,some l,rfl,(Option.some.inj h).symm⟩
theorem UV {ds:List Dt} {f:Nat} {m:Mi} {r:Option Ty} (h:AO ds (f+1) m=some r) (hf:AI m.hd≠0):∃o,Bu (AO ds f) m.ks=some o/\r=o.map (CD m.hd):=by
 simp only [AO,if_neg hf] at h;cases hl:Bu (AO ds f) m.ks with
 | none=>simp [hl] at h
 | some o=>simp only [hl,Option.map_some] at h;exact ⟨o,rfl,(Option.some.inj h).symm⟩
theorem FY {ds:List Dt} {t:Ty} {s:Str} (h:AI t≠8):AW ds t s=([],false):=by
 obtain ⟨so,n,x,ps⟩:=t;simp only [AI] at h;simp [AW,BO,h]
theorem jS {c:Prop} [Decidable c] {α:Type} {a p:α} {b:Option α} (h:(if c then some a else b)=some p):a=p\/b=some p:=by
 by_cases hc:c
 ·rw [if_pos hc] at h;exact .inl (Option.some.inj h)
 ·rw [if_neg hc] at h;exact .inr h
theorem Tu {ds:List Dt} {m:Mi}:∀{l:List Ty} {b:Option (Ty×Int)} {p:Ty×Int},DE ds m b l=some p->p.1∈l\/b=some p
 | [],b,p,h=>.inr h
 | x::r,b,p,h=>by
  simp only [DE] at h;rcases Tu h with h | h
  ·exact .inl (by simp [h])
  ·rcases jS h with h | h
   ·subst h;exact .inl (by simp)
   ·exact .inr h
theorem Ho {ds:List Dt} {m:Mi} {y:Ty} (h:AM ds m=some y):y∈AB ds m.ty:=by
 simp only [AM,Option.map_eq_some_iff] at h;obtain ⟨p,hp,rfl⟩:=h;rcases Tu hp with h | h
 ·exact h
 ·cases h
theorem Gl {ds:List Dt} (hn:B1 (Cp ds)=true) {n:Int} {x s:Str} {ps:List Ty} (hp:0<=Bf x 0 ds) (hc:0<=(BO ds (.mk 8 n x ps) s).2):(Ck ds s).2=(BO ds (.mk 8 n x ps) s).2:=by
 have hf:=WZ hn (n:=n) (s:=s) (ps:=ps) hp;unfold Ck;cases hfs:Gu s 0 ds with
 | none=>rw [hfs] at hf;simp only at hf;omega
 | some p =>
  obtain ⟨a,b⟩:=p;rw [hfs] at hf;obtain ⟨hf1,hf2,hf3⟩:=hf;have ha:(a:Int)=Bf x 0 ds:=by simpa [hc] using hf1
  obtain ⟨k,d,e1,e2,e3,e4⟩:=LS hfs;have:a=k:=by omega
  subst this;simp only [BO,if_true];rw [show (Bf x 0 ds).toNat=a by omega,e2];simp only [e3]
mutual
def DH:Ty->Bool
 | .mk _ n _ ps=>decide (-1000000000000<=n/\n<=1000000000000)&&FQ ps
def FQ:List Ty->Bool
 | []=>true
 | p::r=>DH p&&FQ r
end
theorem Rp:∀l:List Ty,FQ l=l.all DH
 | []=>rfl
 | p::r=>by simp [FQ,Rp r]
theorem Kc {ds:List Dt}:∀{l m:List Ty} {i:Nat} {a p:Ty},HA ds l m=true->l[i]?=some a->m[i]?=some p->IT ds a p=true
 | [],_,i,a,p,_,ha,_=>by simp at ha
 | _::_,[],i,a,p,_,_,hp=>by simp at hp
 | x::l,y::m,0,a,p,h,ha,hp=>by simp only [HA,Bool.and_eq_true] at h;simp at ha hp;subst ha;subst hp;exact h.1
 | x::l,y::m,i+1,a,p,h,ha,hp=>by simp only [HA,Bool.and_eq_true] at h;exact Kc h.2 (by simpa using ha) (by simpa using hp)
theorem Sg:∀v:Ty,Aj v<=1000000000000000->Ak Tryz.prog 71 [.agg (dTyc v)] (.int .i64 (Aj v))
 | .mk f n x ps,hN=>by
  refine AS λhv=>?_;simp [Cx,EM,dTyc,maxLen] at hv;simp only [Aj] at hN;refine Af Al Tryz.func71 (by decide +kernel) rfl [1,2,3] rfl rfl ?_;refine Ao rfl ?_;refine Am (λi:Nat=>[(4,.imm (.int .i64 i)),(3,.imm (.int .i64 ((1+Ag (ps.take i):Nat):Int))),(1,.ref 1 0)]) (λ_=>[(1,some (.immb 46 4 (dTyc (.mk f n x ps))))]) [2,3] (λi=>ps.length-i) (λi=>i<=ps.length) 0 (Nat.zero_le _)
   ⟨rfl,rfl,rfl,trivial⟩ ⟨rfl,trivial⟩ rfl λi hi ih=>?_
  refine Aq rfl ?_;refine Ab rfl (λh=>?_) (λh=>?_)
  ·simp at h;obtain ⟨p,hp⟩:=Ap h;have hl:=Cc hp;have hs:=Sg p (by omega);have hn:Ag (ps.take (i+1))=Ag (ps.take i)+Aj p:=by
    have e:=BA (ps.take i) [p];rw [Bn hp,e];simp [Ag]
   refine Aq rfl ?_;refine mi rfl (c:=dTyc p) (λ_=>⟨by simp,by simpa using A5 hp,by simp⟩) (by simp) ?_;refine Ao rfl ?_;refine Ah rfl hs ?_;refine Ao rfl ?_;exact Ae (ih (i+1) (by omega) (by omega)) ⟨A3 (BI (by omega) (by omega)),A3 (by rw [BI (by omega) (by omega)];omega),rfl,trivial⟩ ⟨rfl,trivial⟩ rfl
  ·simp at h;refine Ay rfl ?_;rw [List.take_of_length_le (by omega)];refine Aq rfl ?_;simp only [Aj];exact Aa rfl rfl rfl
termination_by v=>SizeOf.sizeOf v
decreasing_by
 have:=List.sizeOf_lt_of_mem (List.mem_of_getElem? hp);simp_wf;omega
theorem iK (n:Int) (h : -1000000000000<=n/\n<=1000000000000):Ak Tryz.prog 120 [.int .i64 n] (.int .i64 (DC n)):=by
 refine Af Al Tryz.func120 (by decide +kernel) rfl [1,2] rfl rfl ?_;refine Ao rfl ?_;by_cases h0:0<n
 ·refine Ab rfl (λh=>?_) (λh=>absurd h0 (by simpa using h));refine Aq rfl ?_;refine Aa rfl rfl ?_;simp only [DC,if_pos h0];have e1:IntKind.i64.wrap (2*n)=2*n:=BI (by omega) (by omega);rw [e1,BI (by omega) (by omega)]
 ·refine Ab rfl (λh=>absurd (by simpa using h) h0) (λh=>?_);refine Aq rfl ?_;refine Aa rfl rfl ?_;simp only [DC,if_neg h0];rw [BI (by omega) (by omega)]
theorem Qb {s:Str}:∀(l:List Cd) (i:Nat),(Dn s i l).2<i+l.length/\(0<=(Dn s i l).2->∃k,l[k]?=some (Dn s i l).1/\(Dn s i l).2=((i+k:Nat):Int))
 | [],i=>by simp [Dn];omega
 | c::r,i=>by
  simp only [Dn]
  split
  ·exact ⟨by simp only [List.length_cons];omega,λ_=>⟨0,rfl,rfl⟩⟩
  ·obtain ⟨h1,h2⟩:=Qb (s:=s) r (i+1);exact ⟨by simp only [List.length_cons];omega,λh=>let ⟨k,h3,h4⟩:=h2 h;⟨k+1,by simpa using h3,by rw [h4];congr 1;omega⟩⟩
theorem Qa {ds:List Dt} (ho:OkW ds) (t:Ty) (s:Str):(BO ds t s).2<=5:=by
 obtain ⟨so,n,x,ps⟩:=t;simp only [BO]
 split
 ·split
  ·rename_i d hd;have:=(Qb (s:=s) d.cons 0).1;have:=(ho.lim d (List.mem_of_getElem? hd)).1;omega
  ·simp
 ·simp
theorem Oi {ds:List Dt} {t:Ty} {s s':Str} (h:0<=(BO ds t s).2) (e:(BO ds t s).2=(BO ds t s').2):(BO ds t s).1=(BO ds t s').1:=by
 obtain ⟨so,n,x,ps⟩:=t;by_cases h8:so=8
 ·simp only [BO,if_pos h8] at h e ⊢;cases hd:ds[(Bf x 0 ds).toNat]? with
  | none=>simp
  | some d =>
   simp only [hd] at h e ⊢;obtain ⟨k,k1,k2⟩:=(Qb (s:=s) d.cons 0).2 h;obtain ⟨j,j1,j2⟩:=(Qb (s:=s') d.cons 0).2 (by omega);have:k=j:=by omega
   subst this;rw [k1] at j1;exact Option.some.inj j1
 ·simp only [BO,if_neg h8]
theorem OL {ds:List Dt} {l m:List Ty} {i:Nat} {p q:Ty} (hp:l[i]?=some p) (hq:m[i]?=some q):BY ds (l.drop i) (m.drop i)=if Cg ds p q≠0 then Cg ds p q else BY ds (l.drop (i+1)) (m.drop (i+1)):=by
 rw [Av hp,Av hq];rfl
theorem Jw {l:List Ty} {i:Nat} {p:Ty} (h:FQ l=true) (hp:l[i]?=some p):DH p=true:=by
 rw [Rp,List.all_eq_true] at h;exact h p (List.mem_of_getElem? hp)
theorem Tw (c:Cse) (ho:OkW c.datas):∀(a t b:Ty),AK c.datas t=true->IT c.datas t a=true->IT c.datas t b=true->DH a=true->DH b=true ->
  Ak Tryz.prog 72 [.agg (dCse c),.agg (dTyc t),.agg (dTyc a),.agg (dTyc b)] (.int .i64 (Cg c.datas a b))
 | .mk f n x ps,.mk so m0 x0 qs0,.mk g n' x' ps',hn,ha,hb,hia,hib=>by
  have hR:=λc'=>iK c';have hC:=λs=>Zk c (.mk so m0 x0 qs0) s (CN hn) (λd hd=>ho.okd.len d hd);obtain ⟨ds,⟨c1,c2,c3,c4⟩,rows⟩:=c;simp only [DH,Bool.and_eq_true] at hia hib;have hia1:=of_decide_eq_true hia.1;have hib1:=of_decide_eq_true hib.1;simp only at hn ha hb hC ho;simp only [IT] at ha hb;refine Af Al Tryz.func72 (by decide +kernel) rfl [1,2,3,4,5,6,7] rfl rfl ?_;refine Ao rfl ?_;simp only [Cg];by_cases s1:so=1
  ·subst s1;have hf:f=1:=by simpa using ha
   subst hf;refine Ai rfl λh=>?_;refine Aq rfl ?_;refine Ad rfl (λ_=>hR n hia1) (by simp) ?_;refine Ao rfl ?_;refine Ad rfl (λ_=>hR n' hib1) (by simp) ?_;refine mg [] rfl (by simp;rfl) ?_;have hr:∀z:Int,-1000000000000<=z/\z<=1000000000000 -> -2000000000000<=DC z/\DC z<=2000000000000:=λz hz=>by simp only [DC];split <;> omega
   have:=hr n hia1;have:=hr n' hib1;refine Aa rfl rfl ?_;rw [BI (by omega) (by omega)];rfl
  refine Ab rfl (λh=>absurd (by simpa using h) s1) (λh=>?_);clear h;refine Aq rfl ?_;by_cases s2:so=2
  ·subst s2;have hf:f=2:=by simpa using ha
   subst hf;refine Ai rfl λh=>?_;refine Aq rfl ?_;refine Aa rfl rfl ?_;rw [BI (by omega) (by omega)];rfl
  refine Ab rfl (λh=>absurd (by simpa using h) s2) (λh=>?_);clear h;refine Aq rfl ?_;rw [if_neg s1,if_neg s2] at ha hb;by_cases s8:so=8
  case neg =>
   refine Ab rfl (λh=>absurd (by simpa using h) s8) (λh=>?_);clear h;refine Aq rfl ?_;have hz:f=3\/f=5:=by
    by_cases s3:so=3
    ·rw [if_pos s3] at ha;left;simpa using ha
    ·rw [if_neg s3,if_neg s8] at ha;right;simpa using ha
   have e:(if f=1 then DC n-DC n' else if f=2 then n-n' else if f=4 then (if (Ck ds x).2-(Ck ds x').2≠0 then (Ck ds x).2-(Ck ds x').2 else BY ds ps ps') else 0)=0:=by
    rw [if_neg (by omega),if_neg (by omega),if_neg (by omega)]
   rw [e];exact Aa rfl rfl rfl
  subst s8;rw [if_neg (by decide),if_pos rfl] at ha hb;simp only [Bool.and_eq_true,decide_eq_true_eq] at ha hb;obtain ⟨hf,ha1,ha2,ha3⟩:=ha;obtain ⟨hg,hb1,hb2,hb3⟩:=hb;rw [Id ds 8 0 m0 x0 x [] qs0] at ha1 ha2 ha3;rw [Id ds 8 0 m0 x0 x' [] qs0] at hb1 hb2 hb3;subst hf;have hp:=(CN hn 8 m0 x0 qs0 rfl rfl).1;have sa:=Gl ho.dif (n:=m0) (s:=x) (ps:=qs0) hp ha1;have sb:=Gl ho.dif (n:=m0) (s:=x') (ps:=qs0) hp hb1;have la:=Qa ho (.mk 8 m0 x0 qs0) x;have lb:=Qa ho (.mk 8 m0 x0 qs0) x';have hsame:=Oi (ds:=ds) (t:=.mk 8 m0 x0 qs0) (s:=x) (s':=x') ha1;have hal:=RQ ho (.mk 8 m0 x0 qs0) x;have hnm:=H4 ho.okd (t:=.mk 8 m0 x0 qs0) (s:=x) ha1;have hCx:=hC x;have hCx':=hC x'
  rw [show (if (4:Int)=1 then DC n-DC n' else if (4:Int)=2 then n-n' else if (4:Int)=4 then (if (Ck ds x).2-(Ck ds x').2≠0 then (Ck ds x).2-(Ck ds x').2 else BY ds ps ps') else 0)=(if (Ck ds x).2-(Ck ds x').2≠0 then (Ck ds x).2-(Ck ds x').2 else BY ds ps ps') from rfl,sa,sb];clear hC sa sb;generalize BO ds (.mk 8 m0 x0 qs0) x=e1 at *;generalize BO ds (.mk 8 m0 x0 qs0) x'=e2 at *;obtain ⟨⟨n1,A1⟩,k1⟩:=e1;obtain ⟨⟨n2,A2⟩,k2⟩:=e2;simp only at ha1 ha2 ha3 hb1 hb2 hb3 la lb hsame hal hnm hCx hCx' ⊢;refine Ai rfl λh=>?_;refine Aq rfl ?_;refine Ah rfl hCx ?_;refine Ao rfl ?_;refine Ad rfl (λ_=>hCx') (by simp) ?_;refine Ao rfl ?_;by_cases hk:k1=k2
  case neg =>
   refine Ab rfl (λh=>?_) (λh=>by simp at h;exact absurd h hk);refine Aq rfl ?_;rw [if_pos (by omega)];refine Aa rfl rfl ?_;rw [BI (by omega) (by omega)]
  refine Ab rfl (λh=>by simp at h;exact absurd hk h) (λh=>?_);clear h;subst hk;have hsame:=hsame rfl;cases hsame;rw [if_neg (by omega)];refine Aq rfl ?_;refine Am (λi:Nat=>[(13,.imm (.int .i64 i)),(9,.ref 5 0),(7,.ref 4 0),(6,.ref 3 0),(4,.ref 1 0)])
   (λ_=>[(1,some (.immb 29 6 (dCse ⟨ds,.mk c1 c2 c3 c4,rows⟩))),(3,some (.immb 46 4 (dTyc (.mk 4 n x ps)))),(4,some (.immb 46 4 (dTyc (.mk g n' x' ps')))),(5,some (.immb 75 2 (DN ⟨n1,A1⟩)))]) [7] (λi=>A1.length-i)
   (λi=>i<=A1.length/\BY ds ps ps'=BY ds (ps.drop i) (ps'.drop i)) 0 ⟨Nat.zero_le _,rfl⟩ ⟨rfl,rfl,rfl,rfl,rfl,trivial⟩ ⟨rfl,rfl,rfl,rfl,trivial⟩ rfl λi hi ih=>?_
  obtain ⟨hi1,hi2⟩:=hi;refine Aq rfl ?_;refine Ab rfl (λh=>?_) (λh=>?_)
  ·simp at h;obtain ⟨t,ht⟩:=Ap h;obtain ⟨p,hp⟩:=Ap (l:=ps) (i:=i) (by omega);obtain ⟨q,hq⟩:=Ap (l:=ps') (i:=i) (by omega);have hO:=Tw ⟨ds,.mk c1 c2 c3 c4,rows⟩ ho p t q (D3 hnm ht) (Kc ha3 ht hp) (Kc hb3 ht hq) (Jw hia.2 hp) (Jw hib.2 hq);simp only at hO;rw [OL hp hq] at hi2;generalize Cg ds p q=z at *;refine Aq rfl ?_;refine mi rfl (c:=dTyc t) (λ_=>⟨by simp,by simpa using A5 ht,by simp⟩) (by simp) ?_;refine Ao rfl ?_;refine mi rfl (c:=dTyc p) (λ_=>⟨by simp,by simpa using A5 hp,by simp⟩) (by simp) ?_;refine Ao rfl ?_;refine mi rfl (c:=dTyc q) (λ_=>⟨by simp,by simpa using A5 hq,by simp⟩) (by simp) ?_;refine Ao rfl ?_;refine Ah rfl hO ?_;refine mg [] rfl (by simp;rfl) ?_;by_cases hz:z=0
   ·rw [if_neg (by simpa using hz)] at hi2;refine Ab rfl (λh=>by simp at h;exact absurd hz h) (λh=>?_);refine Aq rfl ?_;exact Ae (ih (i+1) (by omega) ⟨by omega,hi2⟩) ⟨A3 (BI (by omega) (by omega)),rfl,rfl,rfl,rfl,trivial⟩ ⟨rfl,rfl,rfl,rfl,trivial⟩ rfl
   ·rw [if_pos hz] at hi2;refine Ab rfl (λh=>?_) (λh=>by simp at h;exact absurd h hz);refine Aq rfl ?_;rw [hi2];exact Aa rfl rfl rfl
  ·simp at h;refine Ay rfl ?_;refine Aq rfl ?_;rw [hi2,List.drop_eq_nil_of_le (by omega)];simp only [BY];exact Aa rfl rfl rfl
termination_by a=>SizeOf.sizeOf a
decreasing_by
 have:=List.sizeOf_lt_of_mem (List.mem_of_getElem? hp);simp_wf;omega
theorem Zv (c:Cse) (ho:OkW c.datas) (a b:Ty) (hn:AK c.datas c.type=true) (ha:IT c.datas c.type a=true) (hb:IT c.datas c.type b=true) (hia:DH a=true) (hib:DH b=true)
  (hna:Aj a<=1000000000000000) (hnb:Aj b<=1000000000000000):Ak Tryz.prog 23 [.agg (dCse c),.agg (dTyc a),.agg (dTyc b)] (.bool (Cv c.datas a b)):=by
 have hO:=Tw c ho a c.type b hn ha hb hia hib;have hA:=Sg a hna;have hB:=Sg b hnb;simp only [Cv];obtain ⟨ds,⟨c1,c2,c3,c4⟩,rows⟩:=c;simp only at hO;generalize Cg ds a b=z at *;generalize Aj a=n at *;generalize Aj b=m at *;obtain ⟨a1,a2,a3,a4⟩:=a;obtain ⟨b1,b2,b3,b4⟩:=b;refine Af Al Tryz.func23 (by decide +kernel) rfl [1,2,3,4] rfl rfl ?_;refine Ao rfl ?_;refine Ah rfl hA ?_;refine Ao rfl ?_;refine Ah rfl hB ?_;refine mg [] rfl (by simp;rfl) ?_;by_cases e:n=m
 ·subst e;refine Az rfl λh=>?_;refine Aq rfl ?_;refine Ah rfl hO ?_;refine Ao rfl ?_;exact Au ⟨_,rfl,tV (by simp),trivial⟩
 ·refine Ab rfl (λh=>?_) (λh=>by simp at h;omega);refine Aq rfl ?_;exact Au ⟨_,rfl,tV (by simp [e]),trivial⟩
def ZN (c:Cse) (v:Ty):Prop:=IT c.datas c.type v=true/\DH v=true/\Aj v<=1000000000000000
def loS (ds:List Dt) (s s':List Int):Prop:=∀t,Fz ds s t≠0->0<Fz ds s' t/\Fz ds s' t<=Fz ds s t
theorem KC {ds:List Dt} {s s':List Int} (h:loS ds s s') (hz:∀t,0<=Fz ds s t):∀(l:List Ty) (n n':Int),0<n'->n'<=n->0<Bc ds s n l->0<Bc ds s' n' l/\Bc ds s' n' l<=Bc ds s n l
 | [],n,n',h1,h2,_=>by simp only [Bc];omega
 | t::r,n,n',h1,h2,h3=>by
  simp only [Bc] at h3 ⊢;by_cases e:Fz ds s t=0
  ·rw [if_pos e] at h3;omega
  ·rw [if_neg e] at h3 ⊢;obtain ⟨a1,a2⟩:=h t e;rw [if_neg (by omega)];have:=hz t;exact KC h hz r _ _ (by omega) (by omega) h3
theorem OD {ds:List Dt} {s:List Int}:∀{l:List Ty} {n:Int} {t:Ty},t∈l->Fz ds s t=0->Bc ds s n l=0
 | x::r,n,t,ht,h=>by
  simp only [Bc];rcases List.mem_cons.1 ht with rfl | ht
  ·rw [if_pos h]
  ·by_cases e:Fz ds s x=0
   ·rw [if_pos e]
   ·rw [if_neg e];exact OD ht h
def SH (ds:List Dt) (s:List Int):Prop:=∀i d,ds[i]?=some d->0<s.getD i 0->∃c∈d.cons,0<Bc ds s 1 c.args/\Bc ds s 1 c.args<=s.getD i 0
theorem Pe {s:List Int} {i:Nat} {n:Int} (h:i<s.length):(s.set i n).getD i 0=n:=by simp [List.getD,h]
theorem Pd {s:List Int} {i j:Nat} {n:Int} (h:i≠j):(s.set i n).getD j 0=s.getD j 0:=by simp [List.getD,List.getElem?_set_ne h]
theorem gJ {ds:List Dt} {i:Nat} {d:Dt} {c:Cd} (hd:ds[i]?=some d) (hc:c∈d.cons) {p:List Int×Bool} (hs:IR ds p.1) (ha:SH ds p.1):SH ds (I1 ds i p c.args).1:=by
 simp only [I1]
 split
 ·rename_i h;obtain ⟨h1,h2⟩:=h;have hl:i<p.1.length:=by rw [hs.len];exact (List.getElem?_eq_some_iff.1 hd).1
  generalize hn:Bc ds p.1 1 c.args=n at *;have hz:∀t,0<=Fz ds p.1 t:=λt=>(Jf hs t).1;have hlo:loS ds p.1 (p.1.set i n):=by
   intro t ht;obtain ⟨so,m,x,ps⟩:=t;have h0:=hz (.mk so m x ps);simp only [Fz] at ht h0 ⊢;by_cases h8:so=8
   ·simp only [if_pos h8] at ht h0 ⊢;by_cases e:i=(Lg ds x).toNat
    ·rw [<- e] at ht h0 ⊢;rw [Pe hl];omega
    ·rw [Pd e];omega
   ·simp only [if_neg h8] at ht h0 ⊢;omega
  show SH ds (p.1.set i n);intro j e hj hpos;by_cases hij:i=j
  ·subst hij;rw [Pe hl] at hpos ⊢;rw [hd] at hj;cases hj;exact ⟨c,hc,(KC hlo hz c.args 1 1 (by omega) (by omega) (by omega)).1,by have:=(KC hlo hz c.args 1 1 (by omega) (by omega) (by omega)).2;omega⟩
  ·rw [Pd hij] at hpos ⊢;obtain ⟨c',k1,k2,k3⟩:=ha j e hj hpos;obtain ⟨q1,q2⟩:=KC hlo hz c'.args 1 1 (by omega) (by omega) k2;exact ⟨c',k1,q1,by omega⟩
 ·exact ha
theorem aO {ds:List Dt} (h4:ds.length<=4) {i:Nat} {d:Dt} (hd:ds[i]?=some d):∀{l:List Cd} {p:List Int×Bool},(∀c∈l,c∈d.cons/\c.args.length<=3)->IR ds p.1->SH ds p.1->SH ds (K0 ds i p l).1
 | [],p,_,_,ha=>ha
 | c::r,p,hl,hs,ha=>by
  have hi:=(List.getElem?_eq_some_iff.1 hd).1;simp only [K0];exact aO h4 hd (λx hx=>hl x (by simp [hx])) (Qx h4 hi (hl c (by simp)).2 hs).1 (gJ hd (hl c (by simp)).1 hs ha)
theorem SZ {ds:List Dt} (h4:ds.length<=4) (h3:∀d∈ds,∀c∈d.cons,c.args.length<=3):∀{l:List Dt} {p:List Int×Bool} {i:Nat},l=ds.drop i->IR ds p.1->SH ds p.1->SH ds (Dr ds p i l).1
 | [],p,i,_,_,ha=>ha
 | d::r,p,i,hl,hs,ha=>by
  have hd:ds[i]?=some d:=by
   have:=congrArg (·[0]?) hl;simpa using this.symm
  have hr:r=ds.drop (i+1):=by
   have:=congrArg List.tail hl;simpa using this
  have hi:=(List.getElem?_eq_some_iff.1 hd).1;have hdm:=List.mem_of_getElem? hd;simp only [Dr];exact SZ h4 h3 hr (Vj h4 hi (h3 d hdm) hs).1 (aO h4 hd (λc hc=>⟨hc,h3 d hdm c hc⟩) hs ha)
def sH (ds:List Dt) (s:List Int):Prop:=∀i d,ds[i]?=some d->∀c∈d.cons,0<Bc ds s 1 c.args->s.getD i 0≠0/\s.getD i 0<=Bc ds s 1 c.args
theorem Xw {ds:List Dt} {i:Nat}:∀{l:List Cd} {p:List Int×Bool},(K0 ds i p l).2=false->p.2=false/\(K0 ds i p l)=p/\∀c∈l,¬(0<Bc ds p.1 1 c.args/\(p.1.getD i 0=0\/Bc ds p.1 1 c.args<p.1.getD i 0))
 | [],p,h=>⟨h,rfl,λc hc=>by cases hc⟩
 | c::r,p,h=>by
  simp only [K0] at h ⊢;obtain ⟨h1,h2,h3⟩:=Xw h;by_cases hc:0<Bc ds p.1 1 c.args/\(p.1.getD i 0=0\/Bc ds p.1 1 c.args<p.1.getD i 0)
  ·simp only [I1,if_pos hc] at h1;cases h1
  ·have e:I1 ds i p c.args=p:=by simp only [I1,if_neg hc]
   rw [e] at h1 h2 h3 ⊢;exact ⟨h1,h2,λx hx=>by rcases List.mem_cons.1 hx with rfl | hx;exact hc;exact h3 x hx⟩
theorem Qw {ds:List Dt}:∀{l:List Dt} {p:List Int×Bool} {i:Nat},(Dr ds p i l).2=false->p.2=false/\Dr ds p i l=p/\∀k d,l[k]?=some d->∀c∈d.cons,¬(0<Bc ds p.1 1 c.args/\(p.1.getD (i+k) 0=0\/Bc ds p.1 1 c.args<p.1.getD (i+k) 0))
 | [],p,i,h=>⟨h,rfl,λk d hd=>by simp at hd⟩
 | d::r,p,i,h=>by
  simp only [Dr] at h ⊢;obtain ⟨h1,h2,h3⟩:=Qw h;obtain ⟨k1,k2,k3⟩:=Xw h1;rw [k2] at h1 h2 h3 ⊢;refine ⟨k1,h2,λk e he=>?_⟩;cases k with
  | zero=>simp at he;subst he;simpa using k3
  | succ k=>have:=h3 k e (by simpa using he);rw [show i+(k+1)=i+1+k by omega];exact this
theorem WD {ds:List Dt} (ho:OkW ds):∀(f:Nat) (s:List Int),IR ds s->SH ds s->M9 s<f->SH ds (ML ds f s)/\sH ds (ML ds f s)
 | 0,s,_,_,h=>by omega
 | f+1,s,hs,ha,h=>by
  have h3:∀d∈ds,∀c∈d.cons,c.args.length<=3:=λd hd=>(ho.lim d hd).2;obtain ⟨b1,b2,b3⟩:=N5 ho.d4 (l:=ds) (p:=(s,false)) (i:=0) (by simp) h3 hs;have b4:=SZ ho.d4 h3 (l:=ds) (p:=(s,false)) (i:=0) rfl hs ha;simp only [ML];cases hb:(Dr ds (s,false) 0 ds).2 with
  | true =>
   rcases b3 hb with h' | h'
   ·cases h'
   ·simp only [cond_true];exact WD ho f _ b1 b4 (by simp only at h';omega)
  | false =>
   simp only [cond_false];refine ⟨b4,?_⟩;obtain ⟨_,e,h5⟩:=Qw hb;rw [e];intro i d hd c hc hp;have:=h5 i d hd c hc;simp only [Nat.zero_add] at this;have hz:0<=s.getD i 0:=by
    rcases MP (s:=s) (i:=i) with hm | hm
    ·exact (hs.le _ hm).1
    ·omega
   constructor
   ·intro e;exact this ⟨hp,.inl e⟩
   ·apply Int.not_lt.1;intro e;exact this ⟨hp,.inr e⟩
theorem mR {ds:List Dt} (ho:OkW ds):SH ds (Dd ds)/\sH ds (Dd ds):=by
 refine WD ho _ _ (N3 ds) (λi d hd h=>?_) ?_
 ·have:(List.replicate ds.length (0:Int)).getD i 0=0:=by
   rcases MP (s:=List.replicate ds.length (0:Int)) (i:=i) with hm | hm
   ·exact List.eq_of_mem_replicate hm
   ·exact hm
  omega
 ·have:=Y0 (List.replicate ds.length 0) (λx hx=>by rw [List.eq_of_mem_replicate hx];omega);have:=ho.d4;simp at *;omega
def Kb (ds:List Dt) (t h:Ty):Prop:=h∈AB ds t\/(AI t=1/\∃n,h = .mk 1 n [] [] /\ -1000000000<=n/\n<=1000000000)
mutual
def Do (ds:List Dt):Mi->Prop
 | .mk ty _ hd ks=>(AI hd=0->ks=[])/\(AI hd≠0->Kb ds ty hd/\ks.map Mi.ty=(AW ds ty (CH hd)).1)/\Xy ds ks
def Xy (ds:List Dt):List Mi->Prop
 | []=>True
 | k::r=>Do ds k/\Xy ds r
end
theorem Us (ds:List Dt):∀l:List Mi,Xy ds l↔∀k∈l,Do ds k
 | []=>by simp [Xy]
 | k::r=>by simp [Xy,Us ds r]
theorem B0 {ds:List Dt} {m:Mi}:Do ds m↔(AI m.hd=0->m.ks=[])/\(AI m.hd≠0->Kb ds m.ty m.hd/\m.ks.map Mi.ty=(AW ds m.ty (CH m.hd)).1)/\∀k∈m.ks,Do ds k:=by
 obtain ⟨ty,nt,hd,ks⟩:=m;simp only [Do,Us,Mi.ty,Mi.hd,Mi.ks]
mutual
def G6:Mi->Nat
 | .mk _ _ _ ks=>Gr ks+1
def Gr:List Mi->Nat
 | []=>0
 | k::r=>max (G6 k) (Gr r)
end
theorem MN {l:List Mi} {n:Nat}:Gr l<=n↔∀k∈l,G6 k<=n:=by
 induction l with
 | nil=>simp [Gr]
 | cons k r ih=>simp only [Gr,List.mem_cons,forall_eq_or_imp,<- ih];omega
theorem Gf (m:Mi):G6 m=Gr m.ks+1:=by obtain ⟨a,b,c,d⟩:=m;rfl
theorem J5 {m k:Mi} (h:k∈m.ks):G6 k+1<=G6 m:=by
 rw [Gf m];have:=(MN (l:=m.ks) (n:=Gr m.ks)).1 (Nat.le_refl _) k h;omega
theorem Ur (ds:List Dt) (t:Ty):Do ds (As t):=B0.2 ⟨λ_=>rfl,λh=>absurd rfl h,λk hk=>by simp [As,Mi.ks] at hk⟩
theorem kK (l:List Ty):(l.map As).map Mi.ty=l:=by
 rw [List.map_map]
 conv=>rhs;rw [<- List.map_id l]
 exact List.map_congr_left λt _=>rfl
theorem M8 {ds:List Dt} {t h:Ty} (hh:Kb ds t h):AI h≠0/\Br h=[]:=by
 rcases hh with hh | ⟨_,n,rfl,_⟩
 ·exact ⟨(B4 hh).2,(B4 hh).1⟩
 ·exact ⟨by simp [AI],rfl⟩
theorem Ok {ds:List Dt} {m:Mi} {h:Ty} (hh:Kb ds m.ty h):Do ds (Bm ds m h):=by
 refine B0.2 ⟨λe=>absurd e (M8 hh).1,λ_=>⟨hh,kK _⟩,λk hk=>?_⟩;simp only [Bm,Mi.ks,List.mem_map] at hk;obtain ⟨t,_,rfl⟩:=hk;exact Ur ds t
theorem C6 {ds:List Dt} {m:Mi} (h:Do ds m):Do ds (Ac ds m):=by
 unfold Ac
 split
 ·exact h
 ·split
  ·rename_i x hx;exact Ok (.inl (DG hx).1)
  ·exact h
theorem TU (ds:List Dt) (m:Mi) (h:Ty):G6 (Bm ds m h)<=2:=by
 rw [Gf];have:Gr (Bm ds m h).ks<=1:=MN.2 λk hk=>by
  simp only [Bm,Mi.ks,List.mem_map] at hk;obtain ⟨t,_,rfl⟩:=hk;simp [As,G6,Gr]
 omega
theorem Ko (ds:List Dt) (m:Mi):G6 (Ac ds m)<=max (G6 m) 2:=by
 unfold Ac
 split
 ·omega
 ·split
  ·rename_i x hx;have:=TU ds m x;omega
  ·omega
theorem KD {ds:List Dt} {m:Mi}:∀{l:List Ty} {b:Option (Ty×Int)},DE ds m b l=none->b=none/\∀h∈l,¬(0<Be ds m h/\BL m.nt h=false)
 | [],b,h=>⟨h,λx hx=>by cases hx⟩
 | x::r,b,h=>by
  simp only [DE] at h;obtain ⟨h1,h2⟩:=KD h;by_cases hc:0<Be ds m x/\BL m.nt x=false/\Gj b (Be ds m x)=true
  ·rw [if_pos hc] at h1;cases h1
  ·rw [if_neg hc] at h1;subst h1;refine ⟨rfl,λy hy=>?_⟩;rcases List.mem_cons.1 hy with rfl | hy
   ·intro h';exact hc ⟨h'.1,h'.2,rfl⟩
   ·exact h2 y hy
theorem EQ {ds:List Dt} {m:Mi}:∀{l:List Ty} {b:Option (Ty×Int)} {p:Ty×Int},DE ds m b l=some p ->
  (b=some p\/(p.1∈l/\p.2=Be ds m p.1/\0<p.2/\BL m.nt p.1=false))/\(∀b',b=some b'->p.2<=b'.2)/\(∀h∈l,0<Be ds m h->BL m.nt h=false->p.2<=Be ds m h)
 | [],b,p,h=>by
  simp only [DE] at h;subst h;exact ⟨.inl rfl,λb' hb=>by cases hb;exact Int.le_refl _,λx hx=>by cases hx⟩
 | x::r,b,p,h=>by
  simp only [DE] at h;obtain ⟨h1,h2,h3⟩:=EQ h;by_cases hc:0<Be ds m x/\BL m.nt x=false/\Gj b (Be ds m x)=true
  ·rw [if_pos hc] at h1 h2;have h2x:p.2<=Be ds m x:=h2 _ rfl;refine ⟨?_,λb' hb=>?_,λy hy h0 hn=>?_⟩
   ·rcases h1 with h1 | h1
    ·cases h1;exact .inr ⟨by simp,rfl,hc.1,hc.2.1⟩
    ·exact .inr ⟨by simp [h1.1],h1.2⟩
   ·subst hb;have:=of_decide_eq_true hc.2.2;omega
   ·rcases List.mem_cons.1 hy with rfl | hy
    ·exact h2x
    ·exact h3 y hy h0 hn
  ·rw [if_neg hc] at h1 h2;refine ⟨?_,h2,λy hy h0 hn=>?_⟩
   ·rcases h1 with h1 | h1
    ·exact .inl h1
    ·exact .inr ⟨by simp [h1.1],h1.2⟩
   ·rcases List.mem_cons.1 hy with rfl | hy
    ·cases b with
     | none=>exact absurd ⟨h0,hn,rfl⟩ hc
     | some b' =>
      have:=h2 b' rfl;have hd:¬(Be ds m y<b'.2):=λhl=>hc ⟨h0,hn,decide_eq_true hl⟩;omega
    ·exact h3 y hy h0 hn
theorem FR {ds:List Dt} (ho:OkW ds) {t h:Ty} (hn:AK ds t=true) (hh:h∈AB ds t) :
  (AI t=8/\AI h=4/\(AW ds t (CH h)).2=true)\/(AI t=2/\∃n,h = .mk 2 n [] []/\(n=0\/n=1))\/(AI t=3/\h = .mk 3 0 [] []):=by
 obtain ⟨so,n,x,ps⟩:=t;simp only [AB] at hh
 split at hh
 ·rename_i e;subst e;rcases List.mem_cons.1 hh with rfl | hh
  ·exact .inr (.inl ⟨rfl,0,rfl,.inl rfl⟩)
  ·rw [List.mem_singleton.1 hh];exact .inr (.inl ⟨rfl,1,rfl,.inr rfl⟩)
 ·split at hh
  ·rename_i e;subst e;rw [List.mem_singleton.1 hh];exact .inr (.inr ⟨rfl,rfl⟩)
  ·split at hh
   ·rename_i e;subst e
    split at hh
    ·rename_i d hd;obtain ⟨c,hc,rfl⟩:=List.mem_map.1 hh;obtain ⟨k,hk,e⟩:=List.getElem_of_mem hc;have:=XD ho (n:=n) (ps:=ps) hd (k:=k) (c:=c) (by rw [List.getElem?_eq_getElem hk,e]);exact .inl ⟨rfl,rfl,by rw [show CH (.mk 4 0 c.name [])=c.name from rfl,this]⟩
    ·cases hh
   ·cases hh
theorem QR {ds:List Dt} (ho:OkW ds) {t h:Ty} {vs:List Ty} (hn:AK ds t=true) (hh:Kb ds t h) (hl:(AW ds t (CH h)).1.length=vs.length) (hv:HA ds (AW ds t (CH h)).1 vs=true):IT ds t (CD h vs)=true:=by
 rw [Ji];rcases hh with hh | ⟨h1,n,rfl,_⟩
 ·rcases FR ho hn hh with ⟨h1,h2,h3⟩ | ⟨h1,n,rfl,_⟩ | ⟨h1,rfl⟩
  ·obtain ⟨so,m,x,ps⟩:=t;obtain ⟨f,k,y,qs⟩:=h;simp only [AI,CH] at *;subst h1;subst h2;simp [LI,CD,hl,h3,hv]
  ·obtain ⟨so,m,x,ps⟩:=t;simp only [AI] at h1;subst h1;simp [LI,CD]
  ·obtain ⟨so,m,x,ps⟩:=t;simp only [AI] at h1;subst h1;simp [LI,CD]
 ·obtain ⟨so,m,x,ps⟩:=t;simp only [AI] at h1;subst h1;simp [LI,CD]
theorem Wn {ds:List Dt} (ho:OkW ds) {t h:Ty} (hn:AK ds t=true) (hh:Kb ds t h) {vs:List Ty} (hv:FQ vs=true):DH (CD h vs)=true/\Aj (CD h vs)=1+Ag vs:=by
 obtain ⟨f,k,y,qs⟩:=h;refine ⟨?_,by simp [CD,Aj]⟩;simp only [CD,DH,hv,Bool.and_true];refine decide_eq_true ?_;rcases hh with hh | ⟨_,n,e,hb⟩
 ·have hk:∀x∈AB ds t,∀a b c d,x = .mk a b c d->0<=b/\b<=1:=by
   intro x hx a b c d e;rcases FR ho hn hx with ⟨h1,h2,h3⟩ | ⟨h1,n,h2,h3⟩ | ⟨h1,h2⟩
   ·subst e;obtain ⟨so,m,z,ps⟩:=t;simp only [AI] at h1;subst h1;simp only [AB] at hx;rw [if_neg (by decide),if_neg (by decide),if_pos trivial] at hx
    split at hx
    ·obtain ⟨q,_,e⟩:=List.mem_map.1 hx;cases e;omega
    ·cases hx
   ·rw [e] at h2;cases h2;omega
   ·rw [e] at h2;cases h2;omega
  have:=hk _ hh _ _ _ _ rfl;omega
 ·cases e;omega
theorem EW {ds:List Dt} {f:Nat} {m:Mi} (h:AI m.hd≠0):AO ds (f+1) m=(Bu (AO ds f) m.ks).map (·.map (CD m.hd)):=by
 show (if AI m.hd=0 then _ else _)=_;rw [if_neg h]
theorem Fq {ds:List Dt} {f:Nat} {m:Mi} (h:AI m.hd=0) (h1:AI m.ty=1):AO ds (f+1) m=some (some (Dy m.nt)):=by
 show (if AI m.hd=0 then _ else _)=_;rw [if_pos h,if_pos h1]
theorem Fp {ds:List Dt} {f:Nat} {m:Mi} (h:AI m.hd=0) (h1:AI m.ty=4\/AI m.ty=5\/AI m.ty=6\/AI m.ty=7):AO ds (f+1) m=some (some (.mk 5 0 [] [])):=by
 show (if AI m.hd=0 then _ else _)=_;rw [if_pos h,if_neg (by omega),if_pos h1]
theorem Dz {ds:List Dt} {f:Nat} {m:Mi} (h:AI m.hd=0) (h1:¬AI m.ty=1) (h4:¬(AI m.ty=4\/AI m.ty=5\/AI m.ty=6\/AI m.ty=7)):AO ds (f+1) m=match AM ds m with
  | none=>some none
  | some h=>AO ds (f+1) (Bm ds m h):=by
 have e:AO ds (f+1) m=match AM ds m with
  | none=>some none
  | some h=>(Bu (AO ds f) (Bm ds m h).ks).map (·.map (CD h)):=by
  show (if AI m.hd=0 then _ else _)=_;rw [if_pos h,if_neg h1,if_neg h4]
  try rfl
 rw [e];cases hq:AM ds m with
 | none=>rfl
 | some x=>exact (EW (m:=Bm ds m x) (B4 (Ho hq)).2).symm
abbrev CB (ds:List Dt) (t:Ty):Int:=Fz ds (Dd ds) t
theorem CA {ds:List Dt} (ho:OkW ds) (t:Ty):0<=CB ds t/\CB ds t<=256:=by
 have h:=Jf (N4 ho) t;have h4:=mX (n:=QS (Dd ds)) (by have:=NM (Dd ds);rw [(N4 ho).len] at this;have:=ho.d4;omega);simp only [CB];omega
theorem NB {ds:List Dt} (ho:OkW ds) {l:List Ty} (h:l.length<=3):0<=Bc ds (Dd ds) 1 l/\Bc ds (Dd ds) 1 l<=769:=by
 have hb:=GI (N4 ho) l 1 (by omega);have h4:=mX (n:=QS (Dd ds)) (by have:=NM (Dd ds);rw [(N4 ho).len] at this;have:=ho.d4;omega);generalize 4 ^ QS (Dd ds)=M at *;have:(l.length:Int)*(M:Int)<=3*256:=Int.mul_le_mul (by omega) (by omega) (by omega) (by omega);omega
theorem MJ {ds:List Dt} {g:Mi->Option (Option Ty)}:∀{L:List Ty},(∀t∈L,∃v,g (As t)=some (some v)/\(Aj v:Int)=CB ds t/\IT ds t v=true/\DH v=true)->(∀t∈L,CB ds t≠0) ->
  ∃vs,Bu g (L.map As)=some (some vs)/\L.length=vs.length/\HA ds L vs=true/\FQ vs=true/\∀n,Bc ds (Dd ds) n L=n+Ag vs
 | [],_,_=>⟨[],rfl,rfl,rfl,rfl,λn=>by simp [Bc,Ag]⟩
 | t::r,h,hz=>by
  obtain ⟨v,v1,v2,v3,v4⟩:=h t (by simp);obtain ⟨vs,w1,w2,w3,w4,w5⟩:=MJ (L:=r) (λx hx=>h x (by simp [hx])) (λx hx=>hz x (by simp [hx]));refine ⟨v::vs,?_,by simp [w2],by simp [HA,v3,w3],by simp [FQ,v4,w4],λn=>?_⟩
  ·simp only [List.map_cons,Bu,v1,w1]
  ·have:=hz t (by simp);simp only [Bc,Ag];rw [if_neg this,w5];simp only [CB] at v2;omega
theorem TM {ds:List Dt} {g:Mi->Option (Option Ty)}:∀{L:List Ty},(∀t∈L,∃r,g (As t)=some r/\(CB ds t=0->r=none))->(∃t∈L,CB ds t=0)->Bu g (L.map As)=some none
 | [],_,⟨t,ht,_⟩=>by cases ht
 | x::r,h,⟨t,ht,h0⟩=>by
  obtain ⟨q,q1,q2⟩:=h x (by simp);simp only [List.map_cons,Bu,q1];cases q with
  | none=>rfl
  | some v =>
   simp only;rcases List.mem_cons.1 ht with rfl | ht
   ·cases q2 h0
   ·rw [TM (L:=r) (λy hy=>h y (by simp [hy])) ⟨t,ht,h0⟩]
theorem I7 (nt:List Ty):∀(f:Nat) (i:Int),0<=i->∃n,Kf nt f i = .mk 1 n [] [] /\ -(i+f)<=n/\n<=i+f
 | 0,i,hi=>⟨i,rfl,by omega,by omega⟩
 | f+1,i,hi=>by
  simp only [Kf]
  split
  ·exact ⟨i,rfl,by omega,by omega⟩
  ·split
   ·exact ⟨0-i,rfl,by omega,by omega⟩
   ·obtain ⟨n,h1,h2,h3⟩:=I7 nt f (i+1) (by omega);exact ⟨n,h1,by omega,by omega⟩
theorem PZ {ds:List Dt} (ho:OkW ds) {m:Mi} (hn:AK ds m.ty=true) (h8:AI m.ty=8) :
  (CB ds m.ty=0->∀h∈AB ds m.ty,¬0<Be ds m h)/\(CB ds m.ty≠0->(∃h∈AB ds m.ty,0<Be ds m h/\Be ds m h<=CB ds m.ty)/\∀h∈AB ds m.ty,0<Be ds m h->CB ds m.ty<=Be ds m h):=by
 obtain ⟨⟨so,n,x,ps⟩,nt,hdm,ks⟩:=m;simp only [AI,Mi.ty] at *;subst h8;obtain ⟨hp,d,hd⟩:=CN hn 8 n x ps rfl rfl;obtain ⟨f1,f2⟩:=mR ho;have hdv:(Lg ds x).toNat=(Bf x 0 ds).toNat:=by simp [Lg,hp]
 have hone:CB ds (.mk 8 n x ps)=(Dd ds).getD (Bf x 0 ds).toNat 0:=by simp only [CB,Fz,if_true];rw [hdv]
 have hH:AB ds (.mk 8 n x ps)=d.cons.map Le:=by
  rw [show AB ds (.mk 8 n x ps)=(match ds[(Bf x 0 ds).toNat]? with | some d=>d.cons.map λc=>Ty.mk 4 0 c.name [] | none=>[]) from rfl,hd];rfl
 have hc:∀c∈d.cons,Be ds (.mk (.mk 8 n x ps) nt hdm ks) (Le c)=Bc ds (Dd ds) 1 c.args:=by
  intro c hc;obtain ⟨k,hk,e⟩:=List.getElem_of_mem hc;simp only [Be,Le,AI,if_true,CH,Mi.ty];rw [XD ho hd (k:=k) (c:=c) (by rw [List.getElem?_eq_getElem hk,e])]
 have h0:=(CA ho (.mk 8 n x ps)).1;rw [hone] at h0 ⊢;rw [hH];constructor
 ·intro hz h hh hpos;obtain ⟨c,hcm,rfl⟩:=List.mem_map.1 hh;rw [hc c hcm] at hpos;exact (f2 _ d hd c hcm hpos).1 hz
 ·intro hz;constructor
  ·obtain ⟨c,hcm,c1,c2⟩:=f1 _ d hd (by omega);exact ⟨Le c,List.mem_map_of_mem hcm,by rw [hc c hcm];exact c1,by rw [hc c hcm];exact c2⟩
  ·intro h hh hpos;obtain ⟨c,hcm,rfl⟩:=List.mem_map.1 hh;rw [hc c hcm] at hpos ⊢;exact (f2 _ d hd c hcm hpos).2
def rW (ds:List Dt) (t:Ty) (r:Option Ty):Prop:=(CB ds t=0->r=none)/\(CB ds t≠0->∃v,r=some v/\(Aj v:Int)=CB ds t/\IT ds t v=true/\DH v=true)
theorem KV {ds:List Dt} (ho:OkW ds) {m:Mi} {h:Ty} (hn:AK ds m.ty=true) (hh:Kb ds m.ty h):Be ds m h=Bc ds (Dd ds) 1 (AW ds m.ty (CH h)).1:=by
 unfold Be
 split
 ·rfl
 ·rename_i h4;have:AI m.ty≠8:=by
   rcases hh with hh | ⟨h1,_⟩
   ·rcases FR ho hn hh with ⟨_,h2,_⟩ | ⟨h1,_⟩ | ⟨h1,_⟩
    ·exact absurd h2 h4
    ·omega
    ·omega
   ·omega
  rw [FY this];rfl
theorem NC {ds:List Dt} (ho:OkW ds):∀{l:List Ty} {n:Int},0<Bc ds (Dd ds) n l->n<=Bc ds (Dd ds) n l/\∀t∈l,n+CB ds t<=Bc ds (Dd ds) n l
 | [],n,h=>⟨by simp [Bc],λt ht=>by cases ht⟩
 | x::r,n,h=>by
  simp only [Bc] at h ⊢;by_cases e:Fz ds (Dd ds) x=0
  ·rw [if_pos e] at h;omega
  ·rw [if_neg e] at h ⊢;obtain ⟨h1,h2⟩:=NC ho h;have hx:=(CA ho x).1;simp only [CB] at *;refine ⟨by omega,λt ht=>?_⟩;rcases List.mem_cons.1 ht with rfl | ht
   ·omega
   ·have:=h2 t ht;omega
theorem HX {ds:List Dt} (ho:OkW ds) {f:Nat} {m:Mi} {h:Ty} (hn:AK ds m.ty=true) (hh:Kb ds m.ty h) (ih:∀t,t∈(AW ds m.ty (CH h)).1->∃r,AO ds f (As t)=some r/\rW ds t r) :
  ∃r,AO ds (f+1) (Bm ds m h)=some r/\(Be ds m h=0->r=none)/\(0<Be ds m h->∃v,r=some v/\(Aj v:Int)=Be ds m h/\IT ds m.ty v=true/\DH v=true):=by
 have hk:=M8 hh;have e1:AO ds (f+1) (Bm ds m h)=(Bu (AO ds f) ((AW ds m.ty (CH h)).1.map As)).map (·.map (CD h)):=by
  rw [EW (m:=Bm ds m h) hk.1];rfl
 rw [e1];clear e1;have hcost:=KV ho hn hh;have hlen:=EY ho m.ty (CH h);rw [hcost];by_cases hz:∃t∈(AW ds m.ty (CH h)).1,CB ds t=0
 ·have hno:=TM (ds:=ds) (g:=AO ds f) (λt ht=>let ⟨r,r1,r2,_⟩:=ih t ht;⟨r,r1,r2⟩) hz;obtain ⟨t,ht,h0⟩:=hz;rw [hno,OD ht h0];exact ⟨none,rfl,λ_=>rfl,λh=>by omega⟩
 ·have hz:∀t∈(AW ds m.ty (CH h)).1,CB ds t≠0:=λt ht e=>hz ⟨t,ht,e⟩;obtain ⟨vs,w1,w2,w3,w4,w5⟩:=MJ (ds:=ds) (g:=AO ds f) (λt ht=>let ⟨r,r1,_,r3⟩:=ih t ht;let ⟨v,v1,v2⟩:=r3 (hz t ht);⟨v,by rw [r1,v1],v2⟩) hz;have hi:=Wn ho hn hh w4;rw [w1,w5 1];exact ⟨some (CD h vs),rfl,λh=>by omega,λ_=>⟨_,rfl,by rw [hi.2];omega,QR ho hn hh w2 w3,hi.1⟩⟩
theorem Gq {ds:List Dt} (ho:OkW ds):∀(k:Nat) (t:Ty),AK ds t=true->Qz t=true->CB ds t<=k->∀f,k+2<=f->∃r,AO ds f (As t)=some r/\rW ds t r:=by
 intro k
 induction k with
 | zero =>
  intro t hn hs hk f hf;obtain ⟨f,rfl⟩:∃g,f=g+1:=⟨f-1,by omega⟩
  have hb:=(CA ho t).1;have h8:AI t=8:=by
   obtain ⟨so,n,x,ps⟩:=t;by_cases e:so=8
   ·exact e
   ·simp only [CB,Fz,if_neg e] at hk;omega
  have hc:=(PZ ho (m:=As t) hn h8).1 (by show CB ds t=0;omega);have hsm:AM ds (As t)=none:=by
   cases hq:AM ds (As t) with
   | none=>rfl
   | some h =>
    simp only [AM,Option.map_eq_some_iff] at hq;obtain ⟨p,hp,rfl⟩:=hq;obtain ⟨q1,_,_⟩:=EQ hp;rcases q1 with q1 | ⟨q1,q2,q3,_⟩
    ·cases q1
    ·exact absurd (by omega) (hc _ q1)
  refine ⟨none,?_,λ_=>rfl,λh=>absurd (by omega) h⟩;rw [Dz (m:=As t) rfl (show ¬AI t=1 by omega) (show ¬(AI t=4\/AI t=5\/AI t=6\/AI t=7) by omega),hsm]
 | succ k ih =>
  intro t hn hs hk f hf;obtain ⟨f,rfl⟩:∃g,f=g+1:=⟨f-1,by omega⟩
  have hs':=of_decide_eq_true hs;have h1:AI t≠8->CB ds t=1:=λh=>by obtain ⟨so,n,x,ps⟩:=t;simp only [CB,Fz];exact if_neg h
  by_cases t1:AI t=1
  ·have ho1:=h1 (by omega);refine ⟨some (Dy []),?_,λh=>by omega,λ_=>⟨_,rfl,by rw [ho1];rfl,?_,rfl⟩⟩
   ·exact Fq (m:=As t) rfl t1
   ·obtain ⟨so,n,x,ps⟩:=t;simp only [AI] at t1;subst t1;rfl
  by_cases t4:AI t=4\/AI t=5\/AI t=6\/AI t=7
  ·have ho1:=h1 (by omega);refine ⟨some (.mk 5 0 [] []),?_,λh=>by omega,λ_=>⟨_,rfl,by rw [ho1];rfl,?_,rfl⟩⟩
   ·exact Fp (m:=As t) rfl t4
   ·obtain ⟨so,n,x,ps⟩:=t;simp only [AI] at t4;simp only [IT];rw [if_neg (by omega),if_neg (by omega),if_neg (by omega),if_neg (by omega)];rfl
  have hun:=Dz (ds:=ds) (f:=f) (m:=As t) rfl t1 t4;rw [hun];have hall:∀h,h∈AB ds t->0<Be ds (As t) h->Be ds (As t) h<=k+1->∃r,AO ds (f+1) (Bm ds (As t) h)=some r/\(Be ds (As t) h=0->r=none)/\(0<Be ds (As t) h->∃v,r=some v/\(Aj v:Int)=Be ds (As t) h/\IT ds t v=true/\DH v=true):=by
   intro h hh h0 hc;refine HX ho (m:=As t) hn (.inl hh) λa ha=>?_;have ha:a∈(AW ds t (CH h)).1:=ha;have hna:=Co ho.okd (t:=t) (s:=CH h);rw [CM,List.all_eq_true] at hna;rw [KV ho (m:=As t) hn (.inl hh)] at h0 hc;have:=(NC ho h0).2 a ha;exact ih a (hna a ha) (H7 ho a ha) (by omega) f (by omega)
  have hpk:∀h,AM ds (As t)=some h->h∈AB ds t/\0<Be ds (As t) h/\∀h'∈AB ds t,0<Be ds (As t) h'->Be ds (As t) h<=Be ds (As t) h':=λh hq=>by
   simp only [AM,Option.map_eq_some_iff] at hq;obtain ⟨p,hp,rfl⟩:=hq;obtain ⟨q1,_,q3⟩:=EQ hp;rcases q1 with q1 | ⟨q1,q2,q4,_⟩
   ·cases q1
   ·exact ⟨q1,by omega,λh' hh' h0=>by rw [<- q2];exact q3 h' hh' h0 rfl⟩
  have hpn:AM ds (As t)=none->∀h'∈AB ds t,¬0<Be ds (As t) h':=λhq h' hh' h0=>by
   simp only [AM,Option.map_eq_none_iff] at hq;exact (KD hq).2 h' hh' ⟨h0,rfl⟩
  by_cases t8:AI t=8
  ·have hc:=PZ ho (m:=As t) hn t8;have hc1:CB ds t=0->∀h∈AB ds t,¬0<Be ds (As t) h:=hc.1;have hc2:CB ds t≠0->(∃h∈AB ds t,0<Be ds (As t) h/\Be ds (As t) h<=CB ds t)/\∀h∈AB ds t,0<Be ds (As t) h->CB ds t<=Be ds (As t) h:=hc.2;cases hq:AM ds (As t) with
   | none =>
    refine ⟨none,rfl,λ_=>rfl,λhz=>?_⟩;obtain ⟨⟨h,h1,h2,_⟩,_⟩:=hc2 hz;exact absurd h2 (hpn hq h h1)
   | some h =>
    obtain ⟨p1,p2,p3⟩:=hpk h hq;have hz:CB ds t≠0:=λe=>hc1 e h p1 p2;obtain ⟨⟨h0,a1,a2,a3⟩,a4⟩:=hc2 hz;have:=p3 h0 a1 a2;have:=a4 h p1 p2;obtain ⟨r,r1,_,r3⟩:=hall h p1 p2 (by omega);obtain ⟨v,v1,v2,v3⟩:=r3 p2;exact ⟨r,r1,λe=>absurd e hz,λ_=>⟨v,v1,by omega,v3⟩⟩
  ·have ho1:=h1 t8;have hcost:∀h∈AB ds t,Be ds (As t) h=1:=λh hh=>by
    unfold Be;rw [if_neg];intro h4;rcases FR ho hn hh with ⟨h8,_⟩ | ⟨_,n,rfl,_⟩ | ⟨_,rfl⟩
    ·exact t8 h8
    ·simp [AI] at h4
    ·simp [AI] at h4
   have hne:∃h,h∈AB ds t:=by
    obtain ⟨so,n,x,ps⟩:=t;simp only [AI] at *;by_cases e:so=2
    ·subst e;exact ⟨.mk 2 0 [] [],by simp [AB]⟩
    ·have e:so=3:=by omega
     subst e;exact ⟨.mk 3 0 [] [],by simp [AB]⟩
   cases hq:AM ds (As t) with
   | none =>
    obtain ⟨h,hh⟩:=hne;exact absurd (by rw [hcost h hh];omega) (hpn hq h hh)
   | some h =>
    obtain ⟨p1,p2,p3⟩:=hpk h hq;have hch:=hcost h p1;obtain ⟨r,r1,_,r3⟩:=hall h p1 p2 (by omega);obtain ⟨v,v1,v2,v3⟩:=r3 p2;exact ⟨r,r1,λe=>by omega,λ_=>⟨v,v1,by omega,v3⟩⟩
theorem W5 {ds:List Dt} (ho:OkW ds) {f:Nat} (hf:770<=f) {m:Mi} (hn:AK ds m.ty=true) (hs:Qz m.ty=true) (hnt:m.nt.length<=1000000) (hh:AI m.hd=0) :
  ∃r,AO ds (f+1) m=some r/\∀v,r=some v->Aj v<=769/\IT ds m.ty v=true/\DH v=true:=by
 have hs':=of_decide_eq_true hs;by_cases t1:AI m.ty=1
 ·refine ⟨_,Fq hh t1,λv hv=>?_⟩;cases hv;obtain ⟨n,e,e1,e2⟩:=I7 m.nt m.nt.length 0 (by omega);rw [Dy,e];refine ⟨by simp [Aj,Ag],?_,?_⟩
  ·revert t1;generalize m.ty=t;obtain ⟨so,n,x,ps⟩:=t;intro t1;simp only [AI] at t1;subst t1;rfl
  ·simp only [DH,FQ,Bool.and_true];exact decide_eq_true (by omega)
 by_cases t4:AI m.ty=4\/AI m.ty=5\/AI m.ty=6\/AI m.ty=7
 ·refine ⟨_,Fp hh t4,λv hv=>?_⟩;cases hv;refine ⟨by simp [Aj,Ag],?_,rfl⟩;revert t4;generalize m.ty=t;obtain ⟨so,n,x,ps⟩:=t;intro t4;simp only [AI] at t4;simp only [IT];rw [if_neg (by omega),if_neg (by omega),if_neg (by omega),if_neg (by omega)];rfl
 rw [Dz hh t1 t4];cases hq:AM ds m with
 | none=>exact ⟨none,rfl,λv hv=>by cases hv⟩
 | some h =>
  have hm:=Ho hq;simp only [AM,Option.map_eq_some_iff] at hq;obtain ⟨p,hp,rfl⟩:=hq;obtain ⟨q1,_,_⟩:=EQ hp;rcases q1 with q1 | ⟨_,q2,q3,_⟩
  ·cases q1
  have hce:=KV ho hn (.inl hm);have hup:=(NB ho (EY ho m.ty (CH p.1))).2;obtain ⟨r,r1,_,r3⟩:=HX ho (f:=f) hn (.inl hm) λa ha=>by
   have hna:=Co ho.okd (t:=m.ty) (s:=CH p.1);rw [CM,List.all_eq_true] at hna;exact Gq ho 256 a (hna a ha) (H7 ho a ha) (CA ho a).2 f (by omega)
  obtain ⟨v,v1,v2,v3⟩:=r3 (by omega);refine ⟨r,r1,λw hw=>?_⟩;rw [v1] at hw;cases hw;exact ⟨by omega,v3⟩
theorem Rk {ds:List Dt} {g:Mi->Option (Option Ty)} {B:Nat}:∀{ks:List Mi},(∀k∈ks,∃r,g k=some r/\∀v,r=some v->Aj v<=B/\IT ds k.ty v=true/\DH v=true) ->
  ∃o,Bu g ks=some o/\∀vs,o=some vs->ks.length=vs.length/\HA ds (ks.map Mi.ty) vs=true/\FQ vs=true/\Ag vs<=ks.length*B
 | [],_=>⟨some [],rfl,λvs h=>by cases h;exact ⟨rfl,rfl,rfl,by simp [Ag]⟩⟩
 | k::r,h=>by
  obtain ⟨x,x1,x2⟩:=h k (by simp);obtain ⟨o,o1,o2⟩:=Rk (ks:=r) (λy hy=>h y (by simp [hy]));cases x with
  | none=>exact ⟨none,by simp [Bu,x1],λvs h=>by cases h⟩
  | some v =>
   obtain ⟨v1,v2,v3⟩:=x2 v rfl;cases o with
   | none=>exact ⟨none,by simp [Bu,x1,o1],λvs h=>by cases h⟩
   | some vs =>
    obtain ⟨w1,w2,w3,w4⟩:=o2 vs rfl;refine ⟨some (v::vs),by simp [Bu,x1,o1],λus h=>?_⟩;cases h;refine ⟨by simp [w1],by simp [HA,v2,w2],by simp [FQ,v3,w3],?_⟩;simp only [Ag,List.length_cons,Nat.add_mul];omega
theorem dC {ds:List Dt} (ho:OkW ds) {N:Nat} (hN:N<=1000000):∀(H:Nat) (m:Mi),G0 ds N m=true->Do ds m->G6 m<=H->∀f,H+771<=f ->
  ∃r,AO ds f m=some r/\∀v,r=some v->Aj v<=1000*4 ^ H/\IT ds m.ty v=true/\DH v=true:=by
 intro H
 induction H with
 | zero=>intro m _ _ h;rw [Gf] at h;omega
 | succ H ih =>
  intro m hw hc hg f hf;obtain ⟨f,rfl⟩:∃g,f=g+1:=⟨f-1,by omega⟩
  have hwi:=Bb.1 hw;have hci:=B0.1 hc;have hp1:1<=4 ^ H:=Nat.one_le_pow _ _ (by decide);have hp2:4 ^ (H+1)=4*4 ^ H:=by rw [Nat.pow_succ];omega
  by_cases hh:AI m.hd=0
  ·obtain ⟨r,r1,r2⟩:=W5 ho (f:=f) (by omega) hwi.1.1 hwi.2.1.2 (by omega) hh;exact ⟨r,r1,λv hv=>by obtain ⟨a,b⟩:=r2 v hv;exact ⟨by omega,b⟩⟩
  ·rw [EW hh];obtain ⟨o,o1,o2⟩:=Rk (ds:=ds) (g:=AO ds f) (B:=1000*4 ^ H) (ks:=m.ks) λk hk=>ih k (hwi.2.2 k hk) (hci.2.2 k hk) (by have:=J5 hk;omega) f (by omega);refine ⟨o.map (CD m.hd),by rw [o1];rfl,λv hv=>?_⟩;cases o with
   | none=>cases hv
   | some vs =>
    simp only [Option.map_some,Option.some.injEq] at hv;obtain ⟨w1,w2,w3,w4⟩:=o2 vs rfl;obtain ⟨c1,c2⟩:=hci.2.1 hh;rw [c2] at w2;have hi:=Wn ho hwi.1.1 c1 w3;have hl:(AW ds m.ty (CH m.hd)).1.length=vs.length:=by rw [<- c2,List.length_map,w1]
    have h3:=hwi.1.2.1;subst hv;refine ⟨?_,QR ho hwi.1.1 c1 hl w2,hi.1⟩;rw [hi.2];have:m.ks.length*(1000*4 ^ H)<=3*(1000*4 ^ H):=Nat.mul_le_mul_right _ h3;omega
theorem Lo {g:Mi->Option (Option Ty)}:∀{l r:List Mi},l.length=r.length->(∀(i:Nat) a b,l[i]?=some a->r[i]?=some b->g a=g b)->Bu g l=Bu g r
 | [],[],_,_=>rfl
 | a::l,b::r,hl,h=>by
  simp only [Bu,h 0 a b rfl rfl,Lo (l:=l) (r:=r) (by simpa using hl) λi x y hx hy=>h (i+1) x y (by simpa using hx) (by simpa using hy)]
 | [],_::_,hl,_=>by simp at hl
 | _::_,[],hl,_=>by simp at hl
theorem CS {ds:List Dt} (m:Mi):(Ac ds m=m)\/(AI m.hd=0/\∃h,HV ds m=[h]/\Ac ds m=Bm ds m h):=by
 unfold Ac;by_cases hh:AI m.hd=0
 ·rw [if_neg (λh=>h hh)]
  split
  ·rename_i h e;exact .inr ⟨hh,h,e,rfl⟩
  ·exact .inl rfl
 ·rw [if_pos hh];exact .inl rfl
theorem P3 {ds:List Dt} (m:Mi):Ac ds (Ac ds m)=Ac ds m:=by
 rcases CS (ds:=ds) m with h | ⟨hh,h,h1,h2⟩
 ·rw [h,h]
 ·rw [h2];have:AI (Bm ds m h).hd≠0:=(B4 (DG h1).1).2;simp only [Ac,if_pos this]
theorem C2 {ds:List Dt} {m:Mi} (h:AI m.hd≠0):Ac ds m=m:=by simp only [Ac,if_pos h]
theorem S4 {ds:List Dt} (ho:OkW ds) {f:Nat} (hf:770<=f) {m:Mi} (hn:AK ds m.ty=true):AO ds (f+1) (Ac ds m)=AO ds (f+1) m:=by
 rcases CS (ds:=ds) m with h | ⟨hh,h,h1,h2⟩
 ·rw [h]
 rw [h2];obtain ⟨hm,hnt⟩:=DG h1;have hk:=FR ho hn hm;have t1:¬AI m.ty=1:=by rcases hk with ⟨a,_⟩ | ⟨a,_⟩ | ⟨a,_⟩ <;> omega
 have t4:¬(AI m.ty=4\/AI m.ty=5\/AI m.ty=6\/AI m.ty=7):=by rcases hk with ⟨a,_⟩ | ⟨a,_⟩ | ⟨a,_⟩ <;> omega
 rw [Dz hh t1 t4];have honly:∀x∈AB ds m.ty,BL m.nt x=false->x=h:=λx hx hxn=>by
  have:x∈HV ds m:=List.mem_filter.2 ⟨hx,by simp [hxn]⟩;rw [h1] at this;simpa using this
 cases hq:AM ds m with
 | some y =>
  have hy:=Ho hq;simp only [AM,Option.map_eq_some_iff] at hq;obtain ⟨p,hp,rfl⟩:=hq;obtain ⟨q1,_,_⟩:=EQ hp;rcases q1 with q1 | ⟨_,_,_,q4⟩
  ·cases q1
  ·rw [honly _ hy q4]
 | none =>
  simp only [AM,Option.map_eq_none_iff] at hq;have hc:=(KD hq).2 h hm;have hce:=KV ho hn (.inl hm);have hup:=(NB ho (EY ho m.ty (CH h))).1;obtain ⟨r,r1,r2,_⟩:=HX ho (f:=f) hn (.inl hm) λa ha=>by
   have hna:=Co ho.okd (t:=m.ty) (s:=CH h);rw [CM,List.all_eq_true] at hna;exact Gq ho 256 a (hna a ha) (H7 ho a ha) (CA ho a).2 f (by omega)
  rw [r1,r2 (by have:¬0<Be ds m h:=λh0=>hc ⟨h0,hnt⟩;omega)]
mutual
def stl (ds:List Dt) (m:Mi):Mi->Prop
 | .mk ty nt hd ks=>∃s,(s=m\/s=Ac ds m)/\s.ty=ty/\s.nt=nt/\s.hd=hd/\P2 ds s.ks ks
def P2 (ds:List Dt) (l:List Mi):List Mi->Prop
 | []=>l=[]
 | k::r=>∃a b,l=a::b/\stl ds a k/\P2 ds b r
end
theorem Fc {ds:List Dt}:∀{r l:List Mi},P2 ds l r↔l.length=r.length/\∀(i:Nat) a k,l[i]?=some a->r[i]?=some k->stl ds a k
 | [],l=>by
  simp only [P2,List.length_nil,List.length_eq_zero_iff];exact ⟨λh=>⟨h,λi a k _ hk=>by simp at hk⟩,λh=>h.1⟩
 | k::r,l=>by
  simp only [P2];constructor
  ·rintro ⟨a,b,rfl,h1,h2⟩;obtain ⟨h3,h4⟩:=Fc.1 h2;refine ⟨by simp [h3],λi x y hx hy=>?_⟩;cases i with
   | zero=>simp at hx hy;subst hx;subst hy;exact h1
   | succ i=>exact h4 i x y (by simpa using hx) (by simpa using hy)
  ·rintro ⟨h1,h2⟩;cases l with
   | nil=>simp at h1
   | cons a b=>exact ⟨a,b,rfl,h2 0 a k rfl rfl,Fc.2 ⟨by simpa using h1,λi x y hx hy=>h2 (i+1) x y (by simpa using hx) (by simpa using hy)⟩⟩
theorem GH {ds:List Dt} {m c:Mi}:stl ds m c↔∃s,(s=m\/s=Ac ds m)/\s.ty=c.ty/\s.nt=c.nt/\s.hd=c.hd/\P2 ds s.ks c.ks:=by
 obtain ⟨a,b,d,e⟩:=c;rfl
mutual
theorem DZ (ds:List Dt):∀m:Mi,stl ds m m
 | .mk ty nt hd ks=>⟨_,.inl rfl,rfl,rfl,rfl,KB ds ks⟩
theorem KB (ds:List Dt):∀l:List Mi,P2 ds l l
 | []=>rfl
 | k::r=>⟨k,r,rfl,DZ ds k,KB ds r⟩
end
theorem pY {ds:List Dt} {m c:Mi} (h:stl ds m c):m.ty=c.ty:=by
 obtain ⟨s,h1,h2,_⟩:=GH.1 h;rcases h1 with rfl | rfl
 ·exact h2
 ·rw [<- h2,Df]
theorem HG {ds:List Dt} {m c:Mi} (hm:Do ds m) (h:stl ds m c):(Ac ds m).ty=(Ac ds c).ty/\(Ac ds m).nt=(Ac ds c).nt/\(Ac ds m).hd=(Ac ds c).hd/\P2 ds (Ac ds m).ks (Ac ds c).ks:=by
 obtain ⟨s,h1,h2,h3,h4,h5⟩:=GH.1 h;rcases h1 with rfl | h1
 ·by_cases hh:AI s.hd=0
  ·have hk:=(B0.1 hm).1 hh;have hck:c.ks=[]:=by
    have:=(Fc.1 h5).1;rw [hk] at this;exact List.eq_nil_of_length_eq_zero this.symm
   have e:c=s:=by
    obtain ⟨a,b,d,e⟩:=c;obtain ⟨a',b',d',e'⟩:=s;simp only [Mi.ty,Mi.nt,Mi.hd,Mi.ks] at *;subst h2;subst h3;subst h4;rw [hk,hck]
   rw [e];exact ⟨rfl,rfl,rfl,KB ds _⟩
  ·rw [C2 hh,C2 (m:=c) (by rw [<- h4];exact hh)];exact ⟨h2,h3,h4,h5⟩
 ·rcases CS (ds:=ds) m with e | ⟨hh,x,e1,e2⟩
  ·rw [e] at h1;rw [h1] at h2 h3 h4 h5;by_cases hh:AI m.hd=0
   ·have hk:=(B0.1 hm).1 hh;have hck:c.ks=[]:=by
     have:=(Fc.1 h5).1;rw [hk] at this;exact List.eq_nil_of_length_eq_zero this.symm
    have e:c=m:=by
     obtain ⟨a,b,d,e⟩:=c;obtain ⟨a',b',d',e'⟩:=m;simp only [Mi.ty,Mi.nt,Mi.hd,Mi.ks] at *;subst h2;subst h3;subst h4;rw [hk,hck]
    rw [e];exact ⟨rfl,rfl,rfl,KB ds _⟩
   ·rw [C2 hh,C2 (m:=c) (by rw [<- h4];exact hh)];exact ⟨h2,h3,h4,h5⟩
  ·have hne:AI (Ac ds m).hd≠0:=by rw [e2];exact (B4 (DG e1).1).2
   subst h1;rw [C2 (m:=c) (by rw [<- h4];exact hne)];exact ⟨h2,h3,h4,h5⟩
theorem W9 {ds:List Dt} {m c:Mi} (h:m.ty=c.ty) (x:Ty):Bm ds m x=Bm ds c x:=by
 simp only [Bm,h]
theorem QF {ds:List Dt} {m c:Mi} (h1:m.ty=c.ty) (h2:m.nt=c.nt):∀(l:List Ty) (b:Option (Ty×Int)),DE ds m b l=DE ds c b l
 | [],b=>rfl
 | x::r,b=>by
  have hc:Be ds m x=Be ds c x:=by simp only [Be,h1]
  simp only [DE,hc,h2];exact QF h1 h2 r _
theorem Q2 {ds:List Dt} {m c:Mi} (h1:m.ty=c.ty) (h2:m.nt=c.nt):AM ds m=AM ds c:=by
 simp only [AM,h1,QF h1 h2]
theorem OZ {ds:List Dt} {m c:Mi} (f:Nat) (h1:m.ty=c.ty) (h2:m.nt=c.nt) (h3:AI m.hd=0) (h4:AI c.hd=0):AO ds (f+1) m=AO ds (f+1) c:=by
 by_cases t1:AI m.ty=1
 ·rw [Fq h3 t1,Fq h4 (by rw [<- h1];exact t1),h2]
 by_cases t4:AI m.ty=4\/AI m.ty=5\/AI m.ty=6\/AI m.ty=7
 ·rw [Fp h3 t4,Fp h4 (by rw [<- h1];exact t4)]
 rw [Dz h3 t1 t4,Dz h4 (by rw [<- h1];exact t1) (by rw [<- h1];exact t4),Q2 h1 h2];cases AM ds c with
 | none=>rfl
 | some x=>simp only [W9 h1]
theorem bQ {ds:List Dt} (ho:OkW ds) {N:Nat}:∀(H:Nat) (m c:Mi),G6 c<=H->G0 ds N m=true->stl ds m c->∀f,H+771<=f->AO ds f m=AO ds f c:=by
 intro H
 induction H with
 | zero=>intro m c h;rw [Gf] at h;omega
 | succ H ih =>
  intro m c hg hw hs f hf;obtain ⟨f,rfl⟩:∃g,f=g+1:=⟨f-1,by omega⟩
  obtain ⟨s,h1,h2,h3,h4,h5⟩:=GH.1 hs;have e:AO ds (f+1) m=AO ds (f+1) s/\G0 ds N s=true:=by
   rcases h1 with rfl | rfl
   ·exact ⟨rfl,hw⟩
   ·exact ⟨(S4 ho (by omega) (Bb.1 hw).1.1).symm,C9 ho hw⟩
  rw [e.1];by_cases hh:AI s.hd=0
  ·exact OZ f h2 h3 hh (by rw [<- h4];exact hh)
  ·rw [EW hh,EW (by rw [<- h4];exact hh),h4];obtain ⟨k1,k2⟩:=Fc.1 h5;rw [Lo k1 λi a b ha hb=>ih a b (by have:=J5 (List.mem_of_getElem? hb);omega) ((Bb.1 e.2).2.2 a (List.mem_of_getElem? ha)) (k2 i a b ha hb) f (by omega)]
theorem OX {g g':Mi->Option (Option Ty)} (h:∀k r,g k=some r->g' k=some r):∀{l:List Mi} {o:Option (List Ty)},Bu g l=some o->Bu g' l=some o
 | [],o,e=>e
 | k::r,o,e=>by
  simp only [Bu] at e ⊢;cases hk:g k with
  | none=>simp [hk] at e
  | some v =>
   rw [h k v hk];cases v with
   | none=>simpa [hk] using e
   | some v =>
    simp only [hk] at e ⊢;cases hr:Bu g r with
    | none=>simp [hr] at e
    | some q=>rw [OX h hr];simpa [hr] using e
theorem W6 {ds:List Dt}:∀(f:Nat) (m:Mi) (r:Option Ty),AO ds f m=some r->AO ds (f+1) m=some r:=by
 intro f
 induction f with
 | zero=>intro m r h;simp [AO] at h
 | succ f ih =>
  intro m r h;have hk:∀m r,AI m.hd≠0->AO ds (f+1) m=some r->AO ds (f+1+1) m=some r:=λm r hh h=>by
   rw [EW hh] at h ⊢;cases hl:Bu (AO ds f) m.ks with
   | none=>simp [hl] at h
   | some o=>rw [OX ih hl];simpa [hl] using h
  by_cases hh:AI m.hd=0
  ·by_cases t1:AI m.ty=1
   ·rw [Fq hh t1] at h ⊢;exact h
   by_cases t4:AI m.ty=4\/AI m.ty=5\/AI m.ty=6\/AI m.ty=7
   ·rw [Fp hh t4] at h ⊢;exact h
   rw [Dz hh t1 t4] at h ⊢;cases hq:AM ds m with
   | none=>rw [hq] at h;exact h
   | some x =>
    simp only [hq] at h ⊢;exact hk _ _ (B4 (Ho hq)).2 h
  ·exact hk m r hh h
theorem Ju {ds:List Dt} {f g:Nat} (hg:f<=g) {m:Mi} {r:Option Ty} (h:AO ds f m=some r):AO ds g m=some r:=by
 induction hg with
 | refl=>exact h
 | step _ ih=>exact W6 _ _ _ ih
mutual
theorem Hg {ds:List Dt}:∀(p:Ty) {m c:Mi},Do ds m->stl ds m c->Ar ds p m=Ar ds p c
 | .mk f n x ps,m,c,hm,hs=>by
  obtain ⟨_,h2,h3,h4⟩:=HG hm hs;simp only [Ar,h2,h3];rw [Ta ps (λk hk=>(B0.1 (C6 hm)).2.2 k hk) h4 0]
theorem Ta {ds:List Dt}:∀(ps:List Ty) {l r:List Mi},(∀k∈l,Do ds k)->P2 ds l r->∀i,AL ds i ps l=AL ds i ps r
 | [],_,_,_,_,i=>by simp only [AL]
 | p::ps,l,[],_,h,i=>by simp only [P2] at h;subst h;rfl
 | p::ps,l,k::r,hl,h,i=>by
  obtain ⟨a,b,rfl,h1,h2⟩:=h;simp only [AL,Hg p (hl a (by simp)) h1,Ta ps (λy hy=>hl y (by simp [hy])) h2]
end
mutual
def EF (ds:List Dt):Ty->Mi->Mi
 | .mk f n x ps,m=>if f=1\/f=2 then m else if AI (Ac ds m).hd=0\/AD (Ac ds m).hd (AQ (.mk f n x ps))=false then Ac ds m else
  .mk (Ac ds m).ty (Ac ds m).nt (Ac ds m).hd (Du ds ps (Ac ds m).ks)
def Du (ds:List Dt):List Ty->List Mi->List Mi
 | [],ks=>ks
 | _::_,[]=>[]
 | p::r,k::ks=>EF ds p k::if (Ar ds p k).1=1 then Du ds r ks else ks
end
mutual
theorem U7 {ds:List Dt}:∀(p:Ty) {m c:Mi},Do ds m->stl ds m c->stl ds m (EF ds p c)
 | .mk f n x ps,m,c,hm,hs=>by
  obtain ⟨h1,h2,h3,h4⟩:=HG hm hs;have hst:stl ds m (Ac ds c):=GH.2 ⟨Ac ds m,.inr rfl,h1,h2,h3,h4⟩;simp only [EF]
  split
  ·exact hs
  ·split
   ·exact hst
   ·exact GH.2 ⟨Ac ds m,.inr rfl,h1,h2,h3,VD ps (λk hk=>(B0.1 (C6 hm)).2.2 k hk) h4⟩
theorem VD {ds:List Dt}:∀(ps:List Ty) {l r:List Mi},(∀k∈l,Do ds k)->P2 ds l r->P2 ds l (Du ds ps r)
 | [],_,_,_,h=>by simpa only [Du] using h
 | p::ps,l,[],_,h=>by simpa only [Du] using h
 | p::ps,l,k::r,hl,h=>by
  obtain ⟨a,b,rfl,h1,h2⟩:=h;simp only [Du];refine ⟨a,b,rfl,U7 p (hl a (by simp)) h1,?_⟩
  split
  ·exact VD ps (λy hy=>hl y (by simp [hy])) h2
  ·exact h2
end
mutual
def XO (ds:List Dt):Ty->Mi->Nat
 | .mk f n x ps,m=>if f=1\/f=2 then 0 else if AI (Ac ds m).hd=0 then (if BL (Ac ds m).nt (AQ (.mk f n x ps))=true then 0 else 1+Ag ps) else
  if AD (Ac ds m).hd (AQ (.mk f n x ps))=false then 0 else P1 ds ps (Ac ds m).ks
def P1 (ds:List Dt):List Ty->List Mi->Nat
 | [],_=>0
 | _::_,[]=>0
 | p::r,k::ks=>XO ds p k+P1 ds r ks
end
mutual
theorem oT (ds:List Dt):∀(p:Ty) (m:Mi),XO ds p m<=Aj p
 | .mk f n x ps,m=>by
  have:=XU ds ps (Ac ds m).ks;simp only [XO,Aj]
  split
  ·omega
  ·split
   ·split <;> omega
   ·split <;> omega
theorem XU (ds:List Dt):∀(ps:List Ty) (l:List Mi),P1 ds ps l<=Ag ps
 | [],l=>by simp [P1]
 | p::r,[]=>by simp [P1]
 | p::r,k::ks=>by
  have h1:=oT ds p k;have h2:=XU ds r ks;simp only [P1,Ag];omega
end
theorem Rz (h:Ty):AD h h=true:=by obtain ⟨a,b,c,d⟩:=h;simp [AD]
theorem Hw (a b:Ty):AD a b=AD b a:=by
 obtain ⟨a1,a2,a3,a4⟩:=a;obtain ⟨b1,b2,b3,b4⟩:=b;simp only [AD];rw [Bool.eq_iff_iff];simp only [Bool.and_eq_true,beq_iff_eq];exact ⟨λ⟨⟨h1,h2⟩,h3⟩=>⟨⟨h1.symm,h2.symm⟩,h3.symm⟩,λ⟨⟨h1,h2⟩,h3⟩=>⟨⟨h1.symm,h2.symm⟩,h3.symm⟩⟩
theorem Ka {ds:List Dt} {t:Ty} {f n:Int} {x:Str} {ps:List Ty} (hn:AK ds t=true) (h:Cs ds t (.mk f n x ps)=true) (hp:BN (.mk f n x ps)=true) (h12:¬(f=1\/f=2)) :
  Kb ds t (AQ (.mk f n x ps))/\(AW ds t (CH (AQ (.mk f n x ps)))).1.length=ps.length/\Cr ds (AW ds t (CH (AQ (.mk f n x ps)))).1 ps=true/\BD ps=true:=by
 rw [NI] at h;obtain ⟨so,m,y,qs⟩:=t;simp only [BN,Bool.and_eq_true] at hp;obtain ⟨hb,hps⟩:=hp;have hz:∀t:Ty,AI t≠8->ps=[]->∀s,(AW ds t s).1.length=ps.length/\Cr ds (AW ds t s).1 ps=true:=λt ht he s=>by
  rw [FY ht,he];exact ⟨rfl,by simp [Cr]⟩
 simp only [Ea] at hb;simp only [KE] at h;by_cases h5:f=5
 ·subst h5;rw [if_pos (.inr rfl)] at hb;simp only [Bool.and_eq_true,beq_iff_eq] at hb;have he:ps=[]:=List.eq_nil_of_length_eq_zero (by omega);have hso:so=3:=by simpa using h
  subst hso;have:=hz (.mk 3 m y qs) (by simp [AI]) he (CH (AQ (.mk 5 n x ps)));exact ⟨.inl (by simp [AQ,AB]),this.1,this.2,hps⟩
 by_cases h3:f=3
 ·subst h3;rw [if_neg (by decide),if_neg (by decide),if_pos rfl] at hb;simp only [Bool.and_eq_true,beq_iff_eq,F4,decide_eq_true_eq] at hb;have he:ps=[]:=List.eq_nil_of_length_eq_zero (by omega);have hso:so=1:=by simpa using h
  subst hso;have:=hz (.mk 1 m y qs) (by simp [AI]) he (CH (AQ (.mk 3 n x ps)));exact ⟨.inr ⟨rfl,n,by simp [AQ],hb.2⟩,this.1,this.2,hps⟩
 by_cases h4:f=4
 ·subst h4;rw [if_neg (by decide),if_neg (by decide),if_neg (by decide),if_pos rfl] at hb;simp only [Bool.and_eq_true,beq_iff_eq,F4,decide_eq_true_eq] at hb;have he:ps=[]:=List.eq_nil_of_length_eq_zero (by omega);have hso:so=2:=by simpa using h
  subst hso;have:=hz (.mk 2 m y qs) (by simp [AI]) he (CH (AQ (.mk 4 n x ps)));have hn:n=0\/n=1:=by omega
  exact ⟨.inl (by rcases hn with rfl | rfl <;> simp [AQ,AB]),this.1,this.2,hps⟩
 have h6:f=6:=by
  have h1:f≠1:=λe=>h12 (.inl e);have h2:f≠2:=λe=>h12 (.inr e);rw [if_neg (by omega),if_neg (by omega),if_neg (by omega),if_neg (by omega)] at hb;by_cases e:f=6
  ·exact e
  ·rw [if_neg e] at hb;cases hb
 subst h6;rw [if_neg (by decide),if_neg (by decide),if_neg (by decide),if_pos rfl] at h;simp only [Bool.and_eq_true,decide_eq_true_eq] at h;have ht:AQ (.mk 6 n x ps) = .mk 4 0 x []:=rfl;rw [ht];refine ⟨.inl ?_,h.1,h.2.2,hps⟩;have hc:0<=(BO ds (.mk so m y qs) x).2:=by
  have:=h.2.1;simp only [AW] at this;by_cases e:0<=(BO ds (.mk so m y qs) x).2
  ·exact e
  ·simp [e] at this
 have h8:so=8:=by
  by_cases e:so=8
  ·exact e
  ·simp [BO,e] at hc
 subst h8;obtain ⟨_,d,hd⟩:=CN hn 8 m y qs rfl rfl;simp only [BO,if_true,hd] at hc;obtain ⟨c1,c2⟩:=IQ hc;rw [show AB ds (.mk 8 m y qs)=(match ds[(Bf y 0 ds).toNat]? with | some d=>d.cons.map λc=>Ty.mk 4 0 c.name [] | none=>[]) from rfl,hd];exact List.mem_map.2 ⟨_,c1,by rw [c2]⟩
theorem Ph {ds:List Dt} (ho:OkW ds):∀(p:Ty) {N:Nat} {m:Mi},G0 ds N m=true->Do ds m->Cs ds m.ty p=true->BN p=true->nV ds p m=true
 | .mk f n x ps,N,m,hw,hc,h,hp=>by
  simp only [nV,Bool.or_eq_true,Bool.and_eq_true,decide_eq_true_eq,Bool.not_eq_true'];by_cases h12:f=1\/f=2
  ·rcases h12 with h1 | h2
   ·exact .inl (.inl (.inl (.inl h1)))
   ·exact .inl (.inl (.inl (.inr h2)))
  by_cases h0:AI (Ac ds m).hd=0
  ·exact .inl (.inl (.inr h0))
  by_cases hE:AD (Ac ds m).hd (AQ (.mk f n x ps))=false
  ·exact .inl (.inr hE)
  right;obtain ⟨k1,k2,k3,k4⟩:=Ka (Bb.1 hw).1.1 h hp h12;have hsc:=B0.1 (C6 hc);have hsw:=Bb.1 (C9 ho hw);have htx:CH (Ac ds m).hd=CH (AQ (.mk f n x ps)):=by
   have:AD (Ac ds m).hd (AQ (.mk f n x ps))=true:=by simpa using hE
   revert this;generalize (Ac ds m).hd=a;generalize AQ (.mk f n x ps)=b;obtain ⟨a1,a2,a3,a4⟩:=a;obtain ⟨b1,b2,b3,b4⟩:=b;simp only [AD,CH,Bool.and_eq_true,beq_iff_eq];exact λh=>h.2
  have hks:=(hsc.2.1 h0).2;rw [htx,Df] at hks;have hl:ps.length=(Ac ds m).ks.length:=by rw [<- k2,<- hks,List.length_map]
  refine ⟨by omega,?_⟩;have key:∀(qs:List Ty) (l:List Mi),(∀q∈qs,q∈ps)->(∀k∈l,G0 ds N k=true/\Do ds k)->Cr ds (l.map Mi.ty) qs=true->BD qs=true->Uc ds qs l=true:=by
   intro qs
   induction qs with
   | nil=>intro l _ _ _ _;simp [Uc]
   | cons q r ih =>
    intro l hq hl h1 h2;cases l with
    | nil=>simp [Uc]
    | cons k l =>
     simp only [List.map_cons,Cr,BD,Bool.and_eq_true,Uc] at *;have:=List.sizeOf_lt_of_mem (hq q (by simp));exact ⟨Ph ho q (hl k (by simp)).1 (hl k (by simp)).2 h1.1 h2.1,ih l (λy hy=>hq y (by simp [hy])) (λy hy=>hl y (by simp [hy])) h1.2 h2.2⟩
  exact key ps _ (λq hq=>hq) (λk hk=>⟨hsw.2.2 k hk,hsc.2.2 k hk⟩) (by rw [hks];exact k3) k4
termination_by p=>SizeOf.sizeOf p
decreasing_by
 simp_wf;omega
structure Ask (ds:List Dt) (N:Nat) (p:Ty) (m:Mi) (path:List Int) (h:Ty):Prop where
 ok:EG ds m path
 prt:Br h=[]
 wf:∀is,G0 ds (N+1) (A0 ds m path h is)=true
 coh:∀is,Do ds (A0 ds m path h is)
 typ:∀is,(A0 ds m path h is).ty=m.ty
 hgt:∀is,G6 (A0 ds m path h is)<=max (G6 m) (path.length+2)
 less:∀is,XO ds p (A0 ds m path h is)<XO ds p m
 stl:∀is c,stl ds m c->stl ds (A0 ds m path h is) (A0 ds c path h is)
mutual
theorem U2 {ds:List Dt} {N M:Nat} (h:N<=M):∀m:Mi,G0 ds N m=true->G0 ds M m=true
 | .mk ty nt hd ks,hw=>by
  simp only [G0,Bool.and_eq_true,decide_eq_true_eq] at hw ⊢;obtain ⟨⟨⟨⟨a,b⟩,c⟩,d⟩,e⟩:=hw;exact ⟨⟨⟨⟨a,b⟩,by omega⟩,d⟩,V2 h ks e⟩
theorem V2 {ds:List Dt} {N M:Nat} (h:N<=M):∀l:List Mi,XS ds N l=true->XS ds M l=true
 | [],_=>rfl
 | k::r,hw=>by
  simp only [XS,Bool.and_eq_true] at hw ⊢;exact ⟨U2 h k hw.1,V2 h r hw.2⟩
end
theorem TG {ds:List Dt}:∀{ps:List Ty} {l:List Mi} {i:Int},(AL ds i ps l).1=2->∃(j:Nat) (p:Ty) (k:Mi),ps[j]?=some p/\l[j]?=some k/\(Ar ds p k).1=2/\(AL ds i ps l).2.1=(i+j)::(Ar ds p k).2.1/\(AL ds i ps l).2.2=(Ar ds p k).2.2
 | [],l,i,h=>by simp [AL] at h
 | p::r,[],i,h=>by simp [AL] at h
 | p::r,k::ks,i,h=>by
  simp only [AL] at h ⊢;by_cases h1:(Ar ds p k).1=1
  ·rw [if_pos h1] at h;obtain ⟨j,q,m,a,b,c,d,e⟩:=TG h;exact ⟨j+1,q,m,by simpa using a,by simpa using b,c,by rw [if_pos h1,d];congr 1;omega,by rw [if_pos h1,e]⟩
  ·rw [if_neg h1] at h;exact ⟨0,p,k,rfl,rfl,h,by rw [if_neg h1];simp,by rw [if_neg h1]⟩
theorem Zx {ds:List Dt}:∀{ps:List Ty} {l:List Mi} {j:Nat} {p:Ty} {k k':Mi},ps[j]?=some p->l[j]?=some k->XO ds p k'<XO ds p k->P1 ds ps (l.set j k')<P1 ds ps l
 | [],l,j,p,k,k',h,_,_=>by simp at h
 | q::r,[],j,p,k,k',_,h,_=>by simp at h
 | q::r,a::l,0,p,k,k',h1,h2,h3=>by
  simp at h1 h2;subst h1;subst h2;simp only [List.set_cons_zero,P1];omega
 | q::r,a::l,j+1,p,k,k',h1,h2,h3=>by
  have:=Zx (ds:=ds) (by simpa using h1) (by simpa using h2) h3;simp only [List.set_cons_succ,P1];omega
theorem EI {α:Type} {l:List α} {j:Nat} {a x:α} (h:x∈l.set j a):x∈l\/x=a:=List.mem_or_eq_of_mem_set h
theorem JX {ds:List Dt}:∀{l m:List Ty} {i:Nat} {a p:Ty},Cr ds l m=true->l[i]?=some a->m[i]?=some p->Cs ds a p=true
 | [],_,i,a,p,_,ha,_=>by simp at ha
 | _::_,[],i,a,p,_,_,hp=>by simp at hp
 | x::l,y::m,0,a,p,h,ha,hp=>by simp only [Cr,Bool.and_eq_true] at h;simp at ha hp;subst ha;subst hp;exact h.1
 | x::l,y::m,i+1,a,p,h,ha,hp=>by simp only [Cr,Bool.and_eq_true] at h;exact JX h.2 (by simpa using ha) (by simpa using hp)
theorem OJ {l:List Ty} {i:Nat} {p:Ty} (h:BD l=true) (hp:l[i]?=some p):BN p=true:=by
 induction l generalizing i with
 | nil=>simp at hp
 | cons a r ih =>
  simp only [BD,Bool.and_eq_true] at h;cases i with
  | zero=>simp at hp;subst hp;exact h.1
  | succ i=>exact ih h.2 (by simpa using hp)
theorem IK {a b:Ty} (h:AD a b=true):CH a=CH b:=by
 obtain ⟨a1,a2,a3,a4⟩:=a;obtain ⟨b1,b2,b3,b4⟩:=b;simp only [AD,CH,Bool.and_eq_true,beq_iff_eq] at *;exact h.2
theorem H6 {ds:List Dt} (ho:OkW ds):∀(p:Ty) {N:Nat} {m:Mi},G0 ds N m=true->Do ds m->Cs ds m.ty p=true->BN p=true->(Ar ds p m).1=2->Ask ds N p m (Ar ds p m).2.1 (Ar ds p m).2.2
 | .mk f n x ps,N,m,hw,hc,hpt,hps,hl=>by
  have hwi:=Bb.1 hw;have hci:=B0.1 hc;by_cases h12:f=1\/f=2
  ·exfalso;simp only [Ar,if_pos h12] at hl;cases hl
  obtain ⟨k1,k2,k3,k4⟩:=Ka hwi.1.1 hpt hps h12;by_cases hA:AI (Ac ds m).hd=0/\BL (Ac ds m).nt (AQ (.mk f n x ps))=false
  ·have e:Ar ds (.mk f n x ps) m=(2,[],AQ (.mk f n x ps)):=by simp only [Ar,if_neg h12,if_pos hA]
   have hu:XO ds (.mk f n x ps) m=1+Ag ps:=by simp only [XO,if_neg h12,if_pos hA.1,hA.2];rfl
   rw [e];obtain ⟨hA1,hA2⟩:=hA;have hset:Ac ds m=m:=by
    rcases CS (ds:=ds) m with h | ⟨hh,h,h1,h2⟩
    ·exact h
    ·rw [h2] at hA1;exact absurd hA1 (B4 (DG h1).1).2
   rw [hset] at hA1 hA2;generalize hH:AQ (.mk f n x ps)=h at *;have hfm:=M8 k1;refine ⟨by simp [EG],hfm.2,λis=>?_,λis=>?_,λis=>?_,λis=>?_,λis=>?_,λis c hs=>?_⟩
   ·cases is
    ·simp only [A0];exact Bb.2 ⟨⟨hwi.1.1,hwi.1.2.1,by simp [Mi.nt] at *;exact hwi.1.2.2⟩,hwi.2.1,λk hk=>U2 (by omega) k (hwi.2.2 k hk)⟩
    ·simp only [A0];exact Ml ho hwi.1.1 hwi.2.1.2 hfm.2
   ·cases is
    ·simp only [A0];exact B0.2 hci
    ·simp only [A0];exact Ok k1
   ·cases is <;> rfl
   ·cases is
    ·simp only [A0,Gf,Mi.ks];omega
    ·simp only [A0];have:=TU ds m h;omega
   ·rw [hu];cases is
    ·simp only [A0,XO,if_neg h12,hH];rcases CS (ds:=ds) (.mk m.ty (m.nt++[h]) m.hd m.ks) with e | ⟨hh,y,y1,y2⟩
     ·rw [e];have hh0:AI (Mi.mk m.ty (m.nt++[h]) m.hd m.ks).hd=0:=hA1;rw [if_pos hh0,if_pos (by simp [Mi.nt,BL,Rz])];omega
     ·rw [y2];have hy:=DG y1;rw [if_neg (show ¬AI (Bm ds (.mk m.ty (m.nt++[h]) m.hd m.ks) y).hd=0 from (B4 hy.1).2)];have hne:AD y h=false:=by
       have:AD h y=false:=by
        have h2:=hy.2;simp only [BL,Mi.nt,List.any_append,List.any_cons,List.any_nil,Bool.or_false,Bool.or_eq_false_iff] at h2;exact h2.2
       rw [Hw];exact this
      rw [if_pos (show AD (Bm ds (.mk m.ty (m.nt++[h]) m.hd m.ks) y).hd h=false from hne)];omega
    ·simp only [A0,XO,if_neg h12,hH];rw [C2 (show AI (Bm ds m h).hd≠0 from hfm.1),if_neg (show ¬AI (Bm ds m h).hd=0 from hfm.1)];have:=XU ds ps (Bm ds m h).ks
     split <;> omega
   ·have hty:=pY hs;cases is
    ·simp only [A0];obtain ⟨s,s1,s2,s3,s4,s5⟩:=GH.1 hs;have:s=m:=by rcases s1 with rfl | rfl;rfl;exact hset
     subst this;exact GH.2 ⟨_,.inl rfl,s2,by show s.nt++[h]=c.nt++[h];rw [s3],s4,s5⟩
    ·simp only [A0];rw [W9 hty];exact DZ ds _
  ·have hB:AI (Ac ds m).hd≠0/\AD (Ac ds m).hd (AQ (.mk f n x ps))=true/\Ar ds (.mk f n x ps) m=AL ds 0 ps (Ac ds m).ks:=by
    simp only [Ar,if_neg h12,if_neg hA] at hl ⊢;by_cases hC:AI (Ac ds m).hd=0\/AD (Ac ds m).hd (AQ (.mk f n x ps))=false
    ·rw [if_pos hC] at hl;cases hl
    ·rw [if_neg hC];exact ⟨λh=>hC (.inl h),by cases hb:AD (Ac ds m).hd (AQ (.mk f n x ps)) with | true=>rfl | false=>exact absurd (.inr hb) hC,rfl⟩
   obtain ⟨hB1,hB2,hB3⟩:=hB;rw [hB3] at hl ⊢;obtain ⟨j,q,k,j1,j2,j3,j4,j5⟩:=TG hl;rw [j4,j5,Int.zero_add];have hsw:=C9 ho hw;have hswi:=Bb.1 hsw;have hsc:=C6 (ds:=ds) hc;have hsci:=B0.1 hsc;have hkm:=List.mem_of_getElem? j2;have hks:=(hsci.2.1 hB1).2;rw [IK hB2,Df] at hks;have hkt:(AW ds m.ty (CH (AQ (.mk f n x ps)))).1[j]?=some k.ty:=by rw [<- hks];simp [j2]
   have:=List.sizeOf_lt_of_mem (List.mem_of_getElem? j1);have A:=H6 ho q (hswi.2.2 k hkm) (hsci.2.2 k hkm) (JX k3 hkt j1) (OJ k4 j1) j3;generalize (Ar ds q k).2.1=path at *;generalize (Ar ds q k).2.2=h at *;have eS:∀is,A0 ds m ((j:Int)::path) h is = .mk (Ac ds m).ty (Ac ds m).nt (Ac ds m).hd ((Ac ds m).ks.set j (A0 ds k path h is)):=λis=>by
    simp only [A0,Int.toNat_natCast,j2]
   have hjl:=(List.getElem?_eq_some_iff.1 j2).1;refine ⟨⟨by omega,k,by simpa using j2,A.ok⟩,A.prt,λis=>?_,λis=>?_,λis=>?_,λis=>?_,λis=>?_,λis c hs=>?_⟩
   ·rw [eS];refine Bb.2 ⟨⟨hswi.1.1,by simpa [Mi.ks] using hswi.1.2.1,by have:=hswi.1.2.2;show (Ac ds m).nt.length<=N+1;omega⟩,hswi.2.1,λy hy=>?_⟩;rcases EI hy with hy | rfl
    ·exact U2 (by omega) y (hswi.2.2 y hy)
    ·exact A.wf is
   ·rw [eS];refine B0.2 ⟨λh0=>absurd h0 hB1,λ_=>⟨(hsci.2.1 hB1).1,?_⟩,λy hy=>?_⟩
    ·show ((Ac ds m).ks.set j (A0 ds k path h is)).map Mi.ty=(AW ds (Ac ds m).ty (CH (Ac ds m).hd)).1;rw [<- (hsci.2.1 hB1).2];simp only [List.map_set,A.typ];apply List.ext_getElem?;intro i;rw [List.getElem?_set]
     split
     ·rename_i e;subst e;rw [if_pos (by simpa using hjl)];simp [j2]
     ·rfl
    ·rcases EI hy with hy | rfl
     ·exact hsci.2.2 y hy
     ·exact A.coh is
   ·rw [eS];exact Df ds m
   ·rw [eS,Gf];have h1:=Ko ds m;have h2:Gr ((Ac ds m).ks.set j (A0 ds k path h is))<=max (G6 m) (path.length+3)-1:=MN.2 λy hy=>by
     rcases EI hy with hy | rfl
     ·have:=J5 hy;omega
     ·have:=A.hgt is;have:=J5 hkm;omega
    simp only [Mi.ks,List.length_cons] at *;omega
   ·rw [eS];have e1:XO ds (.mk f n x ps) m=P1 ds ps (Ac ds m).ks:=by
     simp only [XO,if_neg h12,if_neg hB1,hB2];rfl
    have hB2':AD (Mi.mk (Ac ds m).ty (Ac ds m).nt (Ac ds m).hd ((Ac ds m).ks.set j (A0 ds k path h is))).hd (AQ (.mk f n x ps))=true:=hB2;have e2:XO ds (.mk f n x ps) (.mk (Ac ds m).ty (Ac ds m).nt (Ac ds m).hd ((Ac ds m).ks.set j (A0 ds k path h is)))=P1 ds ps ((Ac ds m).ks.set j (A0 ds k path h is)):=by
     simp only [XO,if_neg h12];rw [C2 (show AI (Mi.mk (Ac ds m).ty (Ac ds m).nt (Ac ds m).hd ((Ac ds m).ks.set j (A0 ds k path h is))).hd≠0 from hB1),if_neg (show ¬AI (Mi.mk (Ac ds m).ty (Ac ds m).nt (Ac ds m).hd ((Ac ds m).ks.set j (A0 ds k path h is))).hd=0 from hB1),hB2'];rfl
    rw [e1,e2];exact Zx j1 j2 (A.less is)
   ·obtain ⟨t1,t2,t3,t4⟩:=HG hc hs;obtain ⟨u1,u2⟩:=Fc.1 t4;obtain ⟨kc,hkc⟩:∃kc,(Ac ds c).ks[j]?=some kc:=⟨_,List.getElem?_eq_getElem (by omega)⟩
    have eC:A0 ds c ((j:Int)::path) h is = .mk (Ac ds c).ty (Ac ds c).nt (Ac ds c).hd ((Ac ds c).ks.set j (A0 ds kc path h is)):=by
     simp only [A0,Int.toNat_natCast,hkc]
    rw [eS,eC];refine GH.2 ⟨_,.inl rfl,t1,t2,t3,Fc.2 ⟨by simpa [Mi.ks] using u1,λi a b ha hb=>?_⟩⟩;change ((Ac ds m).ks.set j (A0 ds k path h is))[i]?=some a at ha;change ((Ac ds c).ks.set j (A0 ds kc path h is))[i]?=some b at hb;rw [List.getElem?_set] at ha hb;by_cases e:j=i
    ·subst e;rw [if_pos rfl,if_pos hjl] at ha;rw [if_pos rfl,if_pos (by omega)] at hb;cases ha;cases hb;exact A.stl is kc (u2 j k kc j2 hkc)
    ·rw [if_neg e] at ha hb;exact u2 i a b ha hb
termination_by p=>SizeOf.sizeOf p
decreasing_by
 simp_wf;omega
def Jh (ds:List Dt) (t:Ty) (l:List (Ty×Int)):Prop:=∀x∈l,Cs ds t x.1=true/\BN x.1=true/\Aj x.1<=12
def FB (l:List (Ty×Int)):Nat:=(l.map λx=>Aj x.1+1).sum
def JE (ds:List Dt) (m:Mi):List (Ty×Int)->Nat
 | []=>0
 | (p,_)::r=>XO ds p m+1+FB r
theorem Ki (ds:List Dt) (m:Mi) (l:List (Ty×Int)):JE ds m l<=FB l:=by
 cases l with
 | nil=>simp [JE,FB]
 | cons x r =>
  obtain ⟨p,b⟩:=x;have:=oT ds p m;simp only [JE,FB,List.map_cons,List.sum_cons];omega
def O2 (ds:List Dt) (t:Ty) (v:Ty):Prop:=IT ds t v=true/\DH v=true/\Aj v<=1000000000000
theorem U8 {ds:List Dt} (a b:Option Ty):HI ds a b=a\/HI ds a b=b:=by
 cases a with
 | none=>exact .inr rfl
 | some a =>
  cases b with
  | none=>exact .inl rfl
  | some b=>simp only [HI];split <;> simp
structure MOk (ds:List Dt) (t:Ty) (N:Nat) (m:Mi):Prop where
 wf:G0 ds N m=true
 coh:Do ds m
 typ:m.ty=t
 hgt:G6 m<=14
theorem MOk.split {ds:List Dt} (ho:OkW ds) {t:Ty} {N:Nat} {m:Mi} (h:MOk ds t N m) {p:Ty} (h1:Cs ds t p=true) (h2:BN p=true) (h3:Aj p<=12) (hl:(Ar ds p m).1=2) (is:Bool):MOk ds t (N+1) (A0 ds m (Ar ds p m).2.1 (Ar ds p m).2.2 is):=by
 have A:=H6 ho p h.wf h.coh (by rw [h.typ];exact h1) h2 hl;have hp:=IC ds p m;exact ⟨A.wf is,A.coh is,by rw [A.typ,h.typ],by have:=A.hgt is;have:=h.hgt;omega⟩
theorem MOk.least {ds:List Dt} (ho:OkW ds) {t:Ty} {N:Nat} (hN:N<=1000000) {m:Mi} (h:MOk ds t N m):∃r,jO ds m=some r/\∀v,r=some v->O2 ds t v:=by
 obtain ⟨r,r1,r2⟩:=dC ho hN 14 m h.wf h.coh h.hgt 1000 (by omega);refine ⟨r,r1,λv hv=>?_⟩;obtain ⟨a,b,c⟩:=r2 v hv;exact ⟨by rw [<- h.typ];exact b,c,by omega⟩
theorem IY {ds:List Dt} (ho:OkW ds) (t:Ty):∀(f N:Nat) (m:Mi) (l:List (Ty×Int)),N+f<=1000000->MOk ds t N m->Jh ds t l->JE ds m l<f->∃r,C3 ds f m l=some r/\∀v,r=some v->O2 ds t v:=by
 intro f
 induction f with
 | zero=>intro N m l _ _ _ h;omega
 | succ f ih =>
  intro N m l hN hm hr hf;cases l with
  | nil=>exact hm.least ho (by omega)
  | cons x r =>
   obtain ⟨p,b⟩:=x;obtain ⟨h1,h2,h3⟩:=hr (p,b) (by simp);simp only [JE] at hf;simp only [C3];by_cases hl:(Ar ds p m).1=2
   ·rw [if_pos hl];have A:=H6 ho p hm.wf hm.coh (by rw [hm.typ];exact h1) h2 hl;obtain ⟨x,x1,x2⟩:=ih (N+1) _ ((p,b)::r) (by omega) (hm.split ho h1 h2 h3 hl true) hr (by have:=A.less true;simp only [JE];omega);obtain ⟨y,y1,y2⟩:=ih (N+1) _ ((p,b)::r) (by omega) (hm.split ho h1 h2 h3 hl false) hr (by have:=A.less false;simp only [JE];omega);rw [x1,y1];refine ⟨HI ds x y,rfl,λv hv=>?_⟩;rcases U8 (ds:=ds) x y with e | e
    ·exact x2 v (by rw [<- e];exact hv)
    ·exact y2 v (by rw [<- e];exact hv)
   ·rw [if_neg hl]
    split
    ·exact ih N m r (by omega) hm (λx hx=>hr x (by simp [hx])) (by have:=Ki ds m r;omega)
    ·exact ⟨none,rfl,λv hv=>by cases hv⟩
theorem QN {c:Cse} {t v:Ty} (ht:c.type=t) (h:O2 c.datas t v):ZN c v:=by subst ht;exact ⟨h.1,h.2.1,by have:=h.2.2;omega⟩
end Go.Hk
namespace Go.Hk
section
variable {P:Program} {n:Nat} {F:List Nat} {Q:DQ} {tt:TT} {env env':Env} {st st':St} {ids ids':List Nat} {k todo todo':List DI} {I:Imm} {μ:Mu} {w:World} {a:Act} {Pn:V->Prop} {d:D} {cx:Prop} {ob:List Prop}
end
end Go.Hk
namespace Go.Hk
open Go.Proofs
def GJ (ds:List Dt) (m:Mi) (l:List (Ty×Int)):Option Ty:=(C3 ds 60 m l).getD none
theorem LC {ds:List Dt} (ho:OkW ds) {t:Ty} {N:Nat} {m:Mi} {l:List (Ty×Int)} (hN:N<=999000) (hm:MOk ds t N m) (hr:Jh ds t l) (hc:FB l<60):C3 ds 60 m l=some (GJ ds m l)/\∀v,GJ ds m l=some v->O2 ds t v:=by
 obtain ⟨r,r1,r2⟩:=IY ho t 60 N m l (by omega) hm hr (by have:=Ki ds m l;omega);have e:GJ ds m l=r:=by simp only [GJ,r1,Option.getD_some]
 rw [e];exact ⟨r1,r2⟩
def EL (rows:List Ty) (row:Int):List (Ty×Int):=if row<0 then rows.map (·,(0:Int)) else (rows.take row.toNat).map (·,(0:Int))++(match rows[row.toNat]? with
 | some p=>[(p,1)]
 | none=>[])
def F3 (c:Cse) (m:Mi) (row:Int):Option Ty:=GJ c.datas m (EL c.rows row)
structure RowsOk (c:Cse):Prop where
 pat:∀p∈c.rows,Cs c.datas c.type p=true/\BN p=true/\Aj p<=12
 len:c.rows.length<=5
 sum:Ag c.rows<=30
theorem Vh (a b:List (Ty×Int)):FB (a++b)=FB a+FB b:=by simp [FB]
theorem Uo (l:List Ty) (b:Int):FB (l.map (·,b))=Ag l+l.length:=by
 induction l with
 | nil=>rfl
 | cons p r ih=>simp only [List.map_cons,FB,List.sum_cons,Ag,List.length_cons] at *;omega
theorem Zw {c:Cse} (h:RowsOk c) (row:Int):Jh c.datas c.type (EL c.rows row)/\FB (EL c.rows row)<60:=by
 have hl:=h.len;have hs:=h.sum;unfold EL
 split
 ·refine ⟨λx hx=>?_,by rw [Uo];omega⟩;obtain ⟨p,hp,rfl⟩:=List.mem_map.1 hx;exact h.pat p hp
 ·constructor
  ·intro x hx;rcases List.mem_append.1 hx with hx | hx
   ·obtain ⟨p,hp,rfl⟩:=List.mem_map.1 hx;exact h.pat p (List.mem_of_mem_take hp)
   ·split at hx
    ·rename_i p hp;rw [List.mem_singleton.1 hx];exact h.pat p (List.mem_of_getElem? hp)
    ·cases hx
  ·rw [Vh,Uo];have h1:Ag (c.rows.take row.toNat)<=30:=by
    have e:=BA (c.rows.take row.toNat) (c.rows.drop row.toNat);rw [List.take_append_drop] at e;omega
   have h2:(c.rows.take row.toNat).length<=5:=by rw [List.length_take];omega
   have h3:FB (match c.rows[row.toNat]? with | some p=>[(p,1)] | none=>[])<=13:=by
    split
    ·rename_i p hp;have:=(h.pat p (List.mem_of_getElem? hp)).2.2;simp [FB];omega
    ·simp [FB]
   omega
def Ns (c:Cse) (p q:Ty):Option Ty:=GJ c.datas (As c.type) [(p,1),(q,1)]
def CQ (c:Cse):Nat->List Int
 | 0=>[]
 | i+1=>CQ c i++(if (F3 c (As c.type) i).isSome then [] else [(i:Int)])
theorem JL (c:Cse):∀i,(CQ c i).length<=i
 | 0=>Nat.le_refl _
 | i+1=>by
  have:=JL c i;simp only [CQ,List.length_append]
  split <;> simp <;> omega
mutual
theorem VN {ds:List Dt} (ho:OkW ds) {N:Nat}:∀(p:Ty) {m:Mi},G0 ds N m=true->Do ds m->G0 ds N (EF ds p m)=true/\Do ds (EF ds p m)/\(EF ds p m).ty=m.ty/\G6 (EF ds p m)<=max (G6 m) (Aj p+2)
 | .mk f n x ps,m,hw,hc=>by
  have hsw:=C9 ho hw;have hsc:=C6 (ds:=ds) hc;have hsh:=Ko ds m;have hst:=Df ds m;simp only [EF,Aj]
  split
  ·exact ⟨hw,hc,rfl,by omega⟩
  ·split
   ·exact ⟨hsw,hsc,hst,by omega⟩
   ·rename_i h1 h2;generalize Ac ds m=s at *;obtain ⟨ty,nt,hd,ks⟩:=s;obtain ⟨a1,a2,a3⟩:=Tg ho ps (l:=ks) (λk hk=>⟨(Bb.1 hsw).2.2 k hk,(B0.1 hsc).2.2 k hk⟩);have hlen:(Du ds ps ks).length=ks.length:=by simpa using congrArg List.length a2
    have w:=Bb.1 hsw;have cc:=B0.1 hsc;rw [Gf] at hsh;simp only [Mi.ty,Mi.nt,Mi.hd,Mi.ks] at w cc hsh hst h2 ⊢;refine ⟨Bb.2 ⟨⟨w.1.1,by show (Du ds ps ks).length<=3;rw [hlen];exact w.1.2.1,w.1.2.2⟩,w.2.1,λk hk=>(a1 k hk).1⟩,B0.2 ⟨λh=>absurd (.inl h) h2,λh=>⟨(cc.2.1 h).1,by show (Du ds ps ks).map Mi.ty=_;rw [a2];exact (cc.2.1 h).2⟩,λk hk=>(a1 k hk).2⟩,hst,?_⟩;rw [Gf];simp only [Mi.ks];omega
theorem Tg {ds:List Dt} (ho:OkW ds) {N:Nat}:∀(ps:List Ty) {l:List Mi},(∀k∈l,G0 ds N k=true/\Do ds k)->(∀k∈Du ds ps l,G0 ds N k=true/\Do ds k)/\(Du ds ps l).map Mi.ty=l.map Mi.ty/\Gr (Du ds ps l)<=max (Gr l) (Ag ps+2)
 | [],l,h=>⟨by simpa only [Du] using h,by simp only [Du],by simp only [Du];omega⟩
 | p::r,[],h=>⟨by simpa only [Du] using h,by simp only [Du],by simp [Du,Gr]⟩
 | p::r,k::ks,h=>by
  obtain ⟨b1,b2,b3,b4⟩:=VN ho p (h k (by simp)).1 (h k (by simp)).2;obtain ⟨c1,c2,c3⟩:=Tg ho r (l:=ks) (λy hy=>h y (by simp [hy]));simp only [Du]
  split
  ·refine ⟨λy hy=>?_,by simp only [List.map_cons,b3,c2],by simp only [Gr,Ag];omega⟩;rcases List.mem_cons.1 hy with rfl | hy
   ·exact ⟨b1,b2⟩
   ·exact c1 y hy
  ·refine ⟨λy hy=>?_,by simp only [List.map_cons,b3],by simp only [Gr,Ag];omega⟩;rcases List.mem_cons.1 hy with rfl | hy
   ·exact ⟨b1,b2⟩
   ·exact h y (by simp [hy])
end
mutual
theorem Hu (ds:List Dt):∀(p:Ty) (m:Mi),(Ar ds p m).1=0\/(Ar ds p m).1=1\/(Ar ds p m).1=2
 | .mk f n x ps,m=>by
  have h:=OS ds ps (Ac ds m).ks 0;simp only [Ar]
  split
  ·exact .inr (.inl rfl)
  ·split
   ·exact .inr (.inr rfl)
   ·split
    ·exact .inl rfl
    ·exact h
theorem OS (ds:List Dt):∀(ps:List Ty) (l:List Mi) (i:Int),(AL ds i ps l).1=0\/(AL ds i ps l).1=1\/(AL ds i ps l).1=2
 | [],l,i=>.inr (.inl (by simp only [AL]))
 | p::r,[],i=>.inr (.inl (by simp only [AL]))
 | p::r,k::ks,i=>by
  have h1:=Hu ds p k;have h2:=OS ds r ks (i+1);simp only [AL]
  split
  ·exact h2
  ·exact h1
end
theorem MOk.see {ds:List Dt} (ho:OkW ds) {t:Ty} {N:Nat} {m:Mi} (h:MOk ds t N m) {p:Ty} (hp:Aj p<=12):MOk ds t N (EF ds p m):=by
 obtain ⟨a,b,c,d⟩:=VN ho p h.wf h.coh;have:=h.hgt;exact ⟨a,b,by rw [c,h.typ],by omega⟩
def Mk (x:Ty×Int):V:=.iface (if x.2=1 then 139 else 201) (.agg (dTyc x.1))
def C1 (l:List (Ty×Int)):List (List V):=l.map λx=>[Mk x]
@[simp] theorem wishVs_length (l:List (Ty×Int)):(C1 l).length=l.length:=by simp [C1]
theorem So (a b:List (Ty×Int)):C1 (a++b)=C1 a++C1 b:=by simp [C1]
theorem XR {l:List (Ty×Int)} {i:Nat} {x:Ty×Int} (h:l[i]?=some x):(C1 l)[i]?=some [Mk x]:=by simp [C1,h]
theorem Vz (l:List (Ty×Int)) (i:Nat):(C1 l).drop i=C1 (l.drop i):=by simp [C1,List.map_drop]
def HN (ds:List Dt) (t v:Ty):Prop:=IT ds t v=true/\Dh v=true
mutual
def Iu (ds:List Dt):Mi->Ty->Prop
 | .mk ty nt hd ks,v=>HN ds ty v/\(AI hd=0->BL nt v=false)/\(AI hd≠0->AD hd v=true/\DU ds ks (Br v))
def DU (ds:List Dt):List Mi->List Ty->Prop
 | [],vs=>vs=[]
 | _::_,[]=>False
 | k::r,v::vs=>Iu ds k v/\DU ds r vs
end
theorem B3 {ds:List Dt} {m:Mi} {v:Ty}:Iu ds m v↔HN ds m.ty v/\(AI m.hd=0->BL m.nt v=false)/\(AI m.hd≠0->AD m.hd v=true/\DU ds m.ks (Br v)):=by
 obtain ⟨a,b,c,d⟩:=m;simp only [Iu,Mi.ty,Mi.nt,Mi.hd,Mi.ks]
theorem II {ds:List Dt}:∀{ks:List Mi} {vs:List Ty},DU ds ks vs↔ks.length=vs.length/\∀(i:Nat) k v,ks[i]?=some k->vs[i]?=some v->Iu ds k v
 | [],vs=>by
  simp only [DU,List.length_nil];constructor
  ·rintro rfl;exact ⟨rfl,λi k v h=>by simp at h⟩
  ·rintro ⟨h,_⟩;exact List.eq_nil_of_length_eq_zero h.symm
 | _::_,[]=>by simp [DU]
 | k::r,v::vs=>by
  simp only [DU,II (ks:=r) (vs:=vs),List.length_cons,Nat.add_right_cancel_iff];constructor
  ·rintro ⟨h1,h2,h3⟩;refine ⟨h2,λi a b ha hb=>?_⟩;cases i with
   | zero=>simp at ha hb;subst ha;subst hb;exact h1
   | succ i=>exact h3 i a b (by simpa using ha) (by simpa using hb)
  ·rintro ⟨h1,h2⟩;exact ⟨h2 0 k v rfl rfl,h1,λi a b ha hb=>h2 (i+1) a b (by simpa using ha) (by simpa using hb)⟩
theorem HY {a b c:Ty} (h1:AD a b=true):AD a c=AD b c:=by
 obtain ⟨a1,a2,a3,a4⟩:=a;obtain ⟨b1,b2,b3,b4⟩:=b;obtain ⟨c1,c2,c3,c4⟩:=c;simp only [AD,Bool.and_eq_true,beq_iff_eq] at h1;obtain ⟨⟨rfl,rfl⟩,rfl⟩:=h1;rfl
theorem GZ {nt:List Ty} {a b:Ty} (h:AD a b=true):BL nt a=BL nt b:=by
 simp only [BL];congr 1;funext x;rw [Hw x a,Hw x b,HY h]
theorem Ke:∀l:List Ty,CI l=l.all Dh
 | []=>rfl
 | t::r=>by simp [CI,Ke r]
theorem QQ {ds:List Dt}:∀{l vs:List Ty},l.length=vs.length->(HA ds l vs=true↔∀(i:Nat) a v,l[i]?=some a->vs[i]?=some v->IT ds a v=true)
 | [],[],_=>by simp [HA]
 | a::r,v::vs,h=>by
  simp only [HA,Bool.and_eq_true,QQ (l:=r) (vs:=vs) (by simpa using h)];constructor
  ·rintro ⟨h1,h2⟩ i x y hx hy;cases i with
   | zero=>simp at hx hy;subst hx;subst hy;exact h1
   | succ i=>exact h2 i x y (by simpa using hx) (by simpa using hy)
  ·intro h;exact ⟨h 0 a v rfl rfl,λi x y hx hy=>h (i+1) x y (by simpa using hx) (by simpa using hy)⟩
 | [],_::_,h=>by simp at h
 | _::_,[],h=>by simp at h
theorem Kl {ds:List Dt} {t v:Ty}:Iu ds (As t) v↔HN ds t v:=by
 rw [B3];exact ⟨λh=>h.1,λh=>⟨h,λ_=>rfl,λh=>absurd rfl h⟩⟩
theorem dW {ds:List Dt} {l vs:List Ty}:DU ds (l.map As) vs↔l.length=vs.length/\∀(i:Nat) a v,l[i]?=some a->vs[i]?=some v->HN ds a v:=by
 rw [II,List.length_map];constructor
 ·rintro ⟨h1,h2⟩;exact ⟨h1,λi a v ha hv=>Kl.1 (h2 i _ v (by simp [ha]) hv)⟩
 ·rintro ⟨h1,h2⟩;refine ⟨h1,λi k v hk hv=>?_⟩;simp only [List.getElem?_map,Option.map_eq_some_iff] at hk;obtain ⟨a,ha,rfl⟩:=hk;exact Kl.2 (h2 i a v ha hv)
theorem FK {ds:List Dt} {t v:Ty} (h:HN ds t v):(AW ds t (CH v)).1.length=(Br v).length/\∀(i:Nat) a u,(AW ds t (CH v)).1[i]?=some a->(Br v)[i]?=some u->HN ds a u:=by
 obtain ⟨so,m,x,qs⟩:=t;obtain ⟨f,n,y,ps⟩:=v;obtain ⟨h1,h2⟩:=h;rw [Ji] at h1;simp only [Dh,Bool.and_eq_true,Ke,List.all_eq_true] at h2;obtain ⟨h2,h3⟩:=h2;simp only [LI] at h1;simp only [CH,Br];have hz:so≠8->ps=[]:=λh8=>by
  have hf:f≠4:=by
   intro e;subst e
   repeat' (split at h1)
   all_goals first | (simp at h1;done) | (exact absurd (by assumption) h8)
  simp only [GC] at h3
  repeat' (split at h3)
  all_goals first | (exact absurd (by assumption) hf) | (simp only [Bool.and_eq_true,beq_iff_eq] at h3;exact List.eq_nil_of_length_eq_zero (by omega)) | cases h3
 by_cases h8:so=8
 ·subst h8;rw [if_neg (by decide),if_neg (by decide),if_neg (by decide),if_pos rfl] at h1;simp only [Bool.and_eq_true,decide_eq_true_eq] at h1;obtain ⟨_,h4,_,h5⟩:=h1;exact ⟨h4,λi a u ha hu=>⟨(QQ h4).1 h5 i a u ha hu,h2 u (List.mem_of_getElem? hu)⟩⟩
 ·rw [FY (t:=.mk so m x qs) h8,hz h8];exact ⟨rfl,λi a u ha=>by simp at ha⟩
theorem dY {h v:Ty} (e:AD h v=true):CH h=CH v:=IK e
theorem IH {ds:List Dt} {m:Mi} {h v:Ty} (hh:AI h≠0):Iu ds (Bm ds m h) v↔HN ds m.ty v/\AD h v=true:=by
 rw [B3];constructor
 ·rintro ⟨h1,_,h2⟩;exact ⟨h1,(h2 hh).1⟩
 ·rintro ⟨h1,h2⟩;refine ⟨h1,λe=>absurd e hh,λ_=>⟨h2,?_⟩⟩;show DU ds ((AW ds m.ty (CH h)).1.map As) _;rw [dW,dY h2];exact FK h1
theorem QO {ds:List Dt} {t v:Ty} (hn:AK ds t=true) (h:HN ds t v) (hs:AI t=2\/AI t=3\/AI t=8):∃x,x∈AB ds t/\AD x v=true:=by
 obtain ⟨so,m,x,qs⟩:=t;obtain ⟨f,n,y,ps⟩:=v;obtain ⟨h1,h2⟩:=h;rw [Ji] at h1;simp only [Dh,Bool.and_eq_true] at h2;obtain ⟨_,h3⟩:=h2;simp only [AI] at hs;simp only [LI] at h1;simp only [GC] at h3;rcases hs with rfl | rfl | rfl
 ·have hf:f=2:=by simpa using h1
  subst hf;rw [if_neg (by decide),if_pos rfl] at h3;simp only [Bool.and_eq_true,beq_iff_eq,F4,decide_eq_true_eq] at h3;obtain ⟨⟨h3,rfl⟩,_⟩:=h3;have:n=0\/n=1:=by omega
  rcases this with rfl | rfl
  ·exact ⟨.mk 2 0 [] [],by simp [AB],by simp [AD]⟩
  ·exact ⟨.mk 2 1 [] [],by simp [AB],by simp [AD]⟩
 ·have hf:f=3:=by simpa using h1
  subst hf;rw [if_neg (by decide),if_neg (by decide),if_pos (.inl rfl)] at h3;simp only [Bool.and_eq_true,beq_iff_eq] at h3;obtain ⟨⟨rfl,rfl⟩,_⟩:=h3;exact ⟨.mk 3 0 [] [],by simp [AB],by simp [AD]⟩
 ·rw [if_neg (by decide),if_neg (by decide),if_neg (by decide),if_pos rfl] at h1;simp only [Bool.and_eq_true,decide_eq_true_eq] at h1;obtain ⟨rfl,_,h4,_⟩:=h1;rw [if_neg (by decide),if_neg (by decide),if_neg (by decide),if_pos rfl] at h3;simp only [Bool.and_eq_true,beq_iff_eq] at h3;obtain ⟨⟨rfl,_⟩,_⟩:=h3;have hc:0<=(BO ds (.mk 8 m x qs) y).2:=by
   simp only [AW] at h4;by_cases e:0<=(BO ds (.mk 8 m x qs) y).2
   ·exact e
   ·simp [e] at h4
  obtain ⟨_,d,hd⟩:=CN hn 8 m x qs rfl rfl;simp only [BO,if_true,hd] at hc;obtain ⟨c1,c2⟩:=IQ hc;refine ⟨.mk 4 0 y [],?_,by simp [AD]⟩;rw [show AB ds (.mk 8 m x qs)=(match ds[(Bf x 0 ds).toNat]? with | some d=>d.cons.map λc=>Ty.mk 4 0 c.name [] | none=>[]) from rfl,hd];exact List.mem_map.2 ⟨_,c1,by rw [c2]⟩
theorem Rw {ds:List Dt} {t h:Ty} (hh:h∈AB ds t):AI t=2\/AI t=3\/AI t=8:=by
 obtain ⟨so,n,x,ps⟩:=t;simp only [AB,AI] at *
 split at hh
 ·exact .inl (by assumption)
 ·split at hh
  ·exact .inr (.inl (by assumption))
  ·split at hh
   ·exact .inr (.inr (by assumption))
   ·cases hh
theorem jL {ds:List Dt} {m:Mi} {h:Ty}:h∈HV ds m↔h∈AB ds m.ty/\BL m.nt h=false:=by
 simp only [HV,List.mem_filter,Bool.not_eq_true']
theorem Jy {ds:List Dt} {m:Mi} {v:Ty} (hn:AK ds m.ty=true):Iu ds (Ac ds m) v↔Iu ds m v:=by
 rcases CS (ds:=ds) m with h | ⟨hh,h,h1,h2⟩
 ·rw [h]
 ·rw [h2,IH (B4 (DG h1).1).2,B3];have hl:=DG h1;constructor
  ·rintro ⟨a,b⟩;exact ⟨a,λ_=>by rw [<- GZ b];exact hl.2,λe=>absurd hh e⟩
  ·rintro ⟨a,b,_⟩;refine ⟨a,?_⟩;obtain ⟨x,x1,x2⟩:=QO hn a (Rw hl.1);have:x∈HV ds m:=jL.2 ⟨x1,by rw [GZ x2];exact b hh⟩;rw [h1,List.mem_singleton] at this;rw [<- this];exact x2
mutual
def XQ (ds:List Dt):Mi->Prop
 | .mk ty nt _ ks=>(∀h∈nt,Kb ds ty h)/\jC ds ks
def jC (ds:List Dt):List Mi->Prop
 | []=>True
 | k::r=>XQ ds k/\jC ds r
end
theorem Wq (ds:List Dt):∀l:List Mi,jC ds l↔∀k∈l,XQ ds k
 | []=>by simp [jC]
 | k::r=>by simp [jC,Wq ds r]
theorem GK {ds:List Dt} {m:Mi}:XQ ds m↔(∀h∈m.nt,Kb ds m.ty h)/\∀k∈m.ks,XQ ds k:=by
 obtain ⟨ty,nt,hd,ks⟩:=m;simp only [XQ,Wq,Mi.ty,Mi.nt,Mi.ks]
theorem QW (ds:List Dt) (t:Ty):XQ ds (As t):=GK.2 ⟨λh hh=>by simp [As,Mi.nt] at hh,λk hk=>by simp [As,Mi.ks] at hk⟩
theorem QV (ds:List Dt) (m:Mi) (h:Ty):XQ ds (Bm ds m h):=GK.2 ⟨λx hx=>by simp [Bm,Mi.nt] at hx,λk hk=>by
 simp only [Bm,Mi.ks,List.mem_map] at hk;obtain ⟨t,_,rfl⟩:=hk;exact QW ds t⟩
theorem Yw {ds:List Dt} {m:Mi} (h:XQ ds m):XQ ds (Ac ds m):=by
 rcases CS (ds:=ds) m with e | ⟨_,x,_,e⟩
 ·rw [e];exact h
 ·rw [e];exact QV ds m x
def Io (ds:List Dt) (h:Ty):Mi->List Int->Prop
 | m,[]=>AI m.hd=0/\BL m.nt h=false/\Kb ds m.ty h
 | m,i::p=>∃k,(Ac ds m).ks[i.toNat]?=some k/\AI (Ac ds m).hd≠0/\Io ds h k p
theorem gP {ds:List Dt} {ks:List Mi} {vs:List Ty} {i:Nat} {k k':Mi} (hk:ks[i]?=some k) (hs:∀v,Iu ds k' v->Iu ds k v) (h:DU ds (ks.set i k') vs):DU ds ks vs:=by
 rw [II] at h ⊢;obtain ⟨h1,h2⟩:=h;rw [List.length_set] at h1;refine ⟨h1,λj a v ha hv=>?_⟩;by_cases e:i=j
 ·subst e;rw [hk] at ha;cases ha;exact hs v (h2 i k' v (by rw [List.getElem?_set_self (List.getElem?_eq_some_iff.1 hk).1]) hv)
 ·exact h2 j a v (by rw [List.getElem?_set_ne e];exact ha) hv
theorem WA {ds:List Dt} {ks:List Mi} {vs:List Ty} {i:Nat} {k:Mi} (hk:ks[i]?=some k) (h:DU ds ks vs):∃v,vs[i]?=some v/\Iu ds k v/\∀k',Iu ds k' v->DU ds (ks.set i k') vs:=by
 obtain ⟨h1,h2⟩:=II.1 h;have hi:=(List.getElem?_eq_some_iff.1 hk).1;obtain ⟨v,hv⟩:=Ap (l:=vs) (i:=i) (by omega);refine ⟨v,hv,h2 i k v hk hv,λk' hk'=>II.2 ⟨by rw [List.length_set];exact h1,λj a u ha hu=>?_⟩⟩;by_cases e:i=j
 ·subst e;rw [List.getElem?_set_self hi] at ha;cases ha;rw [hv] at hu;cases hu;exact hk'
 ·rw [List.getElem?_set_ne e] at ha;exact h2 j a u ha hu
theorem Q0 {ds:List Dt} (ho:OkW ds) {N:Nat} {h:Ty} (hh:AI h≠0):∀(path:List Int) {m:Mi} {v:Ty},G0 ds N m=true->Io ds h m path ->
  (∀is,Iu ds (A0 ds m path h is) v->Iu ds m v)/\(Iu ds m v->Iu ds (A0 ds m path h true) v\/Iu ds (A0 ds m path h false) v)
 | [],m,v,hw,⟨h1,h2,_⟩=>by
  refine ⟨λis=>?_,λhv=>?_⟩
  ·cases is with
   | true =>
    rw [show A0 ds m [] h true=Bm ds m h from rfl,IH hh,B3];exact λ⟨a,b⟩=>⟨a,λ_=>by rw [<- GZ b];exact h2,λe=>absurd h1 e⟩
   | false =>
    rw [show A0 ds m [] h false = .mk m.ty (m.nt++[h]) m.hd m.ks from rfl,B3,B3];rintro ⟨a,b,c⟩;refine ⟨a,λe=>?_,λe=>absurd h1 e⟩;have:=b e;simp only [BL,Mi.nt,List.any_append,Bool.or_eq_false_iff] at this ⊢;exact this.1
  ·rw [B3] at hv;obtain ⟨a,b,_⟩:=hv;cases e:AD h v with
   | true=>exact .inl (by rw [show A0 ds m [] h true=Bm ds m h from rfl,IH hh];exact ⟨a,e⟩)
   | false =>
    right;rw [show A0 ds m [] h false = .mk m.ty (m.nt++[h]) m.hd m.ks from rfl,B3];refine ⟨a,λ_=>?_,λe=>absurd h1 e⟩;have hb:=b h1;simp only [BL,Mi.nt,List.any_append,Bool.or_eq_false_iff,List.any_cons,List.any_nil,Bool.or_false] at hb ⊢;exact ⟨hb,e⟩
 | i::p,m,v,hw,⟨k,hk,h1,h2⟩=>by
  have hn:=(Bb.1 hw).1.1;have hsw:=C9 ho hw;have ih:=λv=>Q0 ho hh p (v:=v) (fI hsw hk) h2;have es:∀is,A0 ds m (i::p) h is = .mk (Ac ds m).ty (Ac ds m).nt (Ac ds m).hd ((Ac ds m).ks.set i.toNat (A0 ds k p h is)):=λis=>by simp only [A0,hk]
  refine ⟨λis=>?_,λhv=>?_⟩
  ·rw [es,<- Jy (m:=m) hn,B3,B3 (m:=Ac ds m)];simp only [Mi.ty,Mi.nt,Mi.hd,Mi.ks];rintro ⟨a,b,c⟩;refine ⟨a,b,λe=>⟨(c e).1,gP hk (λv=>(ih v).1 is) (c e).2⟩⟩
  ·rw [<- Jy (m:=m) hn,B3] at hv;obtain ⟨a,b,c⟩:=hv;obtain ⟨c1,c2⟩:=c h1;obtain ⟨u,u1,u2,u3⟩:=WA hk c2;have key:∀is,Iu ds (A0 ds k p h is) u->Iu ds (A0 ds m (i::p) h is) v:=λis hi=>by
    rw [es,B3];exact ⟨a,λe=>absurd e h1,λ_=>⟨c1,u3 _ hi⟩⟩
   exact ((ih u).2 u2).imp (key true) (key false)
theorem Kd {ds:List Dt} {h:Ty} (is:Bool):∀(path:List Int) {m:Mi},XQ ds m->Io ds h m path->XQ ds (A0 ds m path h is)
 | [],m,hm,⟨_,_,h3⟩=>by
  cases is with
  | true=>exact QV ds m h
  | false =>
   refine GK.2 ⟨λx hx=>?_,(GK.1 hm).2⟩;rcases List.mem_append.1 hx with hx | hx
   ·exact (GK.1 hm).1 x hx
   ·rw [List.mem_singleton.1 hx];exact h3
 | i::p,m,hm,⟨k,hk,_,h2⟩=>by
  have hs:=GK.1 (Yw hm);simp only [A0,hk];refine GK.2 ⟨hs.1,λx hx=>?_⟩;rcases EI hx with hx | hx
  ·exact hs.2 x hx
  ·rw [hx];exact Kd is p (hs.2 k (List.mem_of_getElem? hk)) h2
mutual
theorem Jq {ds:List Dt} (ho:OkW ds) {N:Nat}:∀(p:Ty) {m:Mi} {v:Ty},G0 ds N m=true->Do ds m->Cs ds m.ty p=true->BN p=true ->
  ((Ar ds p m).1=2->Io ds (Ar ds p m).2.2 m (Ar ds p m).2.1) /\
  (Iu ds m v->((Ar ds p m).1=1->(AY p v).2=true)/\((Ar ds p m).1=0->(AY p v).2=false))
 | .mk f n x ps,m,v,hw,hc,hp,hpp=>by
  have hn:=(Bb.1 hw).1.1;have hsw:=C9 ho hw;have hsc:=C6 (ds:=ds) hc;by_cases h12:f=1\/f=2
  ·have e:Ar ds (.mk f n x ps) m=(1,[],zT):=by simp only [Ar,if_pos h12]
   rw [e];refine ⟨λh=>by simp at h,λ_=>⟨λ_=>?_,λh=>by simp at h⟩⟩;simp only [AY];rcases h12 with rfl | rfl
   ·rw [if_pos rfl]
   ·rw [if_neg (by decide),if_pos rfl]
  obtain ⟨k1,k2,k3,k4⟩:=Ka hn hp hpp h12;have em:AY (.mk f n x ps) v=if AD (AQ (.mk f n x ps)) v=false then ([],false) else Bx ps (Br v):=by
   simp only [AY,if_neg (λh=>h12 (.inl h)),if_neg (λh=>h12 (.inr h))]
  rw [em];have el:Ar ds (.mk f n x ps) m=if AI (Ac ds m).hd=0/\BL (Ac ds m).nt (AQ (.mk f n x ps))=false then (2,[],AQ (.mk f n x ps)) else
   if AI (Ac ds m).hd=0\/AD (Ac ds m).hd (AQ (.mk f n x ps))=false then (0,[],zT) else AL ds 0 ps (Ac ds m).ks:=by simp only [Ar,if_neg h12]
  rw [el];rw [<- Jy (m:=m) hn];have hst:=Df ds m;have hse:=P3 (ds:=ds) m;have key:∀i:Int,AI (Ac ds m).hd≠0->AD (Ac ds m).hd (AQ (.mk f n x ps))=true->(AW ds m.ty (CH (AQ (.mk f n x ps)))).1=(Ac ds m).ks.map Mi.ty:=λi h0 hE=>by
   have:=((B0.1 hsc).2.1 h0).2;rw [IK hE,Df] at this;exact this.symm
  have hs0:AI (Ac ds m).hd=0->Ac ds m=m:=λh0=>by
   rcases CS (ds:=ds) m with e | ⟨_,y,y1,y2⟩
   ·exact e
   ·rw [y2] at h0;exact absurd h0 (B4 (DG y1).1).2
  generalize AQ (.mk f n x ps)=h at *;by_cases h0:AI (Ac ds m).hd=0
  ·cases hb:BL (Ac ds m).nt h with
   | false =>
    rw [if_pos ⟨h0,rfl⟩];exact ⟨λ_=>by have e:=hs0 h0;rw [e] at h0 hb;exact ⟨h0,hb,k1⟩,λ_=>⟨λh=>by simp at h,λh=>by simp at h⟩⟩
   | true =>
    rw [if_neg (λh=>by cases h.2),if_pos (.inl h0)];refine ⟨λh=>by simp at h,λhv=>⟨λh=>by simp at h,λ_=>?_⟩⟩;have:=(B3.1 hv).2.1 h0;cases he:AD h v with
    | false=>rfl
    | true=>rw [GZ he,this] at hb;cases hb
  ·rw [if_neg (λh=>h0 h.1)];cases hE:AD (Ac ds m).hd h with
   | false =>
    rw [if_pos (.inr rfl)];refine ⟨λh=>by simp at h,λhv=>⟨λh=>by simp at h,λ_=>?_⟩⟩;have hv2:=((B3.1 hv).2.2 h0).1;rw [HY hv2,Hw] at hE;rw [if_pos hE]
   | true =>
    rw [if_neg (λh=>by rcases h with h | h;exact h0 h;cases h)];have hks:=key 0 h0 hE;rw [hks] at k3;obtain ⟨q1,q2⟩:=Wy ho ps (l:=(Ac ds m).ks) (i:=0) (λk hk=>⟨(Bb.1 hsw).2.2 k hk,(B0.1 hsc).2.2 k hk⟩) k3 k4;refine ⟨λhl=>?_,λhv=>?_⟩
    ·obtain ⟨j,k,j1,j2,j3⟩:=q1 hl;rw [j1];simp only [Int.zero_add];exact ⟨k,by simpa using j2,h0,j3⟩
    ·obtain ⟨hv1,hv2⟩:=(B3.1 hv).2.2 h0;have he:AD h v=true:=by rw [<- HY hE];exact hv1
     rw [if_neg (by rw [he];simp)];exact q2 (Br v) hv2
theorem Wy {ds:List Dt} (ho:OkW ds) {N:Nat}:∀(ps:List Ty) {l:List Mi} {i:Int},(∀k∈l,G0 ds N k=true/\Do ds k)->Cr ds (l.map Mi.ty) ps=true->BD ps=true ->
  ((AL ds i ps l).1=2->∃(j:Nat) (k:Mi),(AL ds i ps l).2.1=(i+j)::(AL ds i ps l).2.1.tail/\l[j]?=some k/\Io ds (AL ds i ps l).2.2 k (AL ds i ps l).2.1.tail) /\
  (∀vs,DU ds l vs->((AL ds i ps l).1=1->(Bx ps vs).2=true)/\((AL ds i ps l).1=0->(Bx ps vs).2=false))
 | [],l,i,_,_,_=>⟨λh=>by simp [AL] at h,λvs _=>⟨λ_=>by simp only [Bx],λh=>by simp [AL] at h⟩⟩
 | p::r,[],i,_,_,_=>⟨λh=>by simp [AL] at h,λvs hv=>by
  simp only [DU] at hv;subst hv;exact ⟨λ_=>by simp only [Bx],λh=>by simp [AL] at h⟩⟩
 | p::r,k::ks,i,hk,hp,hpp=>by
  simp only [List.map_cons,Cr,BD,Bool.and_eq_true] at hp hpp;have a:=λv=>Jq ho p (v:=v) (hk k (by simp)).1 (hk k (by simp)).2 hp.1 hpp.1;obtain ⟨b1,b2⟩:=Wy ho r (l:=ks) (i:=i+1) (λy hy=>hk y (by simp [hy])) hp.2 hpp.2;simp only [AL]
  split
  ·rename_i h1;refine ⟨λhl=>?_,λvs hv=>?_⟩
   ·obtain ⟨j,y,y1,y2,y3⟩:=b1 hl;exact ⟨j+1,y,by rw [y1];simp only [List.tail_cons,List.cons.injEq,and_true];omega,by simpa using y2,y3⟩
   ·cases vs with
    | nil=>simp only [DU] at hv
    | cons v vs =>
     simp only [DU] at hv;have hm:=((a v).2 hv.1).1 h1;simp only [Bx,hm,Bool.true_and];obtain ⟨c1,c2⟩:=b2 vs hv.2;exact ⟨λh=>by rw [c1 h];rfl,λh=>by rw [c2 h];rfl⟩
  ·rename_i h1;refine ⟨λhl=>⟨0,k,by simp,rfl,by simpa using (a zT).1 hl⟩,λvs hv=>?_⟩;cases vs with
   | nil=>simp only [DU] at hv
   | cons v vs =>
    simp only [DU] at hv;refine ⟨λh=>absurd h h1,λh=>?_⟩;have hm:=((a v).2 hv.1).2 h;simp only [Bx,hm,Bool.false_and];rfl
end
theorem UP {ds:List Dt} (ho:OkW ds) {t a b:Ty} (hn:AK ds t=true) (ha:HN ds t a) (hb:HN ds t b):AI a=AI b/\(AI a=4->(Ck ds (CH a)).2=(Ck ds (CH b)).2->(AW ds t (CH b)).1=(AW ds t (CH a)).1):=by
 have fa:=ha.1;have fb:=hb.1;rw [Ji] at fa fb;obtain ⟨so,m,x,qs⟩:=t;obtain ⟨f,n,y,ps⟩:=a;obtain ⟨g,n',y',ps'⟩:=b;simp only [LI] at fa fb;simp only [AI,CH,Br] at *;refine ⟨?_,λh4 hs=>?_⟩
 ·by_cases h1:so=1
  ·rw [if_pos h1] at fa fb;simp only [beq_iff_eq] at fa fb;omega
  rw [if_neg h1] at fa fb;by_cases h2:so=2
  ·rw [if_pos h2] at fa fb;simp only [beq_iff_eq] at fa fb;omega
  rw [if_neg h2] at fa fb;by_cases h3:so=3
  ·rw [if_pos h3] at fa fb;simp only [beq_iff_eq] at fa fb;omega
  rw [if_neg h3] at fa fb;by_cases h8:so=8
  ·rw [if_pos h8] at fa fb;simp only [Bool.and_eq_true,decide_eq_true_eq] at fa fb;omega
  rw [if_neg h8] at fa fb;simp only [beq_iff_eq] at fa fb;omega
 ·subst h4;have h8:so=8:=by
   repeat' (split at fa)
   all_goals first | assumption | (simp at fa;done)
  subst h8;rw [if_neg (by decide),if_neg (by decide),if_neg (by decide),if_pos rfl] at fa fb;simp only [Bool.and_eq_true,decide_eq_true_eq] at fa fb;obtain ⟨_,_,ca,_⟩:=fa;obtain ⟨_,_,cb,_⟩:=fb;have hc:∀s,(AW ds (.mk 8 m x qs) s).2=true->0<=(BO ds (.mk 8 m x qs) s).2/\(AW ds (.mk 8 m x qs) s).1=(BO ds (.mk 8 m x qs) s).1.args:=λs h=>by
   simp only [AW] at h ⊢;by_cases e:0<=(BO ds (.mk 8 m x qs) s).2
   ·simp [e]
   ·simp [e] at h
  obtain ⟨a1,a2⟩:=hc y ca;obtain ⟨b1,b2⟩:=hc y' cb;have hp:=(CN hn 8 m x qs rfl rfl).1;rw [Gl ho.dif (n:=m) (ps:=qs) hp a1,Gl ho.dif (n:=m) (ps:=qs) hp b1] at hs;have e:=Oi a1 hs;rw [a2,b2,e]
theorem Hp (ds:List Dt) (a b:Ty):Cg ds a b=if AI a=1 then DC (nT a)-DC (nT b) else if AI a=2 then nT a-nT b else if AI a=4 then (if (Ck ds (CH a)).2-(Ck ds (CH b)).2≠0 then (Ck ds (CH a)).2-(Ck ds (CH b)).2 else BY ds (Br a) (Br b)) else 0:=by
 obtain ⟨f,n,x,ps⟩:=a;obtain ⟨g,n',x',ps'⟩:=b;simp only [Cg,AI,nT,CH,Br];rfl
theorem JY {v u:Ty} (h:u∈Br v):SizeOf.sizeOf u<SizeOf.sizeOf v:=by
 obtain ⟨f,n,x,ps⟩:=v;simp only [Br] at h;have:=List.sizeOf_lt_of_mem h;simp only [Ty.mk.sizeOf_spec];omega
theorem Hq {ds:List Dt} (ho:OkW ds):∀(k:Nat) (a t b:Ty),SizeOf.sizeOf a<k->AK ds t=true->HN ds t a->HN ds t b->Cg ds a b = - Cg ds b a:=by
 intro k
 induction k with
 | zero=>intro a t b h;omega
 | succ k ih =>
  intro a t b hk hn ha hb;obtain ⟨h1,h2⟩:=UP ho hn ha hb;rw [Hp ds a b,Hp ds b a,<- h1]
  split
  ·omega
  ·split
   ·omega
   ·split
    ·rename_i h4;by_cases hs:(Ck ds (CH a)).2=(Ck ds (CH b)).2
     ·rw [if_neg (by omega),if_neg (by omega)];have l1:=Co ho.okd (t:=t) (s:=CH a);obtain ⟨l2,l4⟩:=FK ha;obtain ⟨l3,l5⟩:=FK hb;rw [h2 h4 hs] at l3 l5;have key:∀(ps qs:List Ty) (l:List Ty),(∀u∈ps,SizeOf.sizeOf u<k)->Bw ds l=true->l.length=ps.length->l.length=qs.length->(∀(i:Nat) t u,l[i]?=some t->ps[i]?=some u->HN ds t u)->(∀(i:Nat) t u,l[i]?=some t->qs[i]?=some u->HN ds t u)->BY ds ps qs = - BY ds qs ps:=by
       intro ps
       induction ps with
       | nil =>
        intro qs l _ _ e1 e2 _ _;cases qs with
        | nil=>simp [BY]
        | cons _ _=>exact absurd (e1.symm.trans e2) (by simp)
       | cons p r ih2 =>
        intro qs l hz hn e1 e2 g1 g2;cases qs with
        | nil=>exact absurd (e1.symm.trans e2) (by simp)
        | cons q s =>
         cases l with
         | nil=>simp at e1
         | cons t l =>
          simp only [Bw,Bool.and_eq_true] at hn;have hpq:=ih p t q (hz p (by simp)) hn.1 (g1 0 t p rfl rfl) (g2 0 t q rfl rfl);have hrs:=ih2 s l (λu hu=>hz u (by simp [hu])) hn.2 (by simpa using e1) (by simpa using e2) (λi t u h1 h2=>g1 (i+1) t u (by simpa using h1) (by simpa using h2)) (λi t u h1 h2=>g2 (i+1) t u (by simpa using h1) (by simpa using h2));simp only [BY];by_cases e:Cg ds p q=0
          ·rw [if_neg (by omega),if_neg (by omega)];exact hrs
          ·rw [if_pos e,if_pos (by omega)];exact hpq
      exact key _ _ _ (λu hu=>by have:=JY hu;omega) l1 l2 l3 l4 l5
     ·rw [if_pos (by omega),if_pos (by omega)];omega
    ·omega
theorem cR {ds:List Dt} (ho:OkW ds):∀(k:Nat) (a t b c:Ty),SizeOf.sizeOf a<k->SizeOf.sizeOf b<k->SizeOf.sizeOf c<k->AK ds t=true->HN ds t a->HN ds t b->HN ds t c->Cg ds a c<0->Cg ds a b<0\/Cg ds b c<0:=by
 intro k
 induction k with
 | zero=>intro a t b c h;omega
 | succ k ih =>
  intro a t b c hk hkb hkc hn ha hb hc h;obtain ⟨h1,h2⟩:=UP ho hn ha hb;obtain ⟨h3,h4⟩:=UP ho hn hb hc;rw [Hp] at h;rw [Hp ds a b,Hp ds b c,<- h1]
  split
  ·rename_i f1;rw [if_pos f1] at h;omega
  ·rename_i f1;rw [if_neg f1] at h
   split
   ·rename_i f2;rw [if_pos f2] at h;omega
   ·rename_i f2;rw [if_neg f2] at h
    split
    ·rename_i f4;rw [if_pos f4] at h;by_cases hab:(Ck ds (CH a)).2=(Ck ds (CH b)).2
     ·by_cases hbc:(Ck ds (CH b)).2=(Ck ds (CH c)).2
      ·rw [if_neg (by omega)] at h;rw [if_neg (by omega),if_neg (by omega)];have l1:=Co ho.okd (t:=t) (s:=CH a);obtain ⟨l2,l4⟩:=FK ha;obtain ⟨l3,l5⟩:=FK hb;obtain ⟨l6,l7⟩:=FK hc;rw [h4 (by omega) hbc,h2 f4 hab] at l6 l7;rw [h2 f4 hab] at l3 l5;have key:∀(ps qs rs:List Ty) (l:List Ty),(∀u∈ps,SizeOf.sizeOf u<k)->(∀u∈qs,SizeOf.sizeOf u<k)->(∀u∈rs,SizeOf.sizeOf u<k)->Bw ds l=true->l.length=ps.length->l.length=qs.length->l.length=rs.length->(∀(i:Nat) t u,l[i]?=some t->ps[i]?=some u->HN ds t u)->(∀(i:Nat) t u,l[i]?=some t->qs[i]?=some u->HN ds t u)->(∀(i:Nat) t u,l[i]?=some t->rs[i]?=some u->HN ds t u) ->
         BY ds ps rs<0->BY ds ps qs<0\/BY ds qs rs<0:=by
        intro ps
        induction ps with
        | nil=>intro qs rs l _ _ _ _ _ _ _ _ _ _ h;simp [BY] at h
        | cons p r ih2 =>
         intro qs rs l hz hzq hzr hn e1 e2 e3 g1 g2 g3 hlt;cases l with
         | nil=>simp at e1
         | cons t l =>
          cases qs with
          | nil=>simp at e2
          | cons q s =>
           cases rs with
           | nil=>simp at e3
           | cons u v =>
            simp only [Bw,Bool.and_eq_true] at hn;have op:=g1 0 t p rfl rfl;have oq:=g2 0 t q rfl rfl;have ou:=g3 0 t u rfl rfl;have zp:=hz p (by simp);have zq:=hzq q (by simp);have zu:=hzr u (by simp);have i1:=ih p t q u zp zq zu hn.1 op oq ou;have i2:=ih u t p q zu zp zq hn.1 ou op oq;have i3:=ih q t u p zq zu zp hn.1 oq ou op;have a1:=Hq ho _ p t q (Nat.lt_succ_self _) hn.1 op oq;have a3:=Hq ho _ p t u (Nat.lt_succ_self _) hn.1 op ou;have a2:=Hq ho _ q t u (Nat.lt_succ_self _) hn.1 oq ou
            have ir:=ih2 s v l (λy hy=>hz y (by simp [hy])) (λy hy=>hzq y (by simp [hy])) (λy hy=>hzr y (by simp [hy])) hn.2 (by simpa using e1) (by simpa using e2) (by simpa using e3) (λi t u h1 h2=>g1 (i+1) t u (by simpa using h1) (by simpa using h2)) (λi t u h1 h2=>g2 (i+1) t u (by simpa using h1) (by simpa using h2)) (λi t u h1 h2=>g3 (i+1) t u (by simpa using h1) (by simpa using h2));simp only [BY] at hlt ⊢;by_cases pu:Cg ds p u=0
            ·rw [if_neg (by omega)] at hlt;by_cases pq:Cg ds p q=0
             ·by_cases qu:Cg ds q u=0
              ·rw [if_neg (by omega),if_neg (by omega)];exact ir hlt
              ·rw [if_pos qu];by_cases hneg:Cg ds q u<0
               ·exact .inr hneg
               ·exfalso;rcases i2 (by omega) with h | h <;> omega
             ·rw [if_pos pq];by_cases hneg:Cg ds p q<0
              ·exact .inl hneg
              ·right;have:Cg ds q u<0:=by
                rcases i3 (by omega) with h | h
                ·exact h
                ·omega
               rw [if_pos (by omega)];exact this
            ·rw [if_pos pu] at hlt;rcases i1 hlt with h | h
             ·left;rw [if_pos (by omega)];exact h
             ·right;rw [if_pos (by omega)];exact h
       exact key _ _ _ _ (λu hu=>by have:=JY hu;omega) (λu hu=>by have:=JY hu;omega) (λu hu=>by have:=JY hu;omega) l1 l2 l3 l6 l4 l5 l7 h
      ·rw [if_neg (by omega),if_pos (by omega)];rw [if_pos (by omega)] at h;right;omega
     ·by_cases hbc:(Ck ds (CH b)).2=(Ck ds (CH c)).2
      ·rw [if_pos (by omega),if_neg (by omega)];rw [if_pos (by omega)] at h;left;omega
      ·rw [if_pos (by omega),if_pos (by omega)]
       split at h <;> omega
    ·rename_i f4;rw [if_neg f4] at h;omega
theorem Zp {ds:List Dt} (ho:OkW ds) {t a b c:Ty} (hn:AK ds t=true) (ha:HN ds t a) (hb:HN ds t b) (hc:HN ds t c) (h:Cv ds a c=true):Cv ds a b=true\/Cv ds b c=true:=by
 have k:=cR ho (SizeOf.sizeOf a+SizeOf.sizeOf b+SizeOf.sizeOf c+1) a t b c (by omega) (by omega) (by omega) hn ha hb hc;simp only [Cv] at h ⊢;by_cases e1:Aj a=Aj c
 ·rw [if_pos e1,decide_eq_true_eq] at h;by_cases e2:Aj a=Aj b
  ·rw [if_pos e2,if_pos (by omega),decide_eq_true_eq,decide_eq_true_eq];exact k h
  ·rw [if_neg e2,if_neg (by omega),decide_eq_true_eq,decide_eq_true_eq];omega
 ·rw [if_neg e1,decide_eq_true_eq] at h;by_cases e2:Aj a=Aj b
  ·right;rw [if_neg (by omega),decide_eq_true_eq];omega
  ·by_cases e3:Aj b=Aj c
   ·left;rw [if_neg (by omega),decide_eq_true_eq];omega
   ·rw [if_neg e2,if_neg e3,decide_eq_true_eq,decide_eq_true_eq];omega
theorem X9 {ds:List Dt} (ho:OkW ds) {t a b:Ty} (hn:AK ds t=true) (ha:HN ds t a) (hb:HN ds t b) (h:Cv ds b a=true):Cv ds a b=false:=by
 have han:=Hq ho _ a t b (Nat.lt_succ_self _) hn ha hb;simp only [Cv] at h ⊢;by_cases e:Aj a=Aj b
 ·rw [if_pos (by omega),decide_eq_true_eq] at h;rw [if_pos e,decide_eq_false_iff_not];omega
 ·rw [if_neg (by omega),decide_eq_true_eq] at h;rw [if_neg e,decide_eq_false_iff_not];omega
def IF (ds:List Dt) (S:Ty->Prop):Option Ty->Prop
 | none=>∀v,¬S v
 | some v=>S v/\∀u,S u->Cv ds u v=false
theorem FP {ds:List Dt} {S S':Ty->Prop} (h:∀v,S v↔S' v) {r:Option Ty} (hr:IF ds S r):IF ds S' r:=by
 cases r with
 | none=>exact λv hv=>hr v ((h v).2 hv)
 | some v=>exact ⟨(h v).1 hr.1,λu hu=>hr.2 u ((h u).2 hu)⟩
theorem gK {ds:List Dt} (ho:OkW ds) {t:Ty} (hn:AK ds t=true) {A B:Ty->Prop} (hA:∀v,A v->HN ds t v) (hB:∀v,B v->HN ds t v) {a b:Option Ty} (ha:IF ds A a) (hb:IF ds B b):IF ds (λv=>A v\/B v) (HI ds a b):=by
 cases a with
 | none =>
  exact FP (λv=>⟨.inr,λh=>h.resolve_left (ha v)⟩) hb
 | some a =>
  cases b with
  | none=>exact FP (S:=A) (λv=>⟨.inl,λh=>h.resolve_right (hb v)⟩) ha
  | some b =>
   simp only [HI];obtain ⟨a1,a2⟩:=ha;obtain ⟨b1,b2⟩:=hb;have no:∀{u x y:Ty},HN ds t u->HN ds t x->HN ds t y->Cv ds u y=false->Cv ds y x=false->Cv ds u x=false:=λhu hx hy h1 h2=>by
    cases e:Cv ds _ _ with
    | false=>rfl
    | true=>rcases Zp ho hn hu hy hx e with h | h <;> simp_all
   split
   ·rename_i h;refine ⟨.inr b1,λu hu=>?_⟩;rcases hu with hu | hu
    ·have hab:=X9 ho hn (hA a a1) (hB b b1) h;exact no (hA u hu) (hB b b1) (hA a a1) (a2 u hu) hab
    ·exact b2 u hu
   ·rename_i h;refine ⟨.inl a1,λu hu=>?_⟩;rcases hu with hu | hu
    ·exact a2 u hu
    ·exact no (hB u hu) (hA a a1) (hB b b1) (b2 u hu) (by simpa using h)
def grtW (ds:List Dt):Prop:=∀d∈ds,∀c∈d.cons,Di c.name=true
theorem OE {ds:List Dt}:∀{l vs:List Ty} (n:Int),0<n->l.length=vs.length->(∀(i:Nat) a v,l[i]?=some a->vs[i]?=some v->0<CB ds a/\CB ds a<=Aj v)->0<Bc ds (Dd ds) n l/\Bc ds (Dd ds) n l<=n+Ag vs
 | [],[],n,hn,_,_=>by simp [Bc,Ag];exact hn
 | a::r,v::vs,n,hn,hl,h=>by
  obtain ⟨h1,h2⟩:=h 0 a v rfl rfl;obtain ⟨i1,i2⟩:=OE (l:=r) (vs:=vs) (n+Fz ds (Dd ds) a) (by simp only [CB] at h1;omega) (by simpa using hl) λi x y hx hy=>h (i+1) x y (by simpa using hx) (by simpa using hy);simp only [CB] at h1 h2;simp only [Bc,Ag];rw [if_neg (by omega)];exact ⟨i1,by omega⟩
 | [],_::_,_,_,h,_=>by simp at h
 | _::_,[],_,_,h,_=>by simp at h
theorem gN {ds:List Dt} (ho:OkW ds):∀(k:Nat) (u t:Ty),SizeOf.sizeOf u<k->AK ds t=true->HN ds t u->(0<CB ds t/\CB ds t<=Aj u)/\∀m h,m.ty=t->h∈AB ds t->AD h u=true->0<Be ds m h/\Be ds m h<=Aj u:=by
 intro k
 induction k with
 | zero=>intro u t h;omega
 | succ k ih =>
  intro u t hk hn hu;obtain ⟨p1,p2⟩:=FK hu;have hnm:=Co ho.okd (t:=t) (s:=CH u);have hs:=OE (ds:=ds) 1 (by decide) p1 λi a v ha hv=>(ih v a (by have:=JY (List.mem_of_getElem? hv);omega) (D3 hnm ha) (p2 i a v ha hv)).1;have hnu:Aj u=1+Ag (Br u):=by obtain ⟨a,b,c,d⟩:=u;rfl
  have hc:∀m h,m.ty=t->h∈AB ds t->AD h u=true->0<Be ds m h/\Be ds m h<=Aj u:=λm h e hh he=>by
   subst e;rw [KV ho hn (.inl hh),IK he];exact ⟨hs.1,by omega⟩
  refine ⟨?_,hc⟩;by_cases h8:AI t=8
  ·obtain ⟨x,x1,x2⟩:=QO hn hu (.inr (.inr h8));obtain ⟨c1,c2⟩:=hc (As t) x rfl x1 x2;obtain ⟨z1,z2⟩:=PZ ho (m:=As t) hn h8;have hb:=(CA ho t).1;have:CB ds t≠0:=λe=>z1 e x x1 c1;have:=(z2 this).2 x x1 c1;have hty:(As t).ty=t:=rfl;rw [hty] at this;omega
  ·have:CB ds t=1:=by obtain ⟨so,n,x,ps⟩:=t;simp only [CB,Fz];exact if_neg h8
   omega
theorem Wd {ds:List Dt} {m:Mi}:∀{l:List Ty} {b:Option (Ty×Int)} {p:Ty×Int},DE ds m b l=some p ->
  b=some p\/((∀q,b=some q->p.2<q.2)/\∃i:Nat,l[i]?=some p.1/\∀(j:Nat) y,j<i->l[j]?=some y->0<Be ds m y->BL m.nt y=false->p.2<Be ds m y)
 | [],b,p,h=>.inl h
 | x::r,b,p,h=>by
  simp only [DE] at h;have ih:=Wd h;by_cases hc:0<Be ds m x/\BL m.nt x=false/\Gj b (Be ds m x)=true
  ·rw [if_pos hc] at ih;have hq:∀q,b=some q->Be ds m x<q.2:=λq hq=>by subst hq;exact of_decide_eq_true hc.2.2
   right;rcases ih with e | ⟨h1,i,h2,h3⟩
   ·cases e;exact ⟨hq,0,rfl,λj y hj=>by omega⟩
   ·have h1:p.2<Be ds m x:=h1 (x,Be ds m x) rfl;refine ⟨λq e=>by have:=hq q e;omega,i+1,by simpa using h2,λj y hj hy h4 h5=>?_⟩;cases j with
    | zero=>simp at hy;subst hy;exact h1
    | succ j=>exact h3 j y (by omega) (by simpa using hy) h4 h5
  ·rw [if_neg hc] at ih;rcases ih with e | ⟨h1,i,h2,h3⟩
   ·exact .inl e
   ·refine .inr ⟨h1,i+1,by simpa using h2,λj y hj hy h4 h5=>?_⟩;cases j with
    | zero =>
     simp at hy;subst hy;cases b with
     | none=>exact absurd ⟨h4,h5,rfl⟩ hc
     | some q =>
      have:=h1 q rfl;have:¬(Be ds m x<q.2):=λh=>hc ⟨h4,h5,decide_eq_true h⟩;omega
    | succ j=>exact h3 j y (by omega) (by simpa using hy) h4 h5
theorem UH {a b:Int} (h:(0<=a/\(b <= -a\/a<=b))\/(a<0/\(b<=a \/ -a<b))):DC a<=DC b:=by
 simp only [DC];by_cases p:0<a <;> by_cases q:0<b <;> simp only [p,q,if_true,if_false] <;> omega
theorem jG {nt:List Ty}:∀(f:Nat) (i:Nat),(∀k:Int,-(i:Int)<k->k<i->BL nt (.mk 1 k [] [])=true)->∀n,BL nt (.mk 1 n [] [])=false->DC (nT (Kf nt f i))<=DC n:=by
 intro f
 induction f with
 | zero =>
  intro i h n hn;have:n <= -(i:Int)\/(i:Int)<=n:=by
   by_cases h1 : -(i:Int)<n
   ·by_cases h2:n<i
    ·rw [h n h1 h2] at hn;cases hn
    ·omega
   ·omega
  simp only [Kf,nT];exact UH (by omega)
 | succ f ih =>
  intro i h n hn;have hr:n <= -(i:Int)\/(i:Int)<=n:=by
   by_cases h1 : -(i:Int)<n
   ·by_cases h2:n<i
    ·rw [h n h1 h2] at hn;cases hn
    ·omega
   ·omega
  simp only [Kf];by_cases e1:BL nt (.mk 1 i [] [])=false
  ·rw [if_pos e1];simp only [nT];exact UH (by omega)
  ·rw [if_neg e1];have hni:n≠i:=λe=>by subst e;exact e1 hn
   by_cases e2:BL nt (.mk 1 (0-i) [] [])=false
   ·rw [if_pos e2];simp only [nT];exact UH (by omega)
   ·rw [if_neg e2];exact ih (i+1) (λk h1 h2=>by
     by_cases k1:k=i
     ·subst k1;simpa using e1
     ·by_cases k2:k=0-i
      ·subst k2;simpa using e2
      ·exact h k (by omega) (by omega)) n hn
theorem TB (nt:List Ty):∀(i:Nat),i<=nt.length->(∀j:Nat,j<i->BL nt (.mk 1 j [] [])=true)->BL nt (Kf nt (nt.length-i) i)=false
 | i,hi,h=>by
  rw [TA hi h]
  split
  ·assumption
  ·split
   ·assumption
   ·rename_i e1 e2;have hb:=LM (nt:=nt) (i:=i+1) λj hj=>by
     by_cases e:j=i
     ·rw [e];simpa using e1
     ·exact h j (by omega)
    exact TB nt (i+1) hb λj hj=>by
     by_cases e:j=i
     ·rw [e];simpa using e1
     ·exact h j (by omega)
termination_by i=>nt.length-i
theorem QY (h:Ty) (vs:List Ty):Aj (CD h vs)=1+Ag vs:=by obtain ⟨a,b,c,d⟩:=h;rfl
theorem Wr (v:Ty):Aj v=1+Ag (Br v):=by obtain ⟨a,b,c,d⟩:=v;rfl
def pO (ds:List Dt) (us vs:List Ty):Prop:=us.length=vs.length/\∀(i:Nat) u v,us[i]?=some u->vs[i]?=some v->Cv ds u v=false
theorem T6 {ds:List Dt}:∀{us vs:List Ty},pO ds us vs->Ag vs<=Ag us/\(Ag us=Ag vs->0<=BY ds us vs)
 | [],[],_=>⟨Nat.le_refl _,λ_=>by simp [BY]⟩
 | u::us,v::vs,⟨h1,h2⟩=>by
  have h0:=h2 0 u v rfl rfl;obtain ⟨i1,i2⟩:=T6 (us:=us) (vs:=vs) ⟨by simpa using h1,λi x y hx hy=>h2 (i+1) x y (by simpa using hx) (by simpa using hy)⟩;simp only [Cv] at h0;simp only [Ag,BY];by_cases e:Aj u=Aj v
  ·rw [if_pos e,decide_eq_false_iff_not] at h0;refine ⟨by omega,λhs=>?_⟩
   split
   ·omega
   ·exact i2 (by omega)
  ·rw [if_neg e,decide_eq_false_iff_not] at h0;exact ⟨by omega,λhs=>by omega⟩
 | [],_::_,⟨h,_⟩=>by simp at h
 | _::_,[],⟨h,_⟩=>by simp at h
theorem Rj {ds:List Dt} {g:Mi->Option (Option Ty)}:∀{ks:List Mi} {o:Option (List Ty)},Bu g ks=some o->(∀k∈ks,∀r,g k=some r->IF ds (Iu ds k) r) ->
  match o with
  | none=>∀vs,¬DU ds ks vs
  | some vs=>DU ds ks vs/\∀us,DU ds ks us->pO ds us vs
 | [],o,h,_=>by
  simp only [Bu,Option.some.injEq] at h;subst h;exact ⟨by simp only [DU],λus hu=>by simp only [DU] at hu;subst hu;exact ⟨rfl,λi u v h=>by simp at h⟩⟩
 | k::r,o,h,hk=>by
  simp only [Bu] at h;cases hg:g k with
  | none=>rw [hg] at h;cases h
  | some q =>
   have hm:=hk k (by simp) q hg;rw [hg] at h;cases q with
   | none =>
    simp only [Option.some.injEq] at h;subst h;intro vs hv;cases vs with
    | nil=>simp only [DU] at hv
    | cons v vs=>simp only [DU] at hv;exact hm v hv.1
   | some v =>
    simp only at h;cases hl:Bu g r with
    | none=>rw [hl] at h;cases h
    | some o' =>
     have ih:=Rj (o:=o') hl λy hy=>hk y (by simp [hy]);rw [hl] at h;cases o' with
     | none =>
      simp only [Option.some.injEq] at h;subst h;intro vs hv;cases vs with
      | nil=>simp only [DU] at hv
      | cons v vs=>simp only [DU] at hv;exact ih vs hv.2
     | some vs =>
      simp only [Option.some.injEq] at h;subst h;simp only at ih ⊢;refine ⟨⟨hm.1,ih.1⟩,λus hu=>?_⟩;cases us with
      | nil=>simp only [DU] at hu
      | cons u us =>
       simp only [DU] at hu;obtain ⟨n1,n2⟩:=ih.2 us hu.2;refine ⟨by simp [n1],λi x y hx hy=>?_⟩;cases i with
       | zero=>simp at hx hy;subst hx;subst hy;exact hm.2 _ hu.1
       | succ i=>exact n2 i x y (by simpa using hx) (by simpa using hy)
theorem Zr {ds:List Dt} (hg:grtW ds) {t h:Ty} (hh:h∈AB ds t) (h4:AI h=4):Di (CH h)=true:=by
 obtain ⟨so,n,x,ps⟩:=t;simp only [AB] at hh
 split at hh
 ·simp only [List.mem_cons,List.not_mem_nil,or_false] at hh;rcases hh with rfl | rfl <;> simp [AI] at h4
 ·split at hh
  ·rw [List.mem_singleton] at hh;subst hh;simp [AI] at h4
  ·split at hh
   ·split at hh
    ·rename_i d hd;obtain ⟨c,hc,rfl⟩:=List.mem_map.1 hh;exact hg d (List.mem_of_getElem? hd) c hc
    ·cases hh
   ·cases hh
theorem jB {ds:List Dt} (ho:OkW ds) (hg:grtW ds) {t h:Ty} {vs:List Ty} (hn:AK ds t=true) (hh:Kb ds t h) (hl:(AW ds t (CH h)).1.length=vs.length) (hv:∀(i:Nat) a v,(AW ds t (CH h)).1[i]?=some a->vs[i]?=some v->HN ds a v):HN ds t (CD h vs):=by
 refine ⟨QR ho hn hh hl ((QQ hl).2 λi a v ha hv'=>(hv i a v ha hv').1),?_⟩;have hvn:CI vs=true:=by
  rw [Ke,List.all_eq_true];intro v hm;obtain ⟨i,hi,e⟩:=List.getElem_of_mem hm;obtain ⟨a,ha⟩:=Ap (l:=(AW ds t (CH h)).1) (i:=i) (by omega);exact (hv i a v ha (by rw [List.getElem?_eq_getElem hi,e])).2
 have hal:=EY ho t (CH h);have hkind:(AI t=8/\AI h=4)\/((AW ds t (CH h)).1=[]/\AI h≠4):=by
  rcases hh with hh | ⟨h1,n,rfl,_⟩
  ·rcases FR ho hn hh with ⟨h1,h2,_⟩ | ⟨h1,n,rfl,_⟩ | ⟨h1,rfl⟩
   ·exact .inl ⟨h1,h2⟩
   ·exact .inr ⟨by rw [FY (by omega)],by simp [AI]⟩
   ·exact .inr ⟨by rw [FY (by omega)],by simp [AI]⟩
  ·exact .inr ⟨by rw [FY (by omega)],by simp [AI]⟩
 have hz:h∈AB ds t->AI h=4->nT h=0:=λhm h4=>by
  obtain ⟨so,n,x,ps⟩:=t;simp only [AB] at hm
  split at hm
  ·simp only [List.mem_cons,List.not_mem_nil,or_false] at hm;rcases hm with rfl | rfl <;> simp [AI] at h4
  ·split at hm
   ·rw [List.mem_singleton] at hm;subst hm;rfl
   ·split at hm
    ·split at hm
     ·obtain ⟨c,hc,rfl⟩:=List.mem_map.1 hm;rfl
     ·cases hm
    ·cases hm
 have hgr:=λhm h4=>Zr hg (t:=t) (h:=h) hm h4;rcases hh with hh | ⟨h1,n,rfl,hb⟩
 ·rcases FR ho hn hh with ⟨h1,h2,_⟩ | ⟨h1,n,rfl,hb⟩ | ⟨h1,rfl⟩
  ·have h3:=hz hh h2;have h4:=hgr hh h2;obtain ⟨a,b,c,d⟩:=h;simp only [AI,nT,CH] at *;subst h2;subst h3;simp [CD,Dh,GC,hvn,h4];omega
  ·have:vs=[]:=List.eq_nil_of_length_eq_zero (by rcases hkind with ⟨_,e⟩ | ⟨e,_⟩;simp [AI] at e;rw [e] at hl;simpa using hl.symm);subst this;rcases hb with rfl | rfl <;> simp [CD,Dh,CI,GC,F4]
  ·have:vs=[]:=List.eq_nil_of_length_eq_zero (by rcases hkind with ⟨_,e⟩ | ⟨e,_⟩;simp [AI] at e;rw [e] at hl;simpa using hl.symm);subst this;simp [CD,Dh,CI,GC]
 ·have:vs=[]:=List.eq_nil_of_length_eq_zero (by rcases hkind with ⟨_,e⟩ | ⟨e,_⟩;simp [AI] at e;rw [e] at hl;simpa using hl.symm);subst this;simp [CD,Dh,CI,GC,F4];omega
theorem nM {ds:List Dt} {ks:List Mi} {vs:List Ty} (h:DU ds ks vs):ks.length=vs.length/\∀(i:Nat) a v,(ks.map Mi.ty)[i]?=some a->vs[i]?=some v->HN ds a v:=by
 obtain ⟨h1,h2⟩:=II.1 h;refine ⟨h1,λi a v ha hv=>?_⟩;simp only [List.getElem?_map,Option.map_eq_some_iff] at ha;obtain ⟨k,hk,rfl⟩:=ha;exact (B3.1 (h2 i k v hk hv)).1
theorem dX (h:Ty) (vs:List Ty):AD h (CD h vs)=true:=by obtain ⟨a,b,c,d⟩:=h;simp [CD,AD]
theorem dH {ds:List Dt} (ho:OkW ds) (hg:grtW ds) {N f:Nat} {m:Mi} {r:Option Ty} (hw:G0 ds N m=true) (hc:Do ds m) (hh:AI m.hd≠0) (h:AO ds (f+1) m=some r) (ih:∀k∈m.ks,∀r,AO ds f k=some r->IF ds (Iu ds k) r):IF ds (Iu ds m) r:=by
 rw [EW hh] at h;have hci:=B0.1 hc;have hwi:=Bb.1 hw;obtain ⟨c1,c2⟩:=hci.2.1 hh;cases hl:Bu (AO ds f) m.ks with
 | none=>rw [hl] at h;cases h
 | some o =>
  rw [hl] at h;simp only [Option.map_some,Option.some.injEq] at h;subst h;have hm:=Rj hl ih;cases o with
  | none =>
   intro v hv;exact hm _ ((B3.1 hv).2.2 hh).2
  | some vs =>
   simp only at hm;obtain ⟨k1,k2⟩:=nM hm.1;rw [c2] at k2;have hlen:(AW ds m.ty (CH m.hd)).1.length=vs.length:=by rw [<- c2,List.length_map,k1]
   have hok:=jB ho hg hwi.1.1 c1 hlen k2;refine ⟨B3.2 ⟨hok,λe=>absurd e hh,λ_=>⟨dX _ _,?_⟩⟩,λu hu=>?_⟩
   ·have:Br (CD m.hd vs)=vs:=by generalize m.hd=h;obtain ⟨a,b,c,d⟩:=h;rfl
    rw [this];exact hm.1
   ·obtain ⟨u1,u2⟩:=(B3.1 hu).2.2 hh;obtain ⟨n1,n2⟩:=T6 (hm.2 _ u2);have hp:=Wr u;have hq:=QY m.hd vs;simp only [Cv]
    split
    ·rename_i e;have hos:=n2 (by omega);rw [decide_eq_false_iff_not,Hp];have hx:nT u=nT (CD m.hd vs)/\CH u=CH (CD m.hd vs)/\Br (CD m.hd vs)=vs:=by
      generalize m.hd=h at u1;obtain ⟨a,b,c,d⟩:=h;obtain ⟨a',b',c',d'⟩:=u;simp only [AD,Bool.and_eq_true,beq_iff_eq] at u1;simp only [CD,nT,CH,Br];exact ⟨u1.1.2.symm,u1.2.symm,trivial⟩
     rw [hx.1,hx.2.1,hx.2.2]
     split
     ·omega
     ·split
      ·omega
      ·split
       ·rw [if_neg (by omega)];omega
       ·omega
    ·rw [decide_eq_false_iff_not];omega
theorem jZ {ds:List Dt} (ho:OkW ds) {t:Ty} (hn:AK ds t=true) {i j:Nat} {x y:Ty} (hi:(AB ds t)[i]?=some x) (hj:(AB ds t)[j]?=some y) {u v:Ty} (hu:AD x u=true) (hv:AD y v=true) (hij:i<j):Cg ds u v<0:=by
 obtain ⟨so,n,z,ps⟩:=t;rw [Hp];have hx:AI u=AI x/\nT u=nT x/\CH u=CH x:=by
  obtain ⟨a,b,c,d⟩:=x;obtain ⟨a',b',c',d'⟩:=u;simp only [AD,Bool.and_eq_true,beq_iff_eq] at hu;exact ⟨hu.1.1.symm,hu.1.2.symm,hu.2.symm⟩
 have hy:AI v=AI y/\nT v=nT y/\CH v=CH y:=by
  obtain ⟨a,b,c,d⟩:=y;obtain ⟨a',b',c',d'⟩:=v;simp only [AD,Bool.and_eq_true,beq_iff_eq] at hv;exact ⟨hv.1.1.symm,hv.1.2.symm,hv.2.symm⟩
 rw [hx.1,hx.2.1,hx.2.2,hy.2.1,hy.2.2];by_cases h2:so=2
 ·subst h2;have e:AB ds (.mk 2 n z ps)=[.mk 2 0 [] [],.mk 2 1 [] []]:=by simp [AB]
  rw [e] at hi hj;have hj2:j<2:=by have:=(List.getElem?_eq_some_iff.1 hj).1;simpa using this
  have h0:i=0:=by omega
  have h1:j=1:=by omega
  subst h0;subst h1;simp at hi hj;subst hi;subst hj;simp [AI,nT]
 ·by_cases h3:so=3
  ·subst h3;have e:AB ds (.mk 3 n z ps)=[.mk 3 0 [] []]:=by simp [AB]
   rw [e] at hj;have hj2:j<1:=by have:=(List.getElem?_eq_some_iff.1 hj).1;simpa using this
   omega
  ·by_cases h8:so=8
   ·subst h8;obtain ⟨hp,d,hd⟩:=CN hn 8 n z ps rfl rfl;have hH:AB ds (.mk 8 n z ps)=d.cons.map Le:=by
     rw [show AB ds (.mk 8 n z ps)=(match ds[(Bf z 0 ds).toNat]? with | some d=>d.cons.map λc=>Ty.mk 4 0 c.name [] | none=>[]) from rfl,hd];rfl
    rw [hH] at hi hj;simp only [List.getElem?_map,Option.map_eq_some_iff] at hi hj;obtain ⟨a,ha,rfl⟩:=hi;obtain ⟨b,hb,rfl⟩:=hj;have ca:=Vk ho (n:=n) (ps:=ps) hd ha;have cb:=Vk ho (n:=n) (ps:=ps) hd hb;have sa:=Gl ho.dif (n:=n) (s:=a.name) (ps:=ps) hp (by rw [ca];simp);have sb:=Gl ho.dif (n:=n) (s:=b.name) (ps:=ps) hp (by rw [cb];simp);rw [ca] at sa;rw [cb] at sb;rw [show AI (Le a)=4 from rfl,show CH (Le a)=a.name from rfl,show CH (Le b)=b.name from rfl,if_neg (by decide),if_neg (by decide),if_pos rfl,sa,sb,if_pos (by omega)];omega
   ·have e:AB ds (.mk so n z ps)=[]:=by simp [AB,h2,h3,h8]
    rw [e] at hi;simp at hi
theorem dB {ds:List Dt} (ho:OkW ds) (hg:grtW ds) {N:Nat} (hN:N<=1000000):∀(f:Nat) (m:Mi) (r:Option Ty),G0 ds N m=true->Do ds m->XQ ds m->AO ds f m=some r->IF ds (Iu ds m) r:=by
 intro f
 induction f with
 | zero=>intro m r _ _ _ h;simp [AO] at h
 | succ f ih =>
  intro m r hw hc hnt h;have hwi:=Bb.1 hw;have hci:=B0.1 hc;have hn:=hwi.1.1;have hkn:∀m r,G0 ds N m=true->Do ds m->XQ ds m->AI m.hd≠0->AO ds (f+1) m=some r->IF ds (Iu ds m) r:=λm r hw hc hnt hh h =>
   dH ho hg hw hc hh h λk hk r hr=>ih k r ((Bb.1 hw).2.2 k hk) ((B0.1 hc).2.2 k hk) ((GK.1 hnt).2 k hk) hr
  by_cases hh:AI m.hd=0
  case neg=>exact hkn m r hw hc hnt hh h
  by_cases t1:AI m.ty=1
  ·rw [Fq hh t1] at h;simp only [Option.some.injEq] at h;subst h;obtain ⟨n,n1,n2,n3⟩:=I7 m.nt m.nt.length 0 (by omega);have hfree:=TB m.nt 0 (Nat.zero_le _) λj hj=>by omega
   have hmin:=jG (nt:=m.nt) m.nt.length 0 λk h1 h2=>by omega
   simp only [Dy];rw [Nat.sub_zero] at hfree;rw [show ((0:Nat):Int)=0 from rfl] at hfree hmin;rw [n1] at hfree hmin ⊢;have hnl:=hwi.1.2.2;have key:∀u,Iu ds m u->∃k,u = .mk 1 k [] []/\BL m.nt u=false:=λu hu=>by
    obtain ⟨⟨a,b⟩,c,_⟩:=B3.1 hu;refine ⟨nT u,?_,c hh⟩;rw [Ji] at a;generalize m.ty=t at *;obtain ⟨so,q,x,ps⟩:=t;obtain ⟨g,k,y,qs⟩:=u;simp only [AI] at t1;subst t1;have:g=1:=by simpa [LI] using a
    subst this;simp only [Dh,Bool.and_eq_true,GC,if_true,beq_iff_eq] at b;obtain ⟨_,⟨_,rfl⟩,b2⟩:=b;have:qs=[]:=List.eq_nil_of_length_eq_zero (by omega);subst this;rfl
   refine ⟨B3.2 ⟨⟨?_,?_⟩,λ_=>hfree,λe=>absurd hh e⟩,λu hu=>?_⟩
   ·rw [Ji];generalize m.ty=t at *;obtain ⟨so,q,x,ps⟩:=t;simp only [AI] at t1;subst t1;simp [LI]
   ·simp [Dh,CI,GC,F4];omega
   ·obtain ⟨k,rfl,k2⟩:=key u hu;have:=hmin k k2;simp only [nT] at this;simp only [Cv,Aj,Ag,if_true,Cg,decide_eq_false_iff_not];omega
  by_cases t4:AI m.ty=4\/AI m.ty=5\/AI m.ty=6\/AI m.ty=7
  ·rw [Fp hh t4] at h;simp only [Option.some.injEq] at h;subst h;have key:∀u,HN ds m.ty u↔u = .mk 5 0 [] []:=λu=>by
    generalize m.ty=t at *;obtain ⟨so,q,x,ps⟩:=t;obtain ⟨g,k,y,qs⟩:=u;simp only [AI] at t1 t4;simp only [HN,Ji,LI,if_neg (show ¬so=1 by omega),if_neg (show ¬so=2 by omega),if_neg (show ¬so=3 by omega),if_neg (show ¬so=8 by omega),beq_iff_eq];constructor
    ·rintro ⟨rfl,b⟩;simp only [Dh,Bool.and_eq_true,GC] at b;rw [if_neg (by decide),if_neg (by decide),if_pos (.inr trivial)] at b;simp only [Bool.and_eq_true,beq_iff_eq] at b;obtain ⟨_,⟨rfl,rfl⟩,b2⟩:=b;have:qs=[]:=List.eq_nil_of_length_eq_zero (by omega);subst this;rfl
    ·intro e;cases e;exact ⟨rfl,by simp [Dh,CI,GC]⟩
   have hz:m.nt=[]:=by
    cases hl:m.nt with
    | nil=>rfl
    | cons x r =>
     have:=(GK.1 hnt).1 x (by rw [hl];simp);rcases this with h | ⟨h,_⟩
     ·have:=Rw h;omega
     ·omega
   refine ⟨B3.2 ⟨(key _).2 rfl,λ_=>by rw [hz];rfl,λe=>absurd hh e⟩,λu hm=>?_⟩;rw [(key u).1 (B3.1 hm).1];simp [Cv,Cg]
  rw [Dz hh t1 t4] at h;have hs8:AI m.ty=2\/AI m.ty=3\/AI m.ty=8:=by
   have:=of_decide_eq_true hwi.2.1.2;omega
  have hu:∀u,Iu ds m u->∃x,x∈AB ds m.ty/\AD x u=true/\BL m.nt x=false/\0<Be ds m x/\Be ds m x<=Aj u:=λu hu=>by
   obtain ⟨a,b,_⟩:=B3.1 hu;obtain ⟨x,x1,x2⟩:=QO hn a hs8;have:=(gN ho _ u m.ty (Nat.lt_succ_self _) hn a).2 m x rfl x1 x2;exact ⟨x,x1,x2,by rw [GZ x2];exact b hh,this.1,this.2⟩
  cases hq:AM ds m with
  | none =>
   rw [hq] at h;simp only [Option.some.injEq] at h;subst h;intro u hm;obtain ⟨x,x1,x2,x3,x4,_⟩:=hu u hm;simp only [AM,Option.map_eq_none_iff] at hq;exact (KD hq).2 x x1 ⟨x4,x3⟩
  | some h' =>
   rw [hq] at h;simp only at h;have hmem:=Ho hq;have hfm:=(B4 hmem).2;have hK:=hkn (Bm ds m h') r (Ml ho hn hwi.2.1.2 (B4 hmem).1) (Ok (.inl hmem)) (QV ds m h') hfm h;simp only [AM,Option.map_eq_some_iff] at hq;obtain ⟨p,hp,rfl⟩:=hq;obtain ⟨q1,_,q3⟩:=EQ hp;rcases q1 with q1 | ⟨_,q2,q4,q5⟩
   ·cases q1
   rcases Wd hp with e | ⟨_,i,i1,i2⟩
   ·cases e
   obtain ⟨r',r1,_,r3⟩:=HX ho (f:=f+1000) hn (.inl hmem) λa ha=>by
    have hna:=Co ho.okd (t:=m.ty) (s:=CH p.1);rw [CM,List.all_eq_true] at hna;exact Gq ho 256 a (hna a ha) (H7 ho a ha) (CA ho a).2 _ (by omega)
   have e:=Ju (show f+1<=f+1000+1 by omega) h;rw [r1] at e;cases e;obtain ⟨v,rfl,v2,_⟩:=r3 (by omega);obtain ⟨k1,k2⟩:=hK;have hk1:=(IH hfm).1 k1;refine ⟨B3.2 ⟨hk1.1,λ_=>by rw [<- GZ hk1.2];exact q5,λe=>absurd hh e⟩,λu hm=>?_⟩;obtain ⟨x,x1,x2,x3,x4,x5⟩:=hu u hm;cases hx:AD p.1 u with
   | true=>exact k2 u ((IH hfm).2 ⟨(B3.1 hm).1,hx⟩)
   | false =>
    have hle:=q3 x x1 x4 x3;simp only [Cv]
    split
    ·rename_i en;rw [decide_eq_false_iff_not];obtain ⟨j,hj,e⟩:=List.getElem_of_mem x1;have hjx:(AB ds m.ty)[j]?=some x:=by rw [List.getElem?_eq_getElem hj,e]
     have hij:i<j:=by
      by_cases hlt:j<i
      ·have:=i2 j x hlt hjx x4 x3;omega
      ·have hne:i≠j:=λe=>by subst e;rw [i1] at hjx;cases hjx;rw [x2] at hx;cases hx
       omega
     have h1:=jZ ho hn i1 hjx hk1.2 x2 hij;have h2:=Hq ho _ u m.ty v (Nat.lt_succ_self _) hn (B3.1 hm).1 hk1.1;omega
    ·rw [decide_eq_false_iff_not];omega
def Lj (l:List (Ty×Int)) (v:Ty):Prop:=∀x∈l,((AY x.1 v).2=true↔x.2=1)
theorem fL (v:Ty):Lj [] v:=λx hx=>by cases hx
theorem SN (x:Ty×Int) (l:List (Ty×Int)) (v:Ty):Lj (x::l) v↔((AY x.1 v).2=true↔x.2=1)/\Lj l v:=by
 simp only [Lj,List.mem_cons,forall_eq_or_imp]
theorem XZ {ds:List Dt} (ho:OkW ds) (hg:grtW ds) {t:Ty} (hn:AK ds t=true):∀(f N:Nat) (m:Mi) (l:List (Ty×Int)) (r:Option Ty),N+f<=1000000->MOk ds t N m->XQ ds m->Jh ds t l->(∀y∈l,y.2=0\/y.2=1) ->
  C3 ds f m l=some r->IF ds (λv=>Iu ds m v/\Lj l v) r:=by
 intro f
 induction f with
 | zero=>intro N m l r _ _ _ _ _ h;simp [C3] at h
 | succ f ih =>
  intro N m l r hN hm hnt hr hb h;cases l with
  | nil =>
   have:=dB ho hg (by omega) 1000 m r hm.wf hm.coh hnt h;exact FP (λv=>⟨λh=>⟨h,fL v⟩,λh=>h.1⟩) this
  | cons x l =>
   obtain ⟨p,b⟩:=x;obtain ⟨h1,h2,h3⟩:=hr (p,b) (by simp);have hb0:=hb (p,b) (by simp);simp only at h1 h2 h3 hb0;have hl:=λv=>Jq ho p (v:=v) hm.wf hm.coh (by rw [hm.typ];exact h1) h2;have hty:∀{m:Mi} {v:Ty},MOk ds t N m->Iu ds m v->HN ds t v:=λhm hv=>by have:=(B3.1 hv).1;rwa [hm.typ] at this
   have hty1:∀{m:Mi} {v:Ty},MOk ds t (N+1) m->Iu ds m v->HN ds t v:=λhm hv=>by have:=(B3.1 hv).1;rwa [hm.typ] at this
   simp only [C3] at h;by_cases h22:(Ar ds p m).1=2
   ·rw [if_pos h22] at h;have hfree:=(hl zT).1 h22;have hfm:AI (Ar ds p m).2.2≠0:=by
     have A:=H6 ho p hm.wf hm.coh (by rw [hm.typ];exact h1) h2 h22;have:∀(path:List Int) (m:Mi),Io ds (Ar ds p m).2.2 m path->True:=λ_ _ _=>trivial;have key:∀{h:Ty} (path:List Int) (m:Mi),Io ds h m path->AI h≠0:=by
      intro h path
      induction path with
      | nil=>intro m ⟨_,_,h3⟩;exact (M8 h3).1
      | cons i q ihq=>intro m ⟨k,_,_,h3⟩;exact ihq k h3
     exact key _ _ hfree
    have hsp:=λv=>Q0 ho hfm (Ar ds p m).2.1 (v:=v) hm.wf hfree;have hmT:=hm.split ho h1 h2 h3 h22;cases ha:C3 ds f (A0 ds m (Ar ds p m).2.1 (Ar ds p m).2.2 true) ((p,b)::l) with
    | none=>rw [ha] at h;simp [OB] at h
    | some ra =>
     cases hbb:C3 ds f (A0 ds m (Ar ds p m).2.1 (Ar ds p m).2.2 false) ((p,b)::l) with
     | none=>rw [ha,hbb] at h;simp [OB] at h
     | some rb =>
      rw [ha,hbb] at h;simp only [OB,Option.some.injEq] at h;subst h;have i1:=ih (N+1) _ _ ra (by omega) (hmT true) (Kd true _ hnt hfree) hr hb ha;have i2:=ih (N+1) _ _ rb (by omega) (hmT false) (Kd false _ hnt hfree) hr hb hbb;refine FP (λv=>?_) (gK ho hn (λv hv=>hty1 (hmT true) hv.1) (λv hv=>hty1 (hmT false) hv.1) i1 i2);constructor
      ·rintro (⟨a,c⟩ | ⟨a,c⟩)
       ·exact ⟨(hsp v).1 true a,c⟩
       ·exact ⟨(hsp v).1 false a,c⟩
      ·rintro ⟨a,c⟩;exact ((hsp v).2 a).imp (λa=>⟨a,c⟩) (λa=>⟨a,c⟩)
   ·rw [if_neg h22] at h;have hrg:=Hu ds p m;have hm1:∀v,Iu ds m v->(((AY p v).2=true↔b=1)↔(Ar ds p m).1=b):=λv hv=>by
     obtain ⟨c1,c2⟩:=(hl v).2 hv;rcases hrg with e | e | e
     ·have hc:=c2 e;rw [e,hc];constructor
      ·intro h;by_cases hb1:b=1
       ·exact absurd (h.2 hb1) (by simp)
       ·omega
      ·intro h;subst h;simp
     ·have hc:=c1 e;rw [e,hc];constructor
      ·intro h;exact (h.1 rfl).symm
      ·intro h;subst h;simp
     ·exact absurd e h22
    by_cases e:(Ar ds p m).1=b
    ·rw [if_pos e] at h;have i1:=ih N m l r (by omega) hm hnt (λy hy=>hr y (by simp [hy])) (λy hy=>hb y (by simp [hy])) h;refine FP (λv=>?_) i1;rw [SN];constructor
     ·rintro ⟨a,c⟩;exact ⟨a,(hm1 v a).2 e,c⟩
     ·rintro ⟨a,_,c⟩;exact ⟨a,c⟩
    ·rw [if_neg e] at h;simp only [Option.some.injEq] at h;subst h;rintro v ⟨a,c⟩;rw [SN] at c;exact e ((hm1 v a).1 c.1)
theorem Ue (v:Ty):∀(l:List Ty) (i:Nat),-1<=B5 v i l/\B5 v i l<(i:Int)+l.length\/(l=[]/\B5 v i l = -1)
 | [],i=>.inr ⟨rfl,rfl⟩
 | p::r,i=>by
  have:=Ue v r (i+1);left;simp only [B5,List.length_cons];cases (AY p v).2
  ·simp only [cond_false];rcases this with h | ⟨h1,h2⟩
   ·omega
   ·rw [h2];omega
  ·simp only [cond_true];omega
theorem Oa (v:Ty) (l:List Ty) : -1<=B5 v 0 l/\(B5 v 0 l<l.length):=by
 rcases Ue v l 0 with h | ⟨h1,h2⟩
 ·omega
 ·rw [h2,h1];simp
theorem Z6 (c:Cse) (v:Ty):Ak Tryz.prog 15 [.agg (dCse c),.agg (dTyc v)] (.tup [.int .i64 (bif Ey c v then B5 v 0 c.rows else 0),.bool (Ey c v)]):=by
 have hF:=Uy c v;have hb:=Oa v c.rows;generalize Ey c v=b at *;obtain ⟨ds,⟨c1,c2,c3,c4⟩,rows⟩:=c;obtain ⟨g,m,z,vs⟩:=v;simp only at hb hF ⊢;generalize B5 (.mk g m z vs) 0 rows=n at *;refine Af AH Tryz.func15 (by decide +kernel) rfl [3,4,5] rfl rfl ?_;refine AZ rfl ?_;cases b with
 | false =>
  refine Ah rfl hF ?_;refine AZ rfl ?_;refine Az rfl λh=>?_;refine bd [] rfl (by simp [An];rfl) ?_;exact Aa rfl rfl rfl
 | true =>
  by_cases hn:n<0
  ·have:n = -1:=by omega
   subst this;refine Ah rfl hF ?_;refine AZ rfl ?_;refine Ai rfl λh=>?_;refine GA rfl ?_;exact Aa rfl rfl rfl
  ·rw [show decide (n<0)=false by simpa using hn] at hF;refine Ah rfl hF ?_;refine AZ rfl ?_;refine Az rfl λh=>?_;refine bd [] rfl (by simp [An];rfl) ?_;refine Aa rfl rfl ?_;have h1:decide (0<=n)=true:=by simpa using (show 0<=n by omega)
   have h2:decide (n<rows.length)=true:=by simpa using hb.2
   simp [h1,h2]
mutual
def Fv:Ty->Nat
 | .mk _ _ _ ps=>1+CX ps
def CX:List Ty->Nat
 | []=>0
 | t::r=>max (Fv t) (CX r)
end
mutual
theorem L1:∀(t:Ty) (l d:Int),(0<=B8 t l d↔(Aj t:Int)<=l/\(Fv t:Int)<=d)/\(0<=B8 t l d->B8 t l d=l-Aj t)
 | .mk s n x ps,l,d=>by
  obtain ⟨h1,h2⟩:=Oy ps (l-1) (d-1);simp only [B8,Aj,Fv];by_cases h0:l<1\/d<1
  ·rw [if_pos h0];exact ⟨⟨λh=>by omega,λh=>by omega⟩,λh=>by omega⟩
  ·rw [if_neg h0];by_cases hl:0<=l-1
   ·refine ⟨⟨λh=>?_,λh=>(h1 hl).2 ⟨by omega,.inr (by omega)⟩⟩,λh=>by have:=h2 hl h;omega⟩;obtain ⟨q1,q2⟩:=(h1 hl).1 h;rcases q2 with rfl | q2
    ·simp only [CX,Ag] at q1 ⊢;omega
    ·omega
   ·omega
theorem Oy:∀(ts:List Ty) (l d:Int),(0<=l->(0<=BV ts l d↔(Ag ts:Int)<=l/\(ts=[]\/(CX ts:Int)<=d)))/\(0<=l->0<=BV ts l d->BV ts l d=l-Ag ts)
 | [],l,d=>by simp [BV,Ag]
 | t::r,l,d=>by
  obtain ⟨a1,a2⟩:=L1 t l d;obtain ⟨b1,b2⟩:=Oy r (B8 t l d) d;simp only [BV,Ag,CX];refine ⟨λhl=>?_,λhl=>?_⟩
  ·rw [if_pos hl];by_cases hw:0<=B8 t l d
   ·have e:=a2 hw;obtain ⟨q1,q2⟩:=a1.1 hw;rw [b1 hw,e];constructor
    ·rintro ⟨h,h'⟩;refine ⟨by omega,.inr ?_⟩;rcases h' with rfl | h'
     ·simp [CX];omega
     ·omega
    ·rintro ⟨h,h'⟩;refine ⟨by omega,?_⟩;rcases h' with h' | h'
     ·cases h'
     ·exact .inr (by omega)
   ·have hle:=Iw t l d;have:BV r (B8 t l d) d=B8 t l d:=by
     cases r with
     | nil=>rfl
     | cons a b=>simp only [BV];rw [if_neg hw]
    rw [this];refine ⟨λh=>absurd h hw,λ⟨h,h'⟩=>?_⟩;rcases h' with h' | h'
    ·cases h'
    ·exact absurd (a1.2 ⟨by omega,by omega⟩) hw
  ·rw [if_pos hl];intro h;have hw:0<=B8 t l d:=by
    by_cases hw:0<=B8 t l d
    ·exact hw
    ·exfalso;cases r with
     | nil=>exact hw h
     | cons a b=>simp only [BV] at h;rw [if_neg hw] at h;exact hw h
   have:=b2 hw h;have:=a2 hw;omega
end
def RR (s:List Int) (n:Int):Nat:=(s.filter λx=>decide (0<x/\x<=n)).length
theorem qW (s:List Int) (n:Int):RR s n<=s.length:=List.length_filter_le _ _
theorem X1 {a b:Int} (h:a<=b):∀s:List Int,RR s a<=RR s b
 | []=>Nat.le_refl _
 | x::r=>by
  have ih:=X1 h r;simp only [RR,List.filter_cons] at ih ⊢;by_cases h1:0<x/\x<=a
  ·have h2:0<x/\x<=b:=⟨h1.1,by omega⟩
   simp only [h1,h2,and_self,decide_true,if_true,List.length_cons];omega
  ·by_cases h2:0<x/\x<=b
   ·simp only [decide_eq_false h1,decide_eq_true h2,if_true,Bool.false_eq_true,if_false,List.length_cons];omega
   ·simp only [decide_eq_false h1,decide_eq_false h2,Bool.false_eq_true,if_false];exact ih
theorem lG {a b:Int} (h:a<b) (h0:0<b):∀{s:List Int},b∈s->RR s a<RR s b
 | x::r,hm=>by
  have im:=X1 (show a<=b by omega) r;simp only [RR,List.filter_cons] at im ⊢;by_cases e:x=b
  ·subst e;have h1:¬(0<x/\x<=a):=λh=>by omega
   have h2:0<x/\x<=x:=⟨h0,Int.le_refl _⟩
   simp only [decide_eq_false h1,decide_eq_true h2,if_true,Bool.false_eq_true,if_false,List.length_cons];omega
  ·have ih:=lG h h0 (s:=r) (by simpa [Ne.symm e] using hm);simp only [RR] at ih;by_cases h1:0<x/\x<=a
   ·have h2:0<x/\x<=b:=⟨h1.1,by omega⟩
    simp only [h1,h2,and_self,decide_true,if_true,List.length_cons];omega
   ·by_cases h2:0<x/\x<=b
    ·simp only [decide_eq_false h1,decide_eq_true h2,if_true,Bool.false_eq_true,if_false,List.length_cons];omega
    ·simp only [decide_eq_false h1,decide_eq_false h2,Bool.false_eq_true,if_false];exact ih
theorem lH {ds:List Dt} (ho:OkW ds) (n:Int):RR (Dd ds) n<=4:=by
 have:=qW (Dd ds) n;rw [(N4 ho).len] at this;have:=ho.d4;omega
theorem nA {ds:List Dt} {t:Ty} (h8:AI t=8) (h:0<CB ds t):CB ds t∈Dd ds:=by
 obtain ⟨so,n,x,ps⟩:=t;simp only [AI] at h8;subst h8;simp only [CB,Fz,if_true] at h ⊢;cases hq:(Dd ds)[(Lg ds x).toNat]? with
 | none=>simp [List.getD,hq] at h
 | some y=>simp only [List.getD,hq,Option.getD_some];exact List.mem_of_getElem? hq
theorem OY {g:Mi->Option (Option Ty)}:∀{ks:List Mi} {vs:List Ty},Bu g ks=some (some vs)->ks.length=vs.length/\∀(i:Nat) k v,ks[i]?=some k->vs[i]?=some v->g k=some (some v)
 | [],vs,h=>by
  simp only [Bu,Option.some.injEq] at h;subst h;exact ⟨rfl,λi k v h=>by simp at h⟩
 | k::r,vs,h=>by
  obtain ⟨v,h1,h2⟩:=OW h;cases v with
  | none=>simp only at h2;cases h2
  | some v =>
   simp only at h2;obtain ⟨q,h3,h4⟩:=h2;cases q with
   | none=>simp at h4
   | some ws =>
    simp only [Option.map_some,Option.some.injEq] at h4;subst h4;obtain ⟨i1,i2⟩:=OY h3;refine ⟨by simp [i1],λi x y hx hy=>?_⟩;cases i with
    | zero=>simp at hx hy;subst hx;subst hy;exact h1
    | succ i=>exact i2 i x y (by simpa using hx) (by simpa using hy)
theorem LW {l:List Ty} {n:Nat}:CX l<=n↔∀v∈l,Fv v<=n:=by
 induction l with
 | nil=>simp [CX]
 | cons t r ih=>simp only [CX,List.mem_cons,forall_eq_or_imp,<- ih];omega
theorem LV (h:Ty) (vs:List Ty):Fv (CD h vs)=1+CX vs:=by obtain ⟨a,b,c,d⟩:=h;rfl
theorem Kj {ds:List Dt} {f:Nat} {m:Mi} {v:Ty} (hh:AI m.hd≠0) (h:AO ds (f+1) m=some (some v)):∃vs,v=CD m.hd vs/\m.ks.length=vs.length/\∀(i:Nat) k u,m.ks[i]?=some k->vs[i]?=some u->AO ds f k=some (some u):=by
 rw [EW hh] at h;cases hl:Bu (AO ds f) m.ks with
 | none=>rw [hl] at h;cases h
 | some o =>
  rw [hl] at h;cases o with
  | none=>simp at h
  | some vs =>
   simp only [Option.map_some,Option.some.injEq] at h;subst h;obtain ⟨h1,h2⟩:=OY hl;exact ⟨vs,rfl,h1,h2⟩
theorem Tt {ds:List Dt} {m:Mi} {h:Ty} (hq:AM ds m=some h):h∈AB ds m.ty/\0<Be ds m h/\∀x∈AB ds m.ty,0<Be ds m x->BL m.nt x=false->Be ds m h<=Be ds m x:=by
 have hm:=Ho hq;simp only [AM,Option.map_eq_some_iff] at hq;obtain ⟨p,hp,rfl⟩:=hq;obtain ⟨q1,_,q3⟩:=EQ hp;rcases q1 with q1 | ⟨_,q2,q4,_⟩
 ·cases q1
 exact ⟨hm,by omega,λx hx h0 hn=>by have:=q3 x hx h0 hn;omega⟩
theorem WX {ds:List Dt} (ho:OkW ds):∀(k:Nat) (t:Ty) (f:Nat) (v:Ty),AK ds t=true->Qz t=true->CB ds t<=k->AO ds f (As t)=some (some v)->Fv v<=RR (Dd ds) (CB ds t)+1:=by
 intro k
 induction k with
 | zero =>
  intro t f v hn hs hk h;obtain ⟨r,r1,r2,_⟩:=Gq ho 0 t hn hs hk (f+2) (by omega);have:=Ju (show f<=f+2 by omega) h;rw [r1] at this;cases this;have:=(CA ho t).1;cases r2 (by omega)
 | succ k ih =>
  intro t f v hn hs hk h;obtain ⟨f,rfl⟩:∃g,f=g+1:=⟨f-1,by cases f with | zero=>simp [AO] at h | succ f=>rfl⟩
  by_cases t1:AI t=1
  ·rw [Fq (m:=As t) rfl t1] at h;simp only [Option.some.injEq] at h;obtain ⟨n,e,_⟩:=I7 (As t).nt (As t).nt.length 0 (by omega);rw [<- h,Dy,e];simp [Fv,CX]
  by_cases t4:AI t=4\/AI t=5\/AI t=6\/AI t=7
  ·rw [Fp (m:=As t) rfl t4] at h;simp only [Option.some.injEq] at h;rw [<- h];simp [Fv,CX]
  rw [Dz (m:=As t) rfl t1 t4] at h;cases hq:AM ds (As t) with
  | none=>rw [hq] at h;simp at h
  | some x =>
   rw [hq] at h;simp only at h;obtain ⟨x1,x2,x3⟩:=Tt hq;obtain ⟨vs,e,hl,hv⟩:=Kj (m:=Bm ds (As t) x) (B4 x1).2 h;subst e;rw [LV];have hks:(Bm ds (As t) x).ks=(AW ds t (CH x)).1.map As:=rfl;rw [hks] at hl hv;by_cases h8:AI t=8
   ·obtain ⟨z1,z2⟩:=PZ ho (m:=As t) hn h8;have h0:CB ds t≠0:=λe=>z1 e x x1 x2;obtain ⟨⟨y,y1,y2,y3⟩,_⟩:=z2 h0;have hc:=x3 y y1 y2 rfl;rw [KV ho (m:=As t) hn (.inl x1)] at x2 hc;have hge:=(NC ho x2).2;have hb:=(CA ho t).1;have hty:(As t).ty=t:=rfl;rw [hty] at hge y3 hc;have hmem:=nA (ds:=ds) h8 (by omega);have hna:=Co ho.okd (t:=t) (s:=CH x);rw [CM,List.all_eq_true] at hna;have:CX vs<=RR (Dd ds) (CB ds t):=LW.2 λu hu=>by
     obtain ⟨i,hi,e⟩:=List.getElem_of_mem hu;have hui:vs[i]?=some u:=by rw [List.getElem?_eq_getElem hi,e]
     obtain ⟨a,ha⟩:=Ap (l:=(AW ds t (CH x)).1) (i:=i) (by simpa using (by rw [<- hl] at hi;simpa using hi));have hg:=hge a (List.mem_of_getElem? ha);have:=ih a f u (hna a (List.mem_of_getElem? ha)) (H7 ho a (List.mem_of_getElem? ha)) (by omega) (hv i _ u (by simp [ha]) hui);have:=lG (show CB ds a<CB ds t by omega) (by omega) hmem;omega
    omega
   ·rw [FY h8] at hl;have:vs=[]:=List.eq_nil_of_length_eq_zero (by simpa using hl.symm);subst this;simp [CX]
mutual
def V1:Mi->Nat
 | .mk _ nt hd ks=>if AI hd=0 then (if nt=[] then 256 else 769) else 1+Ox ks
def Ox:List Mi->Nat
 | []=>0
 | k::r=>V1 k+Ox r
end
theorem mI (m:Mi):V1 m=if AI m.hd=0 then (if m.nt=[] then 256 else 769) else 1+Ox m.ks:=by obtain ⟨a,b,c,d⟩:=m;simp only [V1,Mi.hd,Mi.nt,Mi.ks];rfl
theorem V0:∀{ks:List Mi} {vs:List Ty},ks.length=vs.length->(∀(i:Nat) k u,ks[i]?=some k->vs[i]?=some u->Aj u<=V1 k)->Ag vs<=Ox ks
 | [],[],_,_=>Nat.le_refl _
 | k::r,v::vs,hl,h=>by
  have h1:=h 0 k v rfl rfl;have h2:=V0 (ks:=r) (vs:=vs) (by simpa using hl) λi x y hx hy=>h (i+1) x y (by simpa using hx) (by simpa using hy);simp only [Ag,Ox];omega
 | [],_::_,h,_=>by simp at h
 | _::_,[],h,_=>by simp at h
theorem W7 {ds:List Dt} (ho:OkW ds) {N:Nat} (hN:N<=1000000):∀(f:Nat) (m:Mi) (v:Ty),G0 ds N m=true->Do ds m->AO ds f m=some (some v)->Aj v<=V1 m/\Fv v<=G6 m+5:=by
 intro f
 induction f with
 | zero=>intro m v _ _ h;simp [AO] at h
 | succ f ih =>
  intro m v hw hc h;have hwi:=Bb.1 hw;have hci:=B0.1 hc;rw [mI];by_cases hh:AI m.hd=0
  case neg =>
   rw [if_neg hh];obtain ⟨vs,rfl,hl,hv⟩:=Kj hh h;rw [QY,LV];have hk:∀(i:Nat) k u,m.ks[i]?=some k->vs[i]?=some u->Aj u<=V1 k/\Fv u<=G6 k+5:=λi k u hk hu=>ih k u (hwi.2.2 k (List.mem_of_getElem? hk)) (hci.2.2 k (List.mem_of_getElem? hk)) (hv i k u hk hu);have h1:=V0 hl λi k u a b=>(hk i k u a b).1;have h2:CX vs<=G6 m+4:=LW.2 λu hu=>by
    obtain ⟨i,hi,e⟩:=List.getElem_of_mem hu;obtain ⟨k,hki⟩:=Ap (l:=m.ks) (i:=i) (by omega);have:=(hk i k u hki (by rw [List.getElem?_eq_getElem hi,e])).2;have:=J5 (List.mem_of_getElem? hki);omega
   omega
  rw [if_pos hh];have hg1:1<=G6 m:=by rw [Gf];omega
  have hsr:=of_decide_eq_true hwi.2.1.2;constructor
  ·by_cases hnt:m.nt=[]
   ·rw [if_pos hnt,];have hfr:AO ds (f+1) m=AO ds (f+1) (As m.ty):=OZ f rfl hnt hh rfl;rw [hfr] at h;obtain ⟨r,r1,r2,r3⟩:=Gq ho 256 m.ty hwi.1.1 hwi.2.1.2 (CA ho m.ty).2 (f+1+258) (by omega);have:=Ju (show f+1<=f+1+258 by omega) h;rw [r1] at this;cases this;have hb:=CA ho m.ty;by_cases h0:CB ds m.ty=0
    ·cases r2 h0
    ·obtain ⟨w,w1,w2,_⟩:=r3 h0;cases w1;omega
   ·rw [if_neg hnt];obtain ⟨r,r1,r2⟩:=W5 ho (f:=f+770) (by omega) hwi.1.1 hwi.2.1.2 (by omega) hh;have:=Ju (show f+1<=f+770+1 by omega) h;rw [r1] at this;cases this;exact (r2 v rfl).1
  ·by_cases t1:AI m.ty=1
   ·rw [Fq hh t1] at h;simp only [Option.some.injEq] at h;obtain ⟨n,e,_⟩:=I7 m.nt m.nt.length 0 (by omega);rw [<- h,Dy,e];simp [Fv,CX]
   by_cases t4:AI m.ty=4\/AI m.ty=5\/AI m.ty=6\/AI m.ty=7
   ·rw [Fp hh t4] at h;simp only [Option.some.injEq] at h;rw [<- h];simp [Fv,CX]
   rw [Dz hh t1 t4] at h;cases hq:AM ds m with
   | none=>rw [hq] at h;simp at h
   | some x =>
    rw [hq] at h;simp only at h;obtain ⟨x1,_,_⟩:=Tt hq;obtain ⟨vs,e,hl,hv⟩:=Kj (m:=Bm ds m x) (B4 x1).2 h;subst e;rw [LV];have hks:(Bm ds m x).ks=(AW ds m.ty (CH x)).1.map As:=rfl;rw [hks] at hl hv;have hna:=Co ho.okd (t:=m.ty) (s:=CH x);rw [CM,List.all_eq_true] at hna;have:CX vs<=5:=LW.2 λu hu=>by
     obtain ⟨i,hi,e⟩:=List.getElem_of_mem hu;have hui:vs[i]?=some u:=by rw [List.getElem?_eq_getElem hi,e]
     obtain ⟨a,ha⟩:=Ap (l:=(AW ds m.ty (CH x)).1) (i:=i) (by rw [<- hl] at hi;simpa using hi);have hd:=WX ho 256 a f u (hna a (List.mem_of_getElem? ha)) (H7 ho a (List.mem_of_getElem? ha)) (CA ho a).2 (hv i _ u (by simp [ha]) hui);have:=lH ho (CB ds a);omega
    omega
def HC (p:Ty):Bool:=decide (AI p=1\/AI p=2)
mutual
def rP:Ty->Nat
 | .mk f _ _ ps=>if f=1\/f=2 then 0 else 1+HB ps
def HB:List Ty->Nat
 | []=>0
 | p::r=>rP p+HB r
end
mutual
theorem rO:∀p:Ty,rP p<=Aj p
 | .mk f n x ps=>by
  have:=Yv ps;simp only [rP,Aj]
  split <;> omega
theorem Yv:∀l:List Ty,HB l<=Ag l
 | []=>Nat.le_refl _
 | p::r=>by
  have:=rO p;have:=Yv r;simp only [HB,Ag];omega
end
theorem qF (p:Ty):rP p=if HC p=true then 0 else 1+HB (Br p):=by
 obtain ⟨f,n,x,ps⟩:=p;by_cases h:f=1\/f=2 <;> simp [rP,HC,AI,Br,h]
def JO (i:Nat):List Ty->List Ty
 | []=>[]
 | p::r=>if HC p=true then JO i r else match (Br p)[i]? with
  | some q=>q::JO i r
  | none=>JO i r
theorem VC {i:Nat} {p q:Ty}:∀{ps:List Ty},p∈ps->HC p=false->(Br p)[i]?=some q->q∈JO i ps
 | x::r,hm,hw,hq=>by
  simp only [JO];rcases List.mem_cons.1 hm with rfl | hm
  ·rw [if_neg (by rw [hw];simp),hq];simp
  ·have ih:=VC (ps:=r) hm hw hq
   split
   ·exact ih
   ·split
    ·exact List.mem_cons_of_mem _ ih
    ·exact ih
def O5:List Ty->Nat
 | []=>0
 | p::r=>(if HC p=true then 0 else 1)+O5 r
theorem VB {p:Ty}:∀{ps:List Ty},p∈ps->HC p=false->1<=O5 ps
 | x::r,hm,hw=>by
  simp only [O5];rcases List.mem_cons.1 hm with rfl | hm
  ·rw [hw];simp
  ·have:=VB (ps:=r) hm hw;omega
def Ij (ps:List Ty):Nat->Nat->Nat
 | _,0=>0
 | i,n+1=>HB (JO i ps)+Ij ps (i+1) n
theorem O8 (p:Ty) (ps:List Ty):∀(n i:Nat),Ij (p::ps) i n<=(if HC p=true then 0 else HB ((Br p).drop i))+Ij ps i n
 | 0,i=>by simp only [Ij];omega
 | n+1,i=>by
  have ih:=O8 p ps n (i+1);simp only [Ij,JO];cases hw:HC p with
  | true=>rw [hw] at ih;simp only [if_true] at ih ⊢;omega
  | false =>
   rw [hw] at ih;simp only [Bool.false_eq_true,if_false] at ih ⊢;cases hq:(Br p)[i]? with
   | none =>
    have h1:(Br p).length<=i:=List.getElem?_eq_none_iff.1 hq;rw [List.drop_eq_nil_of_le (by omega)] at ih;simp only [HB] at ih ⊢;omega
   | some q =>
    rw [Av hq];simp only [HB];omega
theorem N6:∀(ps:List Ty) (n:Nat),Ij ps 0 n+O5 ps<=HB ps
 | [],n=>by
  have:∀n i,Ij [] i n=0:=λn=>by
   induction n with
   | zero=>intro i;rfl
   | succ n ih=>intro i;simp [Ij,JO,HB,ih]
  simp [this,O5,HB]
 | p::r,n=>by
  have h1:=O8 p r n 0;have h2:=N6 r n;have h3:=qF p;simp only [HB,O5];cases hw:HC p with
  | true=>rw [hw] at h1 h3;simp only [if_true] at h1 h3 ⊢;omega
  | false=>rw [hw] at h1 h3;simp only [Bool.false_eq_true,if_false,List.drop_zero] at h1 h3 ⊢;omega
mutual
def Ma:Mi->List Ty->Prop
 | .mk _ nt hd ks,ps=>(nt≠[]\/AI hd≠0->∃p∈ps,HC p=false)/\Ng ks 0 ps
def Ng:List Mi->Nat->List Ty->Prop
 | [],_,_=>True
 | k::r,i,ps=>Ma k (JO i ps)/\Ng r (i+1) ps
end
theorem Nh (m:Mi) (ps:List Ty):Ma m ps↔(m.nt≠[]\/AI m.hd≠0->∃p∈ps,HC p=false)/\Ng m.ks 0 ps:=by obtain ⟨a,b,c,d⟩:=m;simp only [Ma,Mi.nt,Mi.hd,Mi.ks]
theorem KU {ps:List Ty}:∀{ks:List Mi} {i:Nat},Ng ks i ps↔∀(j:Nat) k,ks[j]?=some k->Ma k (JO (i+j) ps)
 | [],i=>by simp [Ng]
 | k::r,i=>by
  simp only [Ng,KU (ks:=r) (i:=i+1)];constructor
  ·rintro ⟨h1,h2⟩ j x hx;cases j with
   | zero=>simp at hx;subst hx;exact h1
   | succ j=>have:=h2 j x (by simpa using hx);rwa [show i+1+j=i+(j+1) by omega] at this
  ·intro h;exact ⟨h 0 k rfl,λj x hx=>by have:=h (j+1) x (by simpa using hx);rwa [show i+(j+1)=i+1+j by omega] at this⟩
theorem Un (t:Ty) (ps:List Ty):Ma (As t) ps:=(Nh _ _).2 ⟨λh=>by rcases h with h | h <;> exact absurd rfl h,by simp [As,Mi.ks,Ng]⟩
theorem Um {ds:List Dt} {m:Mi} {h p:Ty} {ps:List Ty} (hp:p∈ps) (hw:HC p=false):Ma (Bm ds m h) ps:=(Nh _ _).2 ⟨λ_=>⟨p,hp,hw⟩,KU.2 λj k hk=>by
 simp only [Bm,Mi.ks,List.getElem?_map,Option.map_eq_some_iff] at hk;obtain ⟨t,_,rfl⟩:=hk;exact Un t _⟩
theorem Xt {ds:List Dt} {m:Mi} {p:Ty} {ps:List Ty} (hp:p∈ps) (hw:HC p=false) (h:Ma m ps):Ma (Ac ds m) ps:=by
 rcases CS (ds:=ds) m with e | ⟨_,x,_,e⟩
 ·rw [e];exact h
 ·rw [e];exact Um hp hw
mutual
theorem Og {ds:List Dt} (is:Bool):∀(p:Ty) {m:Mi} {ps:List Ty},p∈ps->Ma m ps->(Ar ds p m).1=2->Ma (A0 ds m (Ar ds p m).2.1 (Ar ds p m).2.2 is) ps
 | .mk f n x qs,m,ps,hp,hc,hl=>by
  by_cases h12:f=1\/f=2
  ·simp only [Ar,if_pos h12] at hl;cases hl
  have hw:HC (.mk f n x qs)=false:=decide_eq_false h12;have hs:=Xt (ds:=ds) hp hw hc;have el:Ar ds (.mk f n x qs) m=if AI (Ac ds m).hd=0/\BL (Ac ds m).nt (AQ (.mk f n x qs))=false then (2,[],AQ (.mk f n x qs)) else
   if AI (Ac ds m).hd=0\/AD (Ac ds m).hd (AQ (.mk f n x qs))=false then (0,[],zT) else AL ds 0 qs (Ac ds m).ks:=by simp only [Ar,if_neg h12]
  rw [el] at hl ⊢
  split
  ·cases is with
   | true=>exact Um hp hw
   | false =>
    rw [Nh] at hc ⊢;exact ⟨λ_=>⟨_,hp,hw⟩,hc.2⟩
  ·rename_i h1;rw [if_neg h1] at hl
   split
   ·rename_i h2;rw [if_pos h2] at hl;cases hl
   ·rename_i h2;rw [if_neg h2] at hl;have h0:AI (Ac ds m).hd≠0:=λe=>h2 (.inl e);obtain ⟨hs1,hs2⟩:=(Nh _ _).1 hs;obtain ⟨j,q,k,j1,j2,j3,j4,j5,j6⟩:=RJ (ds:=ds) is qs (l:=(Ac ds m).ks) (i:=0) hl;rw [j4,j5];have hz:(0+(j:Int)).toNat=j:=by omega
    simp only [A0,hz,j2];rw [Nh];refine ⟨λ_=>⟨_,hp,hw⟩,KU.2 λi y hy=>?_⟩;rw [KU] at hs2;by_cases e:j=i
    ·subst e;replace hy:((Ac ds m).ks.set j (A0 ds k (Ar ds q k).2.1 (Ar ds q k).2.2 is))[j]?=some y:=hy;rw [List.getElem?_set_self (List.getElem?_eq_some_iff.1 j2).1] at hy;cases hy;exact j6 (JO (0+j) ps) (by rw [Nat.zero_add];exact VC hp hw j1) (hs2 j k j2)
    ·replace hy:((Ac ds m).ks.set j (A0 ds k (Ar ds q k).2.1 (Ar ds q k).2.2 is))[i]?=some y:=hy;rw [List.getElem?_set_ne e] at hy;exact hs2 i y hy
theorem RJ {ds:List Dt} (is:Bool):∀(qs:List Ty) {l:List Mi} {i:Int},(AL ds i qs l).1=2->∃(j:Nat) (q:Ty) (k:Mi),qs[j]?=some q/\l[j]?=some k/\(Ar ds q k).1=2/\(AL ds i qs l).2.1=(i+j)::(Ar ds q k).2.1/\(AL ds i qs l).2.2=(Ar ds q k).2.2 /\
  ∀ps,q∈ps->Ma k ps->Ma (A0 ds k (Ar ds q k).2.1 (Ar ds q k).2.2 is) ps
 | [],l,i,h=>by simp [AL] at h
 | q::r,[],i,h=>by simp [AL] at h
 | q::r,k::ks,i,h=>by
  simp only [AL] at h ⊢;by_cases h1:(Ar ds q k).1=1
  ·rw [if_pos h1] at h ⊢;obtain ⟨j,y,z,a,b,c,d,e,g⟩:=RJ is r h;exact ⟨j+1,y,z,by simpa using a,by simpa using b,c,by rw [d];simp;omega,e,g⟩
  ·rw [if_neg h1] at h ⊢;exact ⟨0,q,k,rfl,rfl,h,by simp,rfl,λps hp hk=>Og is q hp hk h⟩
end
mutual
theorem aN:∀(m:Mi) {ps:List Ty},Ma m ps->(∀N ds,G0 ds N m=true->V1 m<=256+513*HB ps)
 | .mk ty nt hd ks,ps,hc,N,ds,hw=>by
  simp only [Ma] at hc;obtain ⟨h1,h2⟩:=hc;have hwi:=Bb.1 hw;simp only [Mi.ks] at hwi;simp only [V1];have hone:(nt≠[]\/AI hd≠0)->1<=O5 ps/\O5 ps<=HB ps:=λh=>by
   obtain ⟨p,hp,hpw⟩:=h1 h;have:=N6 ps 0;exact ⟨VB hp hpw,by omega⟩
  split
  ·split
   ·omega
   ·rename_i h;have:=hone (.inl h);omega
  ·rename_i h;have ho:=hone (.inr h);have hk:=Xs ks h2 N ds hwi.2.2;have hs:=N6 ps ks.length;have h3:=hwi.1.2.1;omega
theorem Xs:∀(ks:List Mi) {i:Nat} {ps:List Ty},Ng ks i ps->(∀N ds,(∀k∈ks,G0 ds N k=true)->Ox ks<=ks.length*256+513*Ij ps i ks.length)
 | [],i,ps,_,N,ds,_=>by simp [Ox]
 | k::r,i,ps,hc,N,ds,hw=>by
  simp only [Ng] at hc;have h1:=aN k hc.1 N ds (hw k (by simp));have h2:=Xs r hc.2 N ds (λx hx=>hw x (by simp [hx]));simp only [Ox,List.length_cons,Ij,Nat.mul_add,Nat.add_mul];omega
end
theorem UB {ds:List Dt} (ho:OkW ds) {t:Ty}:∀(f N:Nat) (m:Mi) (l:List (Ty×Int)) (v:Ty) (ps:List Ty),N+f<=1000000->MOk ds t N m->Ma m ps->(∀x∈l,x.1∈ps)->Jh ds t l->C3 ds f m l=some (some v)->Aj v<=256+513*HB ps/\Fv v<=19:=by
 intro f
 induction f with
 | zero=>intro N m l v ps _ _ _ _ _ h;simp [C3] at h
 | succ f ih =>
  intro N m l v ps hN hm hc hp hr h;cases l with
  | nil =>
   obtain ⟨b1,b2⟩:=W7 ho (by omega) 1000 m v hm.wf hm.coh h;have:=aN m hc N ds hm.wf;have:=hm.hgt;exact ⟨by omega,by omega⟩
  | cons x l =>
   obtain ⟨p,b⟩:=x;obtain ⟨h1,h2,h3⟩:=hr (p,b) (by simp);have hpm:=hp (p,b) (by simp);simp only at h1 h2 h3 hpm;simp only [C3] at h;by_cases h22:(Ar ds p m).1=2
   ·rw [if_pos h22] at h;have hmT:=hm.split ho h1 h2 h3 h22;cases ha:C3 ds f (A0 ds m (Ar ds p m).2.1 (Ar ds p m).2.2 true) ((p,b)::l) with
    | none=>rw [ha] at h;simp [OB] at h
    | some ra =>
     cases hbb:C3 ds f (A0 ds m (Ar ds p m).2.1 (Ar ds p m).2.2 false) ((p,b)::l) with
     | none=>rw [ha,hbb] at h;simp [OB] at h
     | some rb =>
      rw [ha,hbb] at h;simp only [OB,Option.some.injEq] at h;rcases U8 (ds:=ds) ra rb with e | e
      ·rw [e] at h;subst h;exact ih (N+1) _ _ v ps (by omega) (hmT true) (Og true p hpm hc h22) hp hr ha
      ·rw [e] at h;subst h;exact ih (N+1) _ _ v ps (by omega) (hmT false) (Og false p hpm hc h22) hp hr hbb
   ·rw [if_neg h22] at h
    split at h
    ·exact ih N m l v ps (by omega) hm hc (λy hy=>hp y (by simp [hy])) (λy hy=>hr y (by simp [hy])) h
    ·simp at h
end Go.Hk
namespace Go.Hk
structure sK where
 dx:D
 es:List (List V)
 es2:List (List V)
 sz:Nat
 bytes:Nat
 dst:Option Nat
 todo:List DI
def aU:D->Option (List (List V))
 | .nils=>some []
 | .clip es=>some es
 | _=>none
def pI (tt:TT) (n:Nat) (env:Env) (todo:List DI):Option sK :=
 match Bk todo ([],[]) with
 | some (_,o,todo')=>match o.guard,o.op with
  | none,.call { callee:=.builtin .append,args:=⟨[x,y]⟩,argTypes:=⟨[t,t']⟩ }=>match Nat.beq t t',lk tt t,D2 env x,D2 env y with
   | true,some { sh:=.sl e,.. },some dx,some (.imm (.sl (e1::es2)))=>match lk tt e,aU dx with
    | some i,some es=>match Nat.beq i.zero.length i.size&&Nat.blt 0 i.size,BJ n o.dst with
     | true,true=>some ⟨dx,es,e1::es2,i.size,i.bytes,o.dst,todo'⟩
     | _,_=>none
    | _,_=>none
   | _,_,_,_=>none
  | _,_=>none
 | none=>none
section
variable {P:Program} {n:Nat} {F:List Nat} {Q:DQ} {tt:TT} {env env':Env} {st st':St} {ids ids':List Nat} {k todo todo':List DI} {I:Imm} {μ:Mu} {w w':World} {a:Act} {Pn:V->Prop} {d:D} {cx:Prop} {ob:List Prop}
theorem StRep.growI (hst:StRep I μ st ids w) (hg:w.grownBy w' none) {c:Nat} {o:Obj} (hc:w.heap.size<=c) (ho:w'.heap[c]?=some o):∃I',I' c=some o/\I.le I'/\StRep I' μ st ids w'/\Ext I μ st w I' μ st w':=by
 have hnew:I c=none:=by
  cases h:I c with
  | none=>rfl
  | some o'=>have:=BU (hst.imm _ _ h);omega
 have hold:∀b,b<w.heap.size->w'.heap[b]?=w.heap[b]?:=λb hb=>hg.block b hb (by simp);have hle:I.le (λb=>if b=c then some o else I b):=λb o' h=>by
  have:b≠c:=λe=>by rw [e,hnew] at h;cases h
  simp [this,h]
 refine ⟨λb=>if b=c then some o else I b,by simp,hle,?_,?_⟩
 ·refine { imm:=λb o' h=>?_,blk:=λid blk hl=>?_,apart:=λid blk g b hl hg' hb=>?_,inj:=hst.inj,nodup:=hst.nodup,idsFree:=hst.idsFree }
  ·by_cases hb:b=c
   ·subst hb;simp at h;subst h;exact ho
   ·simp [hb] at h;have:=hst.imm _ _ h;rw [hold b (BU this)];exact this
  ·obtain ⟨g,h1,h2⟩:=hst.blk id blk hl;exact ⟨g,h1,(h2.mono hle (Mu.le_refl μ)).world (λb hb=>hold b (hst.apart id blk g b hl h1 hb).2)⟩
  ·obtain ⟨h1,h2⟩:=hst.apart id blk g b hl hg' hb;have:b≠c:=by omega
   exact ⟨by simp [this,h1],Nat.lt_of_lt_of_le h2 hg.size⟩
 ·exact { imm:=hle,os:=hg.os,tape:=hg.tape,output:=hg.output,size:=hg.size,block:=λb hb _=>hold b hb,fresh:=λb _ h=>h,old:=λb hb _=>if_neg (by omega) }
theorem Yb {e:TypeId} {sz:Nat} {u:Value} {es:List (List V)} {xs:List Value} (h:w.ownsRow 0 e sz u es.length xs) (hr:RepVL I xs es.flatten) (hsz:∀c∈es,c.length=sz) (h1:∀v∈xs,v.oneCell'=true) {b:Nat} {o:Obj} (hb:u.ownBlock=some b) (ho:w.heap[b]?=some o) (hI:I b=some o):RepV I u (.sl es):=by
 rcases h.2 with ⟨rfl,_⟩ | ⟨g,cap,cur,rfl,_,hheap,hle,hcm,hcs,htake⟩
 ·cases hb
 ·have hb:g=b:=by simpa [Value.ownBlock] using hb
  subst hb;rw [hheap] at ho;cases ho;have hxl:=h.1;refine .sl g 0 es.length cap sz es (λi j=>(xs[i*sz+j]?).getD undef) rfl hle hcm hsz ?_ ?_
  ·intro i c j x hi hj;have hf:=C5 hsz i c j x hi hj;have hlt:i*sz+j<xs.length:=by rw [hr.1];exact (List.getElem?_eq_some_iff.1 hf).1
   have hxs:xs[i*sz+j]?=some xs[i*sz+j]:=List.getElem?_eq_getElem hlt;rw [hxs,Option.getD_some];refine ⟨?_,h1 _ (List.getElem_mem hlt)⟩;unfold Imm.cell;rw [hI];have hcur:cur[i*sz+j]?=some xs[i*sz+j]:=by
    have e1:(cur.toList.take (es.length*sz))[i*sz+j]?=some xs[i*sz+j]:=by rw [htake];exact hxs
    have e2:=e1;rw [List.getElem?_take] at e2
    split at e2
    ·simpa using e2
    ·cases e2
   simp only [Nat.zero_add,hcur]
  ·intro i c j x hi hj;have hf:=C5 hsz i c j x hi hj;have hlt:i*sz+j<xs.length:=by rw [hr.1];exact (List.getElem?_eq_some_iff.1 hf).1
   have hxs:xs[i*sz+j]?=some xs[i*sz+j]:=List.getElem?_eq_getElem hlt;rw [hxs,Option.getD_some];exact hr.2 _ _ x hxs hf
theorem TY (htt:TTok P tt) {c:sK} (h:pI tt n env todo=some c) (hok:lP c.sz c.bytes (.clip []) c.es c.es2) (hes:∀x∈c.es,x.length=c.sz)
  (hk:G P n F Q c.todo (BE c.dst (.imm (.sl (c.es++c.es2))) env) st ids):G P n F Q todo env st ids:=by
 unfold pI at h
 split at h
 ·rename_i all o todo' hn1
  split at h
  ·rename_i x y t t' hg hop
   split at h
   ·rename_i e _ _ _ _ dx e1 es2 htt' ht hx hy;have:=Nat.eq_of_beq_eq_true htt';subst this
    split at h
    ·rename_i i es hi hb
     split at h
     ·rename_i hz hd;cases h;simp only at hok hes hk;refine BC (fr:=[]) (wr:=[]) (rd:=[]) hn1 ?_ hd (λc hc=>by rw [hop] at hc;cases hc) hk;intro I μ st1 ids1 a w hag hst hon;refine ⟨λ_=>?_,λhw=>by rw [AF hg] at hw;cases hw⟩;have hops:=Bh hon;rw [hop] at hops;have rx:=hops x (by simp [Op.operands,Call.operands]) _ hx;have ry:=(hops y (by simp [Op.operands,Call.operands]) _ hy).immInv;obtain ⟨inf,z,z1,z2,z3,z4,z5,z6⟩:=(htt e i hi).info;have hu:P.underlying t=some (.slice e):=htt.sh ht;simp only [Bool.and_eq_true,Nat.blt_eq] at hz;have hzl:z.cells.size=i.size:=by
       have:=(z5 I μ).1;rw [Nat.eq_of_beq_eq_true hz.1] at this;simpa using this
      obtain ⟨k1,k2,k3,_⟩:=hok;have hrun:∀{u w'},(Builtin.append_ #[t,t] o.type #[a.eval x,a.eval y]).run P w = .ok u w'->(execOp a.eval o).run P w = .ok (.value u) w':=by
       intro u w' h;simp only [execOp,hop,resolve,invoke,builtin,Sem.run_bind,Sem.run_pure,Result.andThen_ok,List.map_toArray,List.map_cons,List.map_nil,h]
      rcases Mx hst.imm ry k1 hz.2 with ⟨_,e0⟩ | ⟨yb,yo,yc,news,ey,_,_,n1,n2,n3,n4,n5⟩
      ·cases e0
      have fin:∀{u:Value} {w':World} {xs:List Value},(Builtin.append_ #[t,t] o.type #[a.eval x,a.eval y]).run P w = .ok u w'->w'.ownsRow 0 e i.size u (es.length+(e1::es2).length) (xs++news)->w.grownBy w' none->(∀b,u.ownBlock=some b->w.heap.size<=b)->RepVL I xs es.flatten->(∀v∈xs,v.oneCell'=true) ->
        valX P ((execOp a.eval o).run P w) (λv w'=>∃I' μ',StRep I' μ' ([]++st1) ids1 w'/\RepD I' μ' v (.imm (.sl (es++e1::es2)))/\μ.le μ'/\Ext I μ st1 w I' μ' ([]++st1) w') (Ld (M5 Q) I μ st1 w):=by
       intro u w' xs r1 r2 r3 r4 r5 r6;rw [hrun r1];obtain ⟨b,hb,hlt⟩:∃b,u.ownBlock=some b/\b<w'.heap.size:=by
        rcases r2.2 with ⟨_,hh⟩ | ⟨g,cap,cur,rfl,_,hheap,_⟩
        ·simp at hh
        ·exact ⟨g,rfl,BU hheap⟩
       have ho:w'.heap[b]?=some w'.heap[b]:=Array.getElem?_eq_getElem hlt;obtain ⟨I',q1,q2,q3,q4⟩:=hst.growI r3 (r4 b hb) ho;refine ⟨I',μ,q3,.imm _ _ (Yb (es:=es++e1::es2) (by rw [List.length_append];exact r2) ?_ ?_ ?_ hb ho q1),Mu.le_refl μ,q4⟩
       ·rw [List.flatten_append];exact (r5.append n4).mono q2
       ·intro c hc;exact (List.mem_append.1 hc).elim (hes c) (k1 c)
       ·intro v hv;exact (List.mem_append.1 hv).elim (r6 v) (n3 v)
      have hnil:a.eval x = .slice none 0 0->es=[]->valX P ((execOp a.eval o).run P w) (λv w'=>∃I' μ',StRep I' μ' ([]++st1) ids1 w'/\RepD I' μ' v (.imm (.sl (es++e1::es2)))/\μ.le μ'/\Ext I μ st1 w I' μ' ([]++st1) w') (Ld (M5 Q) I μ st1 w):=λhv he=>by
       subst he;obtain ⟨v',w',q1,q2,q3,_⟩:=run_append_own (P:=P) w w.heap.size t o.type e inf z i.size i.bytes hu z1 z4 z2 z3 hzl hz.2 (.slice none 0 0) 0 [] (World.ownsRow_nil w _ e i.size) ⟨yb,yo,none⟩ (e1::es2).length yc news n1 n2 n3
        (by simpa using k2) (by simpa using k3) (Nat.le_refl _)
       have q2':w'.ownsRow 0 e i.size v' (0+(e1::es2).length) ([]++news):=⟨q2.1,q2.2.imp id λ⟨g,cap,cur,a1,_,a2⟩=>⟨g,cap,cur,a1,Nat.zero_le _,a2⟩⟩
       exact fin (by rw [hv,ey];exact q1) q2' ⟨q3.os,q3.tape,q3.output,q3.size,λb hb _=>q3.block b hb (by simp [Value.ownBlock])⟩ (λb h=>(q2.lt b h).1) .nil (by simp)
      have hgrow:∀(ad:Addr) (cap:Nat) (xs:List Value),a.eval x = .slice (some ad) es.length cap->xs.length=es.length*i.size->(∀j u,xs[j]?=some u->w.cell? (ad.add j)=some u)->cap<es.length+(e1::es2).length->RepVL I xs es.flatten->(∀v∈xs,v.oneCell'=true) ->
        valX P ((execOp a.eval o).run P w) (λv w'=>∃I' μ',StRep I' μ' ([]++st1) ids1 w'/\RepD I' μ' v (.imm (.sl (es++e1::es2)))/\μ.le μ'/\Ext I μ st1 w I' μ' ([]++st1) w') (Ld (M5 Q) I μ st1 w):=λad cap xs hv hl hcell hlt hr h1=>by
       have hsmall:es.length+(e1::es2).length<=9223372036854775807:=by simp only [maxLen] at k2;omega
       have hr':=run_append_grow (P:=P) w t o.type e inf z hu z1 z4 ad es.length cap xs (by rw [z2];exact hl) hcell ⟨yb,yo,none⟩ (e1::es2).length yc news (by rw [z2];exact n1) n2 hlt (by omega) (by rw [z3];exact growslice_fits hlt k3);have hge:=grownCap_ge w (es.length+(e1::es2).length) cap e;have hcm:grownCap w (es.length+(e1::es2).length) cap e<=maxLen:=grownCap_le_maxLen w _ cap e k2;have hlen:(xs++news).length=(es.length+(e1::es2).length)*i.size:=by rw [List.length_append,hl,n1,Nat.add_mul]
       refine fin (by rw [hv,ey];exact hr') (xs:=xs) ⟨hlen,.inr ⟨w.heap.size,_,_,rfl,Nat.zero_le _,Ej w.drew _,hge,hcm,?_,?_⟩⟩ ⟨rfl,rfl,rfl,by simp,λk hk _=>GN w.drew _ hk⟩
        (λb h=>by simp [Value.ownBlock] at h;omega) hr h1
       ·simp only [Array.size_append,List.size_toArray,size_zeroCells,hzl,hl,n1,<- Nat.add_mul];congr 1;omega
       ·simp only [Array.toList_append,List.append_assoc];rw [<- List.append_assoc,<- hlen];exact List.take_left
      cases dx with
      | nils =>
       simp only [aU,Option.some.injEq] at hb;subst hb;have hv:a.eval x = .slice none 0 0:=by
        generalize a.eval x=v at rx;cases rx;rfl
       exact hnil hv rfl
      | clip es' =>
       simp only [aU,Option.some.injEq] at hb;subst hb;have rx':∃ad len,a.eval x = .slice ad len len/\RepV I (.slice ad len len) (.sl es'):=by
        generalize a.eval x=v at rx;cases rx with
        | clip ad len _ h=>exact ⟨ad,len,rfl,h⟩
       obtain ⟨ad,len,hv,hr⟩:=rx';rcases Mx hst.imm hr hes hz.2 with ⟨⟨adx,ex⟩,e0⟩ | ⟨xb,xo,xc,xs,ex,_,_,p1,p2,p3,p4,p5⟩
       ·cases adx with
        | none=>exact hnil (hv.trans ex) e0
        | some adx =>
         subst e0;exact hgrow adx 0 [] (hv.trans ex) (by simp) (λj u h=>by simp at h) (by simp) .nil (by simp)
       ·cases ex;exact hgrow ⟨xb,xo,none⟩ _ xs hv p1 p2 (by simp) p4 p3
      | _=>simp [aU] at hb
     ·cases h
    ·cases h
   ·cases h
  ·cases h
 ·cases h
end
end Go.Hk
namespace Go.Hk
structure PCl where
 es:List (List V)
 m:Int
 m2:Int
 dst:Option Nat
 todo:List DI
def pF (tt:TT) (n:Nat) (env:Env) (todo:List DI):Option PCl :=
 match Bk todo ([],[]) with
 | some (_,o,todo')=>match o.guard,o.op with
  | none,.slice t x none (some h) (some c)=>match lk tt t,D2 env x,D2 env h,D2 env c,BJ n o.dst with
   | some { sh:=.sl e,.. },some (.imm (.sl es)),some (.imm (.int _ m)),some (.imm (.int _ m2)),true=>match lk tt e with
    | some _=>some ⟨es,m,m2,o.dst,todo'⟩
    | none=>none
   | _,_,_,_,_=>none
  | _,_=>none
 | none=>none
section
variable {P:Program} {n:Nat} {F:List Nat} {Q:DQ} {tt:TT} {env env':Env} {st st':St} {ids ids':List Nat} {k todo todo':List DI} {I:Imm} {μ:Mu} {w w':World} {a:Act}
theorem qT (htt:TTok P tt) {c:PCl} (h:pF tt n env todo=some c) (h1:c.m=c.es.length) (h2:c.m2=c.es.length)
  (hk:G P n F Q c.todo (BE c.dst (.clip c.es) env) st ids):G P n F Q todo env st ids:=by
 unfold pF at h
 split at h
 ·rename_i all o todo' hn1
  split at h
  ·rename_i t x hh cc hg hop
   split at h
   ·rename_i e _ _ _ _ es k1 m k2 m2 ht hx hhh hcc hd
    split at h
    ·rename_i ti hti;cases h;simp only at h1 h2 hk;subst h1;subst h2;refine BC (fr:=[]) (wr:=[]) (rd:=[]) hn1 ?_ hd (λc hc=>by rw [hop] at hc;cases hc) hk;intro I μ st1 ids1 a w hag hst hon;refine ⟨λ_=>?_,λhw=>by rw [AF hg] at hw;cases hw⟩;have hops:=Bh hon;rw [hop] at hops;have rx:=(hops x (by simp [Op.operands]) _ hx).immInv;have e1:a.eval hh = .int k1 es.length:=(hops hh (by simp [Op.operands]) _ hhh).immInv.intInv;have e2:a.eval cc = .int k2 es.length:=(hops cc (by simp [Op.operands]) _ hcc).immInv.intInv;have hb:∀(k:IntKind) (x y:Nat) (c:BoundsCode),x<=y->(Instr.sliceBound (.int k x) y c).run P w = .ok x w:=by
      intro k x y c hxy;simp [Instr.sliceBound,asIntOf,hxy]
     have hb0:∀(k:IntKind) (c:BoundsCode),(Instr.sliceBound (.int k 0) 0 c).run P w = .ok 0 w:=by
      intro k c;simp [Instr.sliceBound,asIntOf]
     have key:∃ad,(Instr.sliceAt t (a.eval x) none (some (.int k1 es.length)) (some (.int k2 es.length))).run P w = .ok (.slice ad es.length es.length) w/\RepV I (.slice ad es.length es.length) (.sl es):=by
      generalize a.eval x=v at rx;cases rx with
      | slnil=>exact ⟨none,by simp [Instr.sliceAt,run_underlying (htt.sh ht),Instr.slice,Instr.sliceBounds,hb0,(htt e ti hti).sizeOf w],.slnil⟩
      | sl0 ad=>exact ⟨ad,by simp [Instr.sliceAt,run_underlying (htt.sh ht),Instr.slice,Instr.sliceBounds,hb0,(htt e ti hti).sizeOf w],.sl0 ad⟩
      | sl b o len cap sz _ vs hl hc hm hsz hcell hrep =>
       subst hl;refine ⟨some ⟨b,o,none⟩,?_,.sl b o _ _ sz es vs rfl (Nat.le_refl _) (by omega) hsz hcell hrep⟩;simp [Instr.sliceAt,run_underlying (htt.sh ht),Instr.slice,Instr.sliceBounds,hb _ _ _ _ hc,hb _ _ _ _ (Nat.le_refl es.length),(htt e ti hti).sizeOf w,D1]
     obtain ⟨ad,r1,r2⟩:=key;have hrun:(execOp a.eval o).run P w = .ok (.value (.slice ad es.length es.length)) w:=by
      simp only [execOp,hop,e1,e2,Option.map_none,Option.map_some,Sem.run_bind,r1,Result.andThen_ok,Sem.run_pure]
     rw [hrun];exact ⟨I,μ,hst,.clip _ _ _ r2,Mu.le_refl μ,Ext.refl _ _ _ _⟩
    ·cases h
   ·cases h
  ·cases h
 ·cases h
end
end Go.Hk
namespace Go.Hk
open Go.Proofs
def By (l:List Ty):List (List V):=l.map Bl
@[simp] theorem hdsV_length (l:List Ty):(By l).length=l.length:=by simp [By]
@[simp] theorem headV_length (h:Ty):(Bl h).length=3:=by obtain ⟨a,b,c,d⟩:=h;rfl
theorem Kq {l:List Ty} {i:Nat} {h:Ty} (e:l[i]?=some h):(By l)[i]?=some (Bl h):=by simp [By,e]
theorem Pb (a b:List Ty):By (a++b)=By a++By b:=by simp [By]
theorem ZY (l:List Ty):∀c∈By l,c.length=3:=λc hc=>by obtain ⟨h,_,rfl⟩:=List.mem_map.1 hc;simp
def UZ (h:Ty):Int->List Ty->Int
 | _,[]=>-1
 | i,x::r=>if AD h x=true then i else UZ h (i+1) r
theorem WJ (h:Ty):∀(l:List Ty) (i:Int),0<=i->decide (0<=UZ h i l)=BL l h
 | [],i,_=>rfl
 | x::r,i,hi=>by
  have ih:=WJ h r (i+1) (by omega);have e:BL (x::r) h=(AD h x||BL r h):=by rw [Hw h x];rfl
  rw [e];by_cases hb:AD h x=true
  ·simp only [UZ,if_pos hb];rw [hb];simp [hi]
  ·simp only [UZ,if_neg hb];rw [ih];simp [hb]
theorem fA (l:List Ty) (h:Ty):Ak Tryz.prog 178 [.sl (By l),.agg (Bl h)] (.int .i64 (UZ h 0 l)):=by
 obtain ⟨h1,h2,h3,h4⟩:=h;refine AS λhv=>?_;simp [Cx,EM,maxLen,Bl] at hv;refine Af Al Tryz.func178 (by decide +kernel) rfl [1,2] rfl rfl ?_;refine Ao rfl ?_;refine Am (λi:Nat=>[(8,.imm (.int .i64 i)),(7,.imm (.int .i64 l.length)),(0,.imm (.sl (By l))),(3,.ref 1 0)]) (λ_=>[(1,some (.immb 122 3 (Bl (.mk h1 h2 h3 h4))))]) [2] (λi=>l.length-i) (λi=>i<=l.length/\UZ (.mk h1 h2 h3 h4) 0 l=UZ (.mk h1 h2 h3 h4) i (l.drop i)) 0
  ⟨Nat.zero_le _,rfl⟩ ⟨rfl,A3 (by simp),rfl,rfl,trivial⟩ ⟨rfl,trivial⟩ rfl λi hi ih=>?_
 obtain ⟨hi1,hi2⟩:=hi;refine Aq rfl ?_;refine Ab rfl (λh=>?_) (λh=>?_)
 ·simp at h;obtain ⟨x,hx⟩:=Ap h;rw [Av hx] at hi2;simp only [UZ] at hi2;refine Aq rfl ?_;refine mi rfl (c:=Bl x) (λ_=>⟨by simp,by simpa using Kq hx,by simp⟩) (by simp [An]) ?_;obtain ⟨x1,x2,x3,x4⟩:=x;refine Dm rfl ?_;refine TX Al rfl KK (by simp [An]) ?_;refine mg [] rfl (by simp [An];rfl) ?_;by_cases e:AD (.mk h1 h2 h3 h4) (.mk x1 x2 x3 x4)=true
  ·rw [if_pos e] at hi2;simp only [AD] at e;refine Ab rfl (λh=>?_) (λh=>by exfalso;simp at h e;grind);refine Aq rfl ?_;refine Aa rfl rfl ?_;rw [hi2]
  ·rw [if_neg e] at hi2;simp only [AD] at e;refine Ab rfl (λh=>by exfalso;simp at h e;grind) (λh=>?_);refine Aq rfl ?_;exact Ae (ih (i+1) (by omega) ⟨by omega,hi2⟩) ⟨A3 (BI (by omega) (by omega)),rfl,rfl,rfl,trivial⟩ ⟨rfl,trivial⟩ rfl
 ·simp at h;rw [List.drop_eq_nil_of_le (by omega)] at hi2;refine Ay rfl ?_;refine Aq rfl ?_;refine Aa rfl rfl ?_;rw [hi2];rfl
theorem En (l:List Ty) (h:Ty):Ak Tryz.prog 134 [.sl (By l),.agg (Bl h)] (.bool (BL l h)):=by
 have hI:=fA l h;have hh:=WJ h l 0 (by omega);generalize UZ h 0 l=k at *;obtain ⟨h1,h2,h3,h4⟩:=h;refine Af Al Tryz.func134 (by decide +kernel) rfl [1,2] rfl rfl ?_;refine Ao rfl ?_;refine Ah rfl hI ?_;refine Ao rfl ?_;rw [<- hh];exact Aa rfl rfl rfl
theorem Qn (h:Ty) (hf:AI h≠0):Ak Tryz.prog 92 [.agg (Bl h)] (.agg (S9 h)):=by
 obtain ⟨h1,h2,h3,h4⟩:=h;refine Af Al Tryz.func92 (by decide +kernel) rfl [1,2] rfl rfl ?_;refine Ao rfl ?_;simp only [S9,AI] at hf ⊢;rw [if_neg hf];exact kY 2 [.imm (.int .i64 h1),.imm (.int .i64 h2),.imm (.str h3),.imm .nilsl] rfl (by simp [rN]) (Au ⟨_,rfl,tV rfl,trivial⟩)
theorem fB (path:List Int) (hl:path.length<=1000000):Ak Tryz.prog 135 [.sl (Ba path)] (.sl (Ba path)):=by
 have hs:∀c∈Ba path,c.length=1:=λc hc=>by simp only [Ba,List.mem_map] at hc;obtain ⟨q,_,rfl⟩:=hc;rfl
 have hl:(Ba path).length<=1000000:=by simpa using hl
 generalize Ba path=l at *;refine Af Al Tryz.func135 (by decide +kernel) rfl [1,2] rfl rfl ?_;refine Ao rfl ?_;refine Ul Al rfl λb hb=>?_;cases b with
 | true =>
  have he:l=[]:=by
   cases l with
   | nil=>rfl
   | cons a b=>exact absurd (hb (by simp)) (by simp)
  subst he;refine Aq rfl ?_;refine Ai rfl λh=>?_;refine Aq rfl ?_;exact Aa rfl rfl rfl
 | false =>
  refine Aq rfl ?_;refine Az rfl λh=>?_;cases l with
  | nil =>
   refine Aq rfl ?_;refine eB Al rfl ?_;refine Ao rfl ?_;exact Aa rfl rfl rfl
  | cons a b =>
   refine Aq rfl ?_;refine TY Al rfl ⟨hs,by simp only [maxLen,List.length_nil] at *;omega,by simp only [List.length_nil] at *;omega,λc hc=>by simp at hc,by simp⟩ (by simp) ?_;refine Ao rfl ?_;exact Aa rfl rfl rfl
theorem mB (path:List Int):Bg Tryz.prog 136 [.imm (.sl (Ba path))] [] (.ret (.clip (Ba path)) []):=by
 generalize Ba path=l at *;refine Af Al Tryz.func136 (by decide +kernel) rfl [1,2] rfl rfl ?_;refine Ao rfl ?_;refine qT Al rfl rfl rfl ?_;refine Ao rfl ?_;exact Au ⟨_,rfl,rfl,trivial⟩
theorem Yz (nt:List Ty) (hl:nt.length<=1000000):Ak Tryz.prog 161 [.sl (By nt)] (.agg (Bl (Dy nt))):=by
 have hA:=λh=>En nt h;refine Af Al Tryz.func161 (by decide +kernel) rfl [1,2,3] rfl rfl ?_;refine Ao rfl ?_;refine Am (λi:Nat=>[(3,.imm (.int .i64 i)),(2,.ref 1 0),(0,.imm (.sl (By nt)))]) (λ_=>[(1,some (.immb 122 3 [.int .i64 0,.int .i64 0,.str []]))]) [2,3] (λi=>nt.length+1-i)
  (λi=>i<=nt.length/\Dy nt=Kf nt (nt.length-i) i/\∀j:Nat,j<i->BL nt (.mk 1 j [] [])=true) 0 ⟨Nat.zero_le _,rfl,λj h=>by omega⟩ ⟨rfl,rfl,rfl,trivial⟩ ⟨rfl,trivial⟩ rfl λi hi ih=>?_
 obtain ⟨hi1,hi2,hi3⟩:=hi;rw [TA hi1 hi3] at hi2;have h1:=hA (.mk 1 i [] []);have h2:=hA (.mk 1 (0-i) [] []);have hih:BL nt (.mk 1 i [] [])=true->BL nt (.mk 1 (0-i) [] [])=true->_:=λe1 e2=>ih (i+1) (by omega) ⟨LM (i:=i+1) (λj hj=>by
   by_cases e:j=i
   ·rw [e];exact e1
   ·exact hi3 j (by omega)),by rw [hi2,e1,e2];simp,λj hj=>by
   by_cases e:j=i
   ·rw [e];exact e1
   ·exact hi3 j (by omega)⟩
 generalize Dy nt=R at *;generalize BL nt (.mk 1 i [] [])=b1 at *;generalize BL nt (.mk 1 (0-i) [] [])=b2 at *;clear ih hi3;have hw:IntKind.i64.wrap (0-(i:Int))=0-i:=BI (by omega) (by omega);have hn:∀q:Nat,q<2->∃x:Ty,[[V.int .i64 1,.int .i64 i,.str []],[.int .i64 1,.int .i64 (IntKind.i64.wrap (0-(i:Int))),.str []]][q]?=some (Bl x)/\x=(if q=0 then .mk 1 i [] [] else .mk 1 (0-i) [] []):=λq hq=>by
  have:q=0\/q=1:=by omega
  rcases this with rfl | rfl
  ·exact ⟨_,rfl,rfl⟩
  ·exact ⟨.mk 1 (0-i) [] [],by rw [hw];rfl,rfl⟩
 refine Aq rfl ?_;obtain ⟨L2,hL⟩:∃L2,L2=[[V.int .i64 1,.int .i64 i,.str []],[.int .i64 1,.int .i64 (IntKind.i64.wrap (0-(i:Int))),.str []]]:=⟨_,rfl⟩
 rw [<- hL] at hn;have hl2:L2.length=2:=by rw [hL];rfl
 refine Am (λq:Nat=>[(15,.imm (.int .i64 q)),(14,.imm (.int .i64 2)),(13,.imm (.sl L2)),(3,.imm (.int .i64 i)),(2,.ref 1 0),(0,.imm (.sl (By nt)))]) (λ_=>[(1,some (.immb 122 3 [.int .i64 0,.int .i64 0,.str []]))]) [2,3] (λq=>2-q)
  (λq=>q<=2/\(1<=q->b1=true)/\(2<=q->b2=true)) 0 ⟨Nat.zero_le _,λh=>by omega,λh=>by omega⟩ ⟨rfl,rfl,by rw [hL];rfl,rfl,rfl,rfl,trivial⟩ ⟨rfl,trivial⟩ rfl λq hq jh=>?_
 obtain ⟨hq1,hq2,hq3⟩:=hq;refine Aq rfl ?_;refine Ab rfl (λh=>?_) (λh=>?_)
 ·have hq:q<2:=by simp at h;omega
  obtain ⟨x,x1,x2⟩:=hn q hq;refine Aq rfl ?_;refine mi rfl (c:=Bl x) (λ_=>⟨by simp,by simpa using x1,by simp⟩) (by simp) ?_;have hx:Ak Tryz.prog 134 [.sl (By nt),.agg (Bl x)] (.bool (if q=0 then b1 else b2)):=by
   rw [x2];by_cases e:q=0
   ·rw [if_pos e,if_pos e];exact h1
   ·rw [if_neg e,if_neg e];exact h2
  have hb:(if q=0 then b1 else b2)=false->R=x:=λhb=>by
   rw [hi2,x2];by_cases e:q=0
   ·rw [if_pos e] at hb ⊢;rw [if_pos hb]
   ·rw [if_neg e] at hb ⊢;rw [if_neg (by rw [hq2 (by omega)];simp),if_pos hb]
  have hb':(if q=0 then b1 else b2)=true->(1<=q+1->b1=true)/\(2<=q+1->b2=true):=λhb=>by
   by_cases e:q=0
   ·rw [if_pos e] at hb;exact ⟨λ_=>hb,λh=>by omega⟩
   ·rw [if_neg e] at hb;exact ⟨λ_=>hq2 (by omega),λ_=>hb⟩
  generalize (if q=0 then b1 else b2)=bq at *;obtain ⟨y1,y2,y3,y4⟩:=x;refine Ao rfl ?_;refine Ah rfl hx ?_;refine Ao rfl ?_;cases bq with
  | false =>
   refine Ai rfl λh=>?_;refine Aq rfl ?_;rw [hb rfl];exact Aa rfl rfl rfl
  | true =>
   refine Az rfl λh=>?_;refine Aq rfl ?_;exact Ae (jh (q+1) (by omega) ⟨by omega,hb' rfl⟩) ⟨A3 (BI (by omega) (by omega)),rfl,rfl,rfl,rfl,rfl,trivial⟩ ⟨rfl,trivial⟩ rfl
 ·have hq:¬q<2:=by simp at h;omega
  refine Ay rfl ?_;refine Aq rfl ?_;exact Ae (hih (hq2 (by omega)) (hq3 (by omega))) ⟨A3 (BI (by omega) (by omega)),rfl,rfl,trivial⟩ ⟨rfl,trivial⟩ rfl
end Go.Hk
namespace Go.Hk
theorem iN {P:Program} {f:FuncId} {vs:List V} {k:Nat} {e:TypeId} {sz:Nat} {es:List (List V)} (h:Bg P f (vs.map .imm) [] (.ret (.own k es.length) [(k,some (.row e sz es))])):Ak P f vs (.sl es):=by
 intro I μ w xs hst hx;refine (h I μ w xs hst hx).mono (λu w' hu=>?_) (λ_ _ h=>h.elim);obtain ⟨I',μ',r1,r2,r3,r4⟩:=hu;have hlive:At [(k,some (Blk.row e sz es))] k (.row e sz es):=by simp [At,lk]
 obtain ⟨g,hg,ys,hown,hrep,hsz,hone,hp⟩:=r2.blk k _ hlive;have hu:u=g:=by
  cases r1 with
  | own _ _ ad cap hm=>rw [hm] at hg;cases hg;rfl
 subst hu;have hno0:∀b,¬Bq μ [] b:=λb ⟨i,bi,g,h,_⟩=>by simp [At,lk] at h
 obtain ⟨J,hJ,hJs,hJr,hJo⟩:∃J:Imm,I'.le J/\(∀b,b<w.heap.size->J b=I' b)/\RepV J u (.sl es)/\(∀k o,J k=some o->(I' k=some o\/w'.heap[k]?=some o)):=by
  rcases hown.2 with ⟨rfl,h0⟩ | ⟨gb,cap,cur,rfl,_,hheap,hle,hcm,hcs,htake⟩
  ·have:es=[]:=List.eq_nil_of_length_eq_zero h0;subst this;exact ⟨I',Imm.le_refl I',λ_ _=>rfl,.slnil,λk o h=>.inl h⟩
  ·have hno:=(r2.apart k _ _ gb hlive hg rfl).1;have hge:w.heap.size<=gb:=by
    rcases Nat.lt_or_ge gb w.heap.size with hlt | hge
    ·exact absurd (r4.fresh gb hlt ⟨k,_,_,hlive,hg,rfl⟩) (hno0 gb)
    ·exact hge
   have hle':I'.le (λk=>if k=gb then some (.cells cur e (0,0)) else I' k):=λk o h=>by
    have:k≠gb:=λe=>by rw [e,hno] at h;cases h
    simp [this,h]
   refine ⟨_,hle',λb hb=>if_neg (by omega),?_,λk o h=>?_⟩
   ·refine Yb (w:=w') (xs:=ys) (u:=.slice (some ⟨gb,0,none⟩) es.length cap) hown (hrep.mono hle') hsz ?_ (b:=gb) rfl hheap (by simp);intro v hv;obtain ⟨q,hq⟩:=List.mem_iff_getElem?.1 hv;have hlt:q<es.flatten.length:=by rw [<- hrep.1];exact (List.getElem?_eq_some_iff.1 hq).1
    obtain ⟨c,hc,hx⟩:=List.mem_flatten.1 (List.getElem_mem hlt);exact (hrep.2 q v _ hq (List.getElem?_eq_getElem hlt)).one (hone c hc _ hx)
   ·by_cases hk:k=gb
    ·subst hk;simp at h;subst h;exact .inr hheap
    ·simp [hk] at h;exact .inl h
 refine ⟨J,μ',.imm _ _ hJr,?_,r3,?_⟩
 ·exact { imm:=λb o h=>(hJo b o h).elim (λh=>r2.imm b o h) id,blk:=λi b h=>by simp [At,lk] at h,apart:=λi b g k h=>by simp [At,lk] at h,inj:=λi j bi bj gi gj k h=>by simp [At,lk] at h,nodup:=r2.nodup,idsFree:=r2.idsFree }
 ·exact { imm:=λb o h=>hJ b o (r4.imm b o h),os:=r4.os,tape:=r4.tape,output:=r4.output,size:=r4.size,block:=r4.block,fresh:=λb _ ⟨i,bi,g,h,_⟩=>by simp [At,lk] at h,old:=λb hb ho=>by rw [hJs b hb];exact r4.old b hb ho }
end Go.Hk
namespace Go.Hk
open Go.Proofs
theorem TV (c:Cse) (sz:List (List V)) (t:Ty) (ho:OkW c.datas) (ht:AK c.datas t=true) :
  Bg Tryz.prog 176 [.imm (AE c sz),.imm (.agg (dTyc t))] [] (.ret (.own 2 (By (AB c.datas t)).length) [(2,some (.row 122 3 (By (AB c.datas t))))]):=by
 obtain ⟨ds,⟨c1,c2,c3,c4⟩,rows⟩:=c;obtain ⟨so,n,x,ps⟩:=t;simp only at ho ht ⊢;simp only [AB];refine Af Al Tryz.func176 (by decide +kernel) rfl [1,2,3,4] rfl rfl ?_;refine Ao rfl ?_;by_cases h2:so=2
 ·subst h2;refine Ai rfl λh=>?_;refine nH 4 rfl (by simp) ?_;refine kG Al 2 rfl (by simp) ?_;refine Ao rfl ?_;exact Au ⟨_,rfl,rfl,rfl,trivial⟩
 rw [if_neg h2];refine Ab rfl (λh=>absurd (by simpa using h) h2) (λh=>?_);clear h;refine Aq rfl ?_;by_cases h3:so=3
 ·subst h3;refine Ai rfl λh=>?_;refine nH 3 rfl (by simp) ?_;refine kG Al 2 rfl (by simp) ?_;refine Ao rfl ?_;exact Au ⟨_,rfl,rfl,rfl,trivial⟩
 rw [if_neg h3];refine Ab rfl (λh=>absurd (by simpa using h) h3) (λh=>?_);clear h;refine Aq rfl ?_;by_cases h8:so=8
 case neg =>
  rw [if_neg h8];refine Ab rfl (λh=>absurd (by simpa using h) h8) (λh=>?_);refine Aq rfl ?_;refine D4 (e:=122) (sz:=3) 4 2 (by decide) rfl ?_;exact Au ⟨_,rfl,rfl,rfl,trivial⟩
 subst h8;rw [if_pos rfl];obtain ⟨hp,d,hd⟩:=CN ht 8 n x ps rfl rfl;have hdl:=(ho.lim d (List.mem_of_getElem? hd)).1;rw [hd];simp only;refine Ai rfl λh=>?_;clear h;refine Aq rfl ?_;refine Gs Al rfl rfl rfl (EO _) (by simp [An]) (z:=.int .i64 0) rfl (λ_=>.int _ _) (HU ds x) ?_;refine Ao rfl ?_;rw [show Lg ds x=Bf x 0 ds by simp [Lg,hp]];refine mi rfl (c:=CU d) (λ_=>⟨hp,by simpa using B2 hd,by simp⟩) (by simp) ?_;obtain ⟨dn,dc⟩:=d;simp only at hdl;refine mg [] rfl (by simp;rfl) ?_;refine D4 (e:=122) (sz:=3) 5 2 (by decide) rfl ?_;have el:∀i c,dc[i]?=some c->By ((dc.take (i+1)).map Le)=By ((dc.take i).map Le)++[Bl (Le c)]:=λi c hc=>by rw [Bn hc,List.map_append,Pb];rfl
 refine Am (λi:Nat=>[(37,.imm (.int .i64 i)),(36,.imm (.int .i64 dc.length)),(35,.imm (.sl (dc.map DN))),(5,.own 2 (By ((dc.take i).map Le)).length)]) (λi=>[(2,some (.row 122 3 (By ((dc.take i).map Le))))]) [3,4] (λi=>dc.length-i)
  (λi=>i<=dc.length) 0 (Nat.zero_le _) ⟨rfl,A3 (by simp),rfl,rfl,trivial⟩ ⟨rfl,trivial⟩ rfl λi hi ih=>?_
 refine Aq rfl ?_;refine Ab rfl (λh=>?_) (λh=>?_)
 ·simp at h;obtain ⟨e,he⟩:=Ap h;have et:=el i e he;have hlen:(By ((dc.take i).map Le)).length<=5:=by simp;omega
  have hih:=ih (i+1) (by omega) (by omega);rw [et] at hih;generalize By ((dc.take i).map Le)=l at *;refine Aq rfl ?_;refine mi rfl (c:=DN e) (λ_=>⟨by omega,by simpa using B2 he,by simp⟩) (by simp) ?_;obtain ⟨en,ea⟩:=e;refine Ao rfl ?_;refine Cm Al rfl ⟨by simp [Le],by simp [maxLen] at hlen ⊢;omega,by simp at hlen ⊢;omega,trivial⟩ ?_;refine Ao rfl ?_;refine AG 2 4 rfl ?_;exact Ae hih ⟨A3 (BI (by omega) (by omega)),rfl,rfl,by simp only [List.length_append];rfl,trivial⟩ ⟨rfl,trivial⟩ rfl
 ·simp at h;refine Ay rfl ?_;refine Aq rfl ?_;rw [List.take_of_length_le (by omega)];exact Au ⟨_,rfl,rfl,rfl,trivial⟩
theorem WN (c:Cse) (sz:List (List V)) (t:Ty) (ho:OkW c.datas) (ht:AK c.datas t=true):Ak Tryz.prog 176 [AE c sz,.agg (dTyc t)] (.sl (By (AB c.datas t))) :=
 iN (TV c sz t ho ht)
def ptr (b:Nat):Value:=.pointer (some ⟨b,0,none⟩)
def T5 (I:Imm) (w:World) (nt:List Ty) (nv:Value):Prop:=(∃xs,w.ownsRow 0 122 3 nv nt.length xs/\RepVL I xs (By nt).flatten)/\(nt=[]->nv = .slice none 0 0)
def KJ (w:World) (kbs:List Nat) (kv:Value):Prop:=w.ownsRow 0 96 1 kv kbs.length (kbs.map ptr)
def Im (I:Imm) (w:World) (ty:Ty) (nt:List Ty) (hd:Ty) (nv kv:Value) (kbs:List Nat) (b:Nat):Prop :=
 (∃vs ts hs,w.heap[b]?=some (.cells vs 161 (0,0))/\vs.toList=ts++hs++[nv,kv]/\RepVL I ts (dTyc ty)/\RepVL I hs (Bl hd))/\T5 I w nt nv/\KJ w kbs kv
def AT (nv kv:Value) (b:Nat):List Nat:=b::(nv.ownBlock.toList++kv.ownBlock.toList)
mutual
def Fm (I:Imm) (w:World):Mi->Nat->List Nat->Prop
 | .mk ty nt hd ks,b,F=>∃nv kv kbs Fk,Im I w ty nt hd nv kv kbs b/\D9 I w ks kbs Fk/\F=AT nv kv b++Fk/\F.Nodup
def D9 (I:Imm) (w:World):List Mi->List Nat->List Nat->Prop
 | [],kbs,F=>kbs=[]/\F=[]
 | k::r,kbs,F=>∃kb kr F1 F2,kbs=kb::kr/\Fm I w k kb F1/\D9 I w r kr F2/\F=F1++F2
end
section
variable {I J:Imm} {w w':World}
theorem BX {e:TypeId} {sz n:Nat} {v:Value} {xs:List Value} (h:∀q∈v.ownBlock.toList,w'.heap[q]?=w.heap[q]?) (hr:w.ownsRow 0 e sz v n xs):w'.ownsRow 0 e sz v n xs:=by
 refine ⟨hr.1,?_⟩;rcases hr.2 with h0 | ⟨g,cap,cur,rfl,h1,h2,h3⟩
 ·exact .inl h0
 ·exact .inr ⟨g,cap,cur,rfl,h1,(h g (by simp [Value.ownBlock])).trans h2,h3⟩
theorem FM {ty:Ty} {nt:List Ty} {hd:Ty} {nv kv:Value} {kbs:List Nat} {b:Nat} (h:∀q∈AT nv kv b,w'.heap[q]?=w.heap[q]?) (hn:Im I w ty nt hd nv kv kbs b):Im I w' ty nt hd nv kv kbs b:=by
 obtain ⟨⟨vs,ts,hs,h1,h2⟩,⟨⟨xs,h3,h4⟩,h5⟩,h6⟩:=hn;exact ⟨⟨vs,ts,hs,(h b (by simp [AT])).trans h1,h2⟩,⟨⟨xs,BX (λq hq=>h q (by simp only [AT,List.mem_cons,List.mem_append];exact .inr (.inl hq))) h3,h4⟩,h5⟩,BX (λq hq=>h q (by simp only [AT,List.mem_cons,List.mem_append];exact .inr (.inr hq))) h6⟩
theorem ES {ty:Ty} {nt:List Ty} {hd:Ty} {nv kv:Value} {kbs:List Nat} {b:Nat} (h:I.le J) (hn:Im I w ty nt hd nv kv kbs b):Im J w ty nt hd nv kv kbs b:=by
 obtain ⟨⟨vs,ts,hs,h1,h2,h3,h4⟩,⟨⟨xs,h5,h6⟩,h7⟩,h8⟩:=hn;exact ⟨⟨vs,ts,hs,h1,h2,h3.mono h,h4.mono h⟩,⟨⟨xs,h5,h6.mono h⟩,h7⟩,h8⟩
mutual
theorem Ht:∀{c:Mi} {b:Nat} {F:List Nat},(∀q∈F,w'.heap[q]?=w.heap[q]?)->Fm I w c b F->Fm I w' c b F
 | .mk ty nt hd ks,b,F,h,⟨nv,kv,kbs,Fk,h1,h2,h3,h4⟩=>⟨nv,kv,kbs,Fk,FM (λq hq=>h q (by rw [h3];simp [hq])) h1,CC (λq hq=>h q (by rw [h3];simp [hq])) h2,h3,h4⟩
theorem CC:∀{ks:List Mi} {kbs:List Nat} {F:List Nat},(∀q∈F,w'.heap[q]?=w.heap[q]?)->D9 I w ks kbs F->D9 I w' ks kbs F
 | [],_,_,_,h=>h
 | k::r,kbs,F,h,⟨kb,kr,F1,F2,h1,h2,h3,h4⟩=>⟨kb,kr,F1,F2,h1,Ht (λq hq=>h q (by rw [h4];simp [hq])) h2,CC (λq hq=>h q (by rw [h4];simp [hq])) h3,h4⟩
end
mutual
theorem HR (hI:I.le J):∀{c:Mi} {b:Nat} {F:List Nat},Fm I w c b F->Fm J w c b F
 | .mk ty nt hd ks,b,F,⟨nv,kv,kbs,Fk,h1,h2,h3,h4⟩=>⟨nv,kv,kbs,Fk,ES hI h1,Ec hI h2,h3,h4⟩
theorem Ec (hI:I.le J):∀{ks:List Mi} {kbs:List Nat} {F:List Nat},D9 I w ks kbs F->D9 J w ks kbs F
 | [],_,_,h=>h
 | k::r,kbs,F,⟨kb,kr,F1,F2,h1,h2,h3,h4⟩=>⟨kb,kr,F1,F2,h1,HR hI h2,Ec hI h3,h4⟩
end
theorem Jp {c:Mi} {b:Nat} {F:List Nat} (h:Fm I w c b F):F.Nodup:=by
 obtain ⟨ty,nt,hd,ks⟩:=c;obtain ⟨_,_,_,_,_,_,_,h⟩:=h;exact h
theorem Hv:∀{ks:List Mi} {kbs:List Nat} {F:List Nat},D9 I w ks kbs F->kbs.length=ks.length
 | [],_,_,h=>by rw [h.1];rfl
 | k::r,_,_,⟨kb,kr,F1,F2,h1,_,h3,_⟩=>by rw [h1];simp [Hv h3]
theorem LP:∀{ks:List Mi} {kbs:List Nat} {F:List Nat} {i:Nat} {k:Mi},D9 I w ks kbs F->ks[i]?=some k->∃kb F1 Fk F2,kbs[i]?=some kb/\Fm I w k kb Fk/\F=F1++Fk++F2 /\
  ∀J w2 k' Fk',I.le J->(∀q∈F1++F2,w2.heap[q]?=w.heap[q]?)->Fm J w2 k' kb Fk'->D9 J w2 (ks.set i k') kbs (F1++Fk'++F2)
 | [],_,_,i,k,_,h=>by simp at h
 | x::r,kbs,F,0,k,⟨kb,kr,F1,F2,h1,h2,h3,h4⟩,h=>by
  simp at h;subst h;subst h1;refine ⟨kb,[],F1,F2,rfl,h2,by simpa using h4,λJ w2 k' Fk' hI hw hk=>?_⟩;simp only [List.set_cons_zero];exact ⟨kb,kr,Fk',F2,rfl,hk,Ec hI (CC (λq hq=>hw q (by simp [hq])) h3),by simp⟩
 | x::r,kbs,F,i+1,k,⟨kb,kr,F1,F2,h1,h2,h3,h4⟩,h=>by
  subst h1;obtain ⟨kb',G1,Gk,G2,g1,g2,g3,g4⟩:=LP h3 (i:=i) (k:=k) (by simpa using h);refine ⟨kb',F1++G1,Gk,G2,by simpa using g1,g2,by rw [h4,g3];simp,λJ w2 k' Fk' hI hw hk=>?_⟩;simp only [List.set_cons_succ];exact ⟨kb,kr,F1,G1++Fk'++G2,rfl,HR hI (Ht (λq hq=>hw q (by simp [hq])) h2),g4 J w2 k' Fk' hI (λq hq=>hw q (by simp at hq ⊢;rcases hq with h | h <;> simp [h])) hk,by simp⟩
end
def AR (c:Mi) (b:Nat):Asn where
 P _ I w bs:=∃F,Fm I w c b F/\∀q∈F,q∈bs
 mono:=λh ⟨F,h1,h2⟩=>⟨F,HR h h1,h2⟩
 loc:=λh ⟨F,h1,h2⟩=>⟨F,Ht (λq hq=>h q (h2 q hq)) h1,h2⟩
def DJ (c:Mi):Asn where
 P us I w bs:=∃b F,us=[ptr b]/\Fm I w c b F/\∀q∈F,q∈bs
 mono:=λh ⟨b,F,h0,h1,h2⟩=>⟨b,F,h0,HR h h1,h2⟩
 loc:=λh ⟨b,F,h0,h1,h2⟩=>⟨b,F,h0,Ht (λq hq=>h q (h2 q hq)) h1,h2⟩
def CZ (ty:Ty) (nt:List Ty) (hd:Ty) (ks:List Mi) (nv kv:Value) (kbs:List Nat) (b:Nat):Asn where
 P _ I w bs:=∃Fk,Im I w ty nt hd nv kv kbs b/\D9 I w ks kbs Fk/\(AT nv kv b++Fk).Nodup/\∀q∈AT nv kv b++Fk,q∈bs
 mono:=λh ⟨F,h1,h2,h3⟩=>⟨F,ES h h1,Ec h h2,h3⟩
 loc:=λh ⟨F,h1,h2,h3,h4⟩=>⟨F,FM (λq hq=>h q (h4 q (by simp [hq]))) h1,CC (λq hq=>h q (h4 q (by simp [hq]))) h2,h3,h4⟩
def E4 (b x:Nat) (T:Mi->Mi):Asn where
 P _ I w bs:=∀J w2 k F,I.le J->(∀q∈bs,w2.heap[q]?=w.heap[q]?)->Fm J w2 k x F->(∀q∈F,q∉bs)->∃G,Fm J w2 (T k) b G/\∀q∈G,q∈bs\/q∈F
 mono:=λh h1 J w2 k F hJ=>h1 J w2 k F (λb o hb=>hJ b o (h b o hb))
 loc:=λh h1 J w2 k F hJ hw=>h1 J w2 k F hJ λq hq=>(hw q hq).trans (h q hq)
theorem KF {I:Imm} {w:World} {ty:Ty} {nt:List Ty} {hd:Ty} {ks:List Mi} {b:Nat} {us:List Value} {bs:List Nat} (h:(AR (.mk ty nt hd ks) b).P us I w bs):∃x:Value×Value×List Nat,(CZ ty nt hd ks x.1 x.2.1 x.2.2 b).P us I w bs:=by
 obtain ⟨F,⟨nv,kv,kbs,Fk,h1,h2,h3,h4⟩,h5⟩:=h;subst h3;exact ⟨(nv,kv,kbs),Fk,h1,h2,h4,h5⟩
theorem KG {I:Imm} {w:World} {ty:Ty} {nt:List Ty} {hd:Ty} {ks:List Mi} {nv kv:Value} {kbs:List Nat} {b:Nat} {us vs:List Value} {bs:List Nat} (h:(CZ ty nt hd ks nv kv kbs b).P us I w bs):(AR (.mk ty nt hd ks) b).P vs I w bs:=by
 obtain ⟨Fk,h1,h2,h3,h4⟩:=h;exact ⟨_,⟨nv,kv,kbs,Fk,h1,h2,rfl,h3⟩,h4⟩
theorem KA {I:Imm} {w:World} {b x:Nat} {T:Mi->Mi} {k:Mi} {us vs:List Value} {b1 b2:List Nat} (h:(E4 b x T).P us I w b1) (hk:(AR k x).P vs I w b2) (hd:∀q∈b1,q∉b2):∃bs,(∀q∈bs,q∈b1\/q∈b2)/\(AR (T k) b).P [] I w bs:=by
 obtain ⟨F,h1,h2⟩:=hk;obtain ⟨G,g1,g2⟩:=h I w k F (Imm.le_refl I) (λ_ _=>rfl) h1 (λq hq hq1=>hd q hq1 (h2 q hq));exact ⟨G,λq hq=>(g2 q hq).imp id (h2 q),G,g1,λq hq=>hq⟩
theorem bK {I:Imm} {w:World} {b x y:Nat} {T S:Mi->Mi} {us vs:List Value} {b1 b2:List Nat} (h:(E4 b x T).P us I w b1) (hk:(E4 x y S).P vs I w b2) (hd:∀q∈b1,q∉b2):(E4 b y (λk=>T (S k))).P [] I w (b1++b2):=by
 intro J w2 k F hJ hw hm hF;obtain ⟨G,g1,g2⟩:=hk J w2 k F hJ (λq hq=>hw q (by simp [hq])) hm (λq hq hq2=>hF q hq (by simp [hq2]));obtain ⟨G',g3,g4⟩:=h J w2 (S k) G hJ (λq hq=>hw q (by simp [hq])) g1 (λq hq hq1=>by
  rcases g2 q hq with h | h
  ·exact hd q hq1 h
  ·exact hF q h (by simp [hq1]))
 refine ⟨G',g3,λq hq=>?_⟩;rcases g4 q hq with h | h
 ·exact .inl (by simp [h])
 ·rcases g2 q h with h | h
  ·exact .inl (by simp [h])
  ·exact .inr h
theorem mK {I:Imm} {w:World} {b:Nat} {us:List Value} {bs:List Nat}:(E4 b b (λk=>k)).P us I w bs:=λJ w2 k F _ _ hm _=>⟨F,hm,λq hq=>.inr hq⟩
end Go.Hk
namespace Go.Hk
section
variable {P:Program} {n:Nat} {F:List Nat} {Q:DQ} {tt:TT} {env env':Env} {st st':St} {ids ids':List Nat} {k todo todo':List DI} {I:Imm} {μ:Mu} {w w':World} {a:Act}
theorem FT (id t j:Nat) {B:Asn} (A:Asn) {v:Value} (hl:lk st id=some (some (.hp B))) (ht:lk env t=some (.raw v)) (h1:v.oneCell'=true)
  (hA:∀us I w bs,B.P us I w bs->A.P [v] I w bs) (h:DGo P n F Q todo ((t,.hv j 0)::env) ((j,some (.hp A))::(id,none)::st) ids'):DGo P n F Q todo env st (j::ids'):=by
 refine DS λI μ a w hc=>?_;obtain ⟨g,hg,us,bs,rfl,hP⟩:=hc.blk id _ hl;obtain ⟨q1,q2,q3⟩:=StRep.relay (R:=[id]) (new:=[(j,Nw [v] bs,.hp A)]) (ids':=ids') hc.toStRep
  (λp hp b hb=>by
   rw [List.mem_singleton.1 hp] at hb;exact ⟨id,_,_,by simp,hl,hg,AX.2 (AX.1 hb)⟩)
  (λp hp q hq b _ _=>by rw [List.mem_singleton.1 hp,List.mem_singleton.1 hq]) (Imm.le_refl I) hc.imm (λb o h=>.inl h)
  (λ_ p hp=>by rw [List.mem_singleton.1 hp];exact ⟨[v],bs,rfl,hA us I w bs hP⟩)
 have hmj:Fj [(j,Nw [v] bs,.hp A)] μ j=some (Nw [v] bs):=by simp [Fj,lk]
 refine ⟨I,_,_,_,ids',q2,λt' d hd=>?_,q3,.of_le q1,h⟩;by_cases e:t=t'
 ·subst e;rw [Aw] at hd;cases hd;have hv:=(hc.env t _ ht).rawInv;rw [hv];exact .hv v j 0 [v] bs hmj rfl h1
 ·rw [A6 _ _ e] at hd;exact (hc.env t' d hd).mono (Imm.le_refl I) q1
end
end Go.Hk
namespace Go.Hk
open Go.Proofs
def In:Value:=.slice none 0 0
theorem JT {I:Imm} {v:Value} (h:RepD I noMu v .nils):v=In:=by cases h;rfl
theorem RS {I:Imm} {w:World} {ty:Ty} {hd:Ty} {b:Nat} {us:List Value} {bs:List Nat} (h:(Sn b 161 ((dTyc ty++Bl hd).map .imm++[.nils,.nils])).P us I w bs):(AR (.mk ty [] hd []) b).P us I w bs:=by
 obtain ⟨h1,vs,h2,h3,h4⟩:=h;obtain ⟨t1,t2,t3,t4⟩:=ty;obtain ⟨f1,f2,f3,f4⟩:=hd;have hl:=h3.1;simp only [dTyc,Bl,List.map_append,List.map_cons,List.map_nil,List.cons_append,List.nil_append,List.length_cons,List.length_nil] at hl h3
 match hvs:vs.toList,hl with
 | [a0,a1,a2,a3,a4,a5,a6,a7,a8],_ =>
 rw [hvs] at h3;have e7:a7=In:=JT (h3.2 7 a7 _ rfl rfl);have e8:a8=In:=JT (h3.2 8 a8 _ rfl rfl);subst e7;subst e8;subst h1;refine ⟨[b],⟨In,In,[],[],⟨⟨vs,[a0,a1,a2,a3],[a4,a5,a6],h2,by rw [hvs];rfl,?_,?_⟩,⟨⟨[],World.ownsRow_nil w 0 _ 3,.nil⟩,λ_=>rfl⟩,World.ownsRow_nil w 0 _ 1⟩,⟨rfl,rfl⟩,rfl,by simp⟩,λq hq=>hq⟩
 ·exact .mk (h3.2 0 a0 _ rfl rfl).immInv (.mk (h3.2 1 a1 _ rfl rfl).immInv (.mk (h3.2 2 a2 _ rfl rfl).immInv (.mk (h3.2 3 a3 _ rfl rfl).immInv .nil)))
 ·exact .mk (h3.2 4 a4 _ rfl rfl).immInv (.mk (h3.2 5 a5 _ rfl rfl).immInv (.mk (h3.2 6 a6 _ rfl rfl).immInv .nil))
theorem Fs (wd:V) (t:Ty):Bg Tryz.prog 42 [.imm wd,.imm (.agg (dTyc t))] [] (.ret (.hv 2 0) [(2,some (.hp (DJ (As t))))]):=by
 obtain ⟨t1,t2,t3,t4⟩:=t;refine Af Al Tryz.func42 (by decide +kernel) rfl [1,3,4,2] rfl rfl ?_;refine Ao rfl ?_;refine GR 3 4 rfl rfl λb=>?_;refine FT 4 4 2 (DJ (As (.mk t1 t2 t3 t4))) rfl rfl rfl (λus I w bs h=>?_) ?_
 ·obtain ⟨F,h1,h2⟩:=RS (ty:=.mk t1 t2 t3 t4) (hd:=zT) h;exact ⟨b,F,rfl,h1,h2⟩
 exact Au ⟨_,rfl,rfl,rfl,trivial⟩
section
variable {I J:Imm} {w w':World} {ty:Ty} {nt:List Ty} {hd:Ty} {ks:List Mi} {nv kv:Value} {kbs:List Nat} {b:Nat} {us:List Value} {bs:List Nat}
theorem QK {e:TypeId} {sz n:Nat} {v:Value} {xs:List Value} {q:Nat} (h:w.ownsRow 0 e sz v n xs) (hq:q∈v.ownBlock.toList):q<w.heap.size:=by
 rcases h.2 with ⟨rfl,_⟩ | ⟨g,cap,cur,rfl,_,h2,_⟩
 ·simp [Value.ownBlock] at hq
 ·simp [Value.ownBlock] at hq;subst hq;exact BU h2
theorem UQ (h:Im I w ty nt hd nv kv kbs b):∀q∈AT nv kv b,q<w.heap.size:=by
 obtain ⟨⟨vs,ts,hs,h1,_⟩,⟨⟨xs,h2,_⟩,_⟩,h3⟩:=h;intro q hq;simp only [AT,List.mem_cons,List.mem_append] at hq;rcases hq with rfl | hq | hq
 ·exact BU h1
 ·exact QK h2 hq
 ·exact QK h3 hq
mutual
theorem ZU:∀{c:Mi} {b:Nat} {F:List Nat},Fm I w c b F->∀q∈F,q<w.heap.size
 | .mk ty nt hd ks,b,F,⟨nv,kv,kbs,Fk,h1,h2,h3,_⟩,q,hq=>by
  rw [h3] at hq;rcases List.mem_append.1 hq with hq | hq
  ·exact UQ h1 q hq
  ·exact PT h2 q hq
theorem PT:∀{ks:List Mi} {kbs:List Nat} {F:List Nat},D9 I w ks kbs F->∀q∈F,q<w.heap.size
 | [],_,_,h,q,hq=>by rw [h.2] at hq;cases hq
 | k::r,kbs,F,⟨kb,kr,F1,F2,h1,h2,h3,h4⟩,q,hq=>by
  rw [h4] at hq;rcases List.mem_append.1 hq with hq | hq
  ·exact ZU h2 q hq
  ·exact PT h3 q hq
end
theorem Lp:∀{ks:List Mi} {kbs:List Nat} {F:List Nat} {ks2:List Mi} {kbs2:List Nat} {F2:List Nat},D9 I w ks kbs F->D9 I w ks2 kbs2 F2->D9 I w (ks++ks2) (kbs++kbs2) (F++F2)
 | [],_,_,_,_,_,h,h2=>by rw [h.1,h.2];exact h2
 | k::r,kbs,F,_,_,_,⟨kb,kr,F1,F2',h1,h2,h3,h4⟩,h5=>⟨kb,_,F1,_,by rw [h1];rfl,h2,Lp h3 h5,by rw [h4];simp⟩
theorem FV {off:Nat} {ds sub:List D} (h:Dc I w b 0 ds) (hs:∀(j:Nat) d,sub[j]?=some d->ds[off+j]?=some d):Dc I w b off sub:=by
 obtain ⟨vs,t,k,h1,h2⟩:=h;refine ⟨vs,t,k,h1,λj d hd=>?_⟩;obtain ⟨c,h3,h4⟩:=h2 _ _ (hs j d hd);exact ⟨c,by simpa using h3,h4⟩
def jF (ty hd:Ty) (nv kv:Value):List D:=(dTyc ty++Bl hd).map .imm++[.raw nv,.raw kv]
theorem EH (h:Im I w ty nt hd nv kv kbs b):Dc I w b 0 (jF ty hd nv kv):=by
 obtain ⟨⟨vs,ts,hs,h1,h2,h3,h4⟩,⟨⟨xs,h5,_⟩,_⟩,h6⟩:=h;obtain ⟨t1,t2,t3,t4⟩:=ty;obtain ⟨f1,f2,f3,f4⟩:=hd;have hl3:=h3.1;have hl4:=h4.1;have h3:=h3.2;have h4:=h4.2;simp only [dTyc,Bl,List.length_cons,List.length_nil] at hl3 hl4 h3 h4;have hn:=HM h5;have hk:=HM h6
 match ts,hl3 with
 | [a0,a1,a2,a3],_ =>
 match hs,hl4 with
 | [a4,a5,a6],_ =>
 have g:∀(j:Nat) (c:Value),([a0,a1,a2,a3,a4,a5,a6,nv,kv]:List Value)[j]?=some c->vs[0+j]?=some c:=λj c hc=>by
  have:vs.toList[j]?=some c:=by rw [h2];exact hc
  simpa using this
 refine ⟨vs,_,_,h1,λj d hd=>?_⟩;simp only [jF,dTyc,Bl,List.map_append,List.map_cons,List.map_nil,List.cons_append,List.nil_append] at hd;have r0:=h3 0 a0 _ rfl rfl;have r1:=h3 1 a1 _ rfl rfl;have r2:=h3 2 a2 _ rfl rfl;have r3:=h3 3 a3 _ rfl rfl;have r4:=h4 0 a4 _ rfl rfl;have r5:=h4 1 a5 _ rfl rfl;have r6:=h4 2 a6 _ rfl rfl
 match j,hd with
 | 0,hd=>cases hd;exact ⟨a0,g 0 a0 rfl,r0.one rfl,.imm _ _ r0⟩
 | 1,hd=>cases hd;exact ⟨a1,g 1 a1 rfl,r1.one rfl,.imm _ _ r1⟩
 | 2,hd=>cases hd;exact ⟨a2,g 2 a2 rfl,r2.one rfl,.imm _ _ r2⟩
 | 3,hd=>cases hd;exact ⟨a3,g 3 a3 rfl,r3.one rfl,.imm _ _ r3⟩
 | 4,hd=>cases hd;exact ⟨a4,g 4 a4 rfl,r4.one rfl,.imm _ _ r4⟩
 | 5,hd=>cases hd;exact ⟨a5,g 5 a5 rfl,r5.one rfl,.imm _ _ r5⟩
 | 6,hd=>cases hd;exact ⟨a6,g 6 a6 rfl,r6.one rfl,.imm _ _ r6⟩
 | 7,hd=>cases hd;exact ⟨nv,g 7 nv rfl,hn,.raw _ hn⟩
 | 8,hd=>cases hd;exact ⟨kv,g 8 kv rfl,hk,.raw _ hk⟩
 | j+9,hd=>simp at hd
theorem Jr (h:(CZ ty nt hd ks nv kv kbs b).P us I w bs):Dc I w b 0 ((dTyc ty).map .imm):=by
 obtain ⟨F,h,_⟩:=h;obtain ⟨t1,t2,t3,t4⟩:=ty;obtain ⟨f1,f2,f3,f4⟩:=hd;exact FV (off:=0) (EH h) λj d hd=>by match j,hd with | 0,hd=>exact hd | 1,hd=>exact hd | 2,hd=>exact hd | 3,hd=>exact hd | j+4,hd=>simp [dTyc] at hd
theorem cZ (h:(CZ ty nt hd ks nv kv kbs b).P us I w bs):Dc I w b 0 [.imm (.int .i64 (AI ty))]:=by
 obtain ⟨F,h,_⟩:=h;obtain ⟨t1,t2,t3,t4⟩:=ty;obtain ⟨f1,f2,f3,f4⟩:=hd;exact FV (off:=0) (EH h) λj d hd=>by match j,hd with | 0,hd=>exact hd | j+1,hd=>simp at hd
theorem PR (h:(CZ ty nt hd ks nv kv kbs b).P us I w bs):Dc I w b 4 ((Bl hd).map .imm):=by
 obtain ⟨F,h,_⟩:=h;obtain ⟨t1,t2,t3,t4⟩:=ty;obtain ⟨f1,f2,f3,f4⟩:=hd;exact FV (EH h) λj d hd=>by match j,hd with | 0,hd=>exact hd | 1,hd=>exact hd | 2,hd=>exact hd | j+3,hd=>simp [Bl] at hd
theorem NT (h:(CZ ty nt hd ks nv kv kbs b).P us I w bs):Dc I w b 4 [.imm (.int .i64 (AI hd))]:=by
 obtain ⟨F,h,_⟩:=h;obtain ⟨t1,t2,t3,t4⟩:=ty;obtain ⟨f1,f2,f3,f4⟩:=hd;exact FV (EH h) λj d hd=>by match j,hd with | 0,hd=>exact hd | j+1,hd=>simp at hd
theorem GM (h:(CZ ty nt hd ks nv kv kbs b).P us I w bs):Dc I w b 7 [.raw nv]:=by
 obtain ⟨F,h,_⟩:=h;obtain ⟨t1,t2,t3,t4⟩:=ty;obtain ⟨f1,f2,f3,f4⟩:=hd;exact FV (EH h) λj d hd=>by match j,hd with | 0,hd=>exact hd | j+1,hd=>simp at hd
theorem KH (h:(CZ ty nt hd ks nv kv kbs b).P us I w bs):Dc I w b 8 [.raw kv]:=by
 obtain ⟨F,h,_⟩:=h;obtain ⟨t1,t2,t3,t4⟩:=ty;obtain ⟨f1,f2,f3,f4⟩:=hd;exact FV (EH h) λj d hd=>by match j,hd with | 0,hd=>exact hd | j+1,hd=>simp at hd
theorem Db {b q:Nat} {cs:Array Value} (h:q≠b):(w.setRow b cs).heap[q]?=w.heap[q]?:=setRow_other w b q cs h
theorem LJ {nv kv:Value} {b:Nat} {F:List Nat} (h:(AT nv kv b++F).Nodup):(∀q∈nv.ownBlock.toList++kv.ownBlock.toList++F,q≠b):=by
 simp only [AT,List.cons_append,List.nodup_cons] at h;intro q hq e;subst e;exact h.1 (by simpa using hq)
theorem LL {off:Nat} {ds:List D} {nt':List Ty} {hd':Ty} {ks':List Mi} {nv' kv':Value} {kbs':List Nat} (hoff:off+ds.length<=9)
  (hcell:∀(I:Imm) (ts hs cs:List Value),RepVL I ts (dTyc ty)->RepVL I hs (Bl hd)->RepL I noMu cs ds->∃hs',(ts++hs++[nv,kv]).take off++cs++(ts++hs++[nv,kv]).drop (off+ds.length)=ts++hs'++[nv',kv']/\RepVL I hs' (Bl hd'))
  (hnot:∀I w,T5 I w nt nv->T5 I w nt' nv') (hrow:∀w,KJ w kbs kv->KJ w kbs' kv') (hkids:∀I w F,D9 I w ks kbs F->∃F',D9 I w ks' kbs' F'/\F'.Sublist F)
  (hn:nv'.ownBlock.toList.Sublist nv.ownBlock.toList) (hk:kv'.ownBlock.toList.Sublist kv.ownBlock.toList) :
  Nu (CZ ty nt hd ks nv kv kbs b) (CZ ty nt' hd' ks' nv' kv' kbs' b) b off ds:=by
 intro us I w bs ⟨Fk,⟨⟨vs,ts,hs,h1,h2,h3,h4⟩,h5,h6⟩,h7,h8,h9⟩;have hl:vs.toList.length=9:=by
  have:=h3.1;have:=h4.1;obtain ⟨t1,t2,t3,t4⟩:=ty;obtain ⟨f1,f2,f3,f4⟩:=hd;rw [h2];simp [dTyc,Bl] at *;omega
 have hvl:vs.size=9:=by simpa using hl
 refine ⟨h9 b (by simp [AT]),vs,_,h1,by omega,λcs hcs hone=>?_⟩;obtain ⟨hs',e1,e2⟩:=hcell I ts hs cs h3 h4 hcs;obtain ⟨F',g1,g2⟩:=hkids I w Fk h7;have hne:=LJ h8;have hsub:(AT nv' kv' b++F').Sublist (AT nv kv b++Fk):=by
  simp only [AT,List.cons_append];exact .cons_cons _ ((hn.append hk).append g2)
 have hnot':=hnot I w h5;have hrow':=hrow w h6;refine ⟨F',⟨⟨_,ts,hs',setRow_heap w b vs _ _ _ h1,by rw [List.toList_toArray,h2];exact e1,h3,e2⟩,⟨?_,hnot'.2⟩,?_⟩,?_,h8.sublist hsub,λq hq=>h9 q (hsub.subset hq)⟩
 ·obtain ⟨⟨xs,x1,x2⟩,_⟩:=hnot';exact ⟨xs,BX (λq hq=>Db (hne q (by simp only [List.mem_append];exact .inl (.inl (hn.subset hq))))) x1,x2⟩
 ·exact BX (λq hq=>Db (hne q (by simp only [List.mem_append];exact .inl (.inr (hk.subset hq))))) hrow'
 ·exact CC (λq hq=>Db (hne q (by simp only [List.mem_append];exact .inr (g2.subset hq)))) g1
theorem iF {cs:List Value} {xs:List V} (h:RepL I noMu cs (xs.map .imm)):RepVL I cs xs:=by
 refine ⟨by simpa using h.1,λi v x hv hx=>(h.2 i v (.imm x) hv (by simp [hx])).immInv⟩
theorem mU {ts hs cs:List Value} {nv kv:Value} (h1:ts.length=4) (h2:hs.length=3) (h3:cs.length=3):(ts++hs++[nv,kv]).take 4++cs++(ts++hs++[nv,kv]).drop (4+3)=ts++cs++[nv,kv]:=by
 match ts,h1 with
 | [a0,a1,a2,a3],_ =>
 match hs,h2 with
 | [a4,a5,a6],_=>simp
theorem Qr:(dTyc ty).length=4:=by obtain ⟨t1,t2,t3,t4⟩:=ty;rfl
theorem gI (h:Ty):Nu (CZ ty nt hd ks nv kv kbs b) (CZ ty nt h ks nv kv kbs b) b 4 ((Bl h).map .imm):=by
 refine LL (by simp) (λI ts hs cs h1 h2 h3=>⟨cs,?_,iF h3⟩) (λ_ _ h=>h) (λ_ h=>h) (λ_ _ F h=>⟨F,h,.refl _⟩) (.refl _) (.refl _);have e3:cs.length=3:=by have:=h3.1;simpa using this
 have:=mU (nv:=nv) (kv:=kv) (by rw [h1.1,Qr]) (by rw [h2.1];simp) e3;simpa using this
theorem gG:Nu (CZ ty nt hd ks nv kv kbs b) (CZ ty [] hd ks In kv kbs b) b 7 [.nils]:=by
 refine LL (by simp) (λI ts hs cs h1 h2 h3=>⟨hs,?_,h2⟩) (λI w _=>⟨⟨[],World.ownsRow_nil w 0 _ 3,.nil⟩,λ_=>rfl⟩) (λ_ h=>h) (λ_ _ F h=>⟨F,h,.refl _⟩) (by simp [In,Value.ownBlock]) (.refl _);have e1:ts.length=4:=by rw [h1.1,Qr]
 have e2:hs.length=3:=by rw [h2.1];simp
 have e3:=h3.1
 match ts,e1 with
 | [a0,a1,a2,a3],_ =>
 match hs,e2 with
 | [a4,a5,a6],_ =>
 match cs,e3,h3 with
 | [c],_,h3 =>
  have:c=In:=JT (h3.2 0 c _ rfl rfl);subst this;simp
theorem gH:Nu (CZ ty nt hd ks nv kv kbs b) (CZ ty nt hd [] nv In [] b) b 8 [.nils]:=by
 refine LL (by simp) (λI ts hs cs h1 h2 h3=>⟨hs,?_,h2⟩) (λ_ _ h=>h) (λw _=>World.ownsRow_nil w 0 _ 1) (λ_ _ F h=>⟨[],⟨rfl,rfl⟩,List.nil_sublist _⟩) (.refl _) (by simp [In,Value.ownBlock]);have e1:ts.length=4:=by rw [h1.1,Qr]
 have e2:hs.length=3:=by rw [h2.1];simp
 have e3:=h3.1
 match ts,e1 with
 | [a0,a1,a2,a3],_ =>
 match hs,e2 with
 | [a4,a5,a6],_ =>
 match cs,e3,h3 with
 | [c],_,h3 =>
  have:c=In:=JT (h3.2 0 c _ rfl rfl);subst this;simp
end
end Go.Hk
namespace Go.Hk
open Go.Proofs
section
variable {I J:Imm} {w w':World} {ty:Ty} {nt:List Ty} {hd:Ty} {ks:List Mi} {nv kv:Value} {kbs:List Nat} {b:Nat} {us:List Value} {bs:List Nat}
def aT (I:Imm) (w:World) (ty hd:Ty) (nv kv:Value) (b:Nat):Prop:=∃vs ts hs,w.heap[b]?=some (.cells vs 161 (0,0))/\vs.toList=ts++hs++[nv,kv]/\RepVL I ts (dTyc ty)/\RepVL I hs (Bl hd)
def bB (ty:Ty) (nt:List Ty) (hd:Ty) (ks:List Mi) (b:Nat):Asn where
 P us I w bs:=∃v nv kv kbs Fk,us=[v]/\aT I w ty hd nv kv b/\T5 I w nt nv/\KJ w kbs v/\D9 I w ks kbs Fk/\(AT nv v b++Fk).Nodup/\∀q∈AT nv v b++Fk,q∈bs
 mono:=λh ⟨v,nv,kv,kbs,Fk,h0,⟨vs,ts,hs,h1,h2,h3,h4⟩,⟨⟨xs,h5,h6⟩,h7⟩,h8,h9,h10⟩=>⟨v,nv,kv,kbs,Fk,h0,⟨vs,ts,hs,h1,h2,h3.mono h,h4.mono h⟩,⟨⟨xs,h5,h6.mono h⟩,h7⟩,h8,Ec h h9,h10⟩
 loc:=λh ⟨v,nv,kv,kbs,Fk,h0,⟨vs,ts,hs,h1,h2⟩,⟨⟨xs,h5,h6⟩,h7⟩,h8,h9,h10,h11⟩=>⟨v,nv,kv,kbs,Fk,h0,⟨vs,ts,hs,(h b (h11 b (by simp [AT]))).trans h1,h2⟩,
  ⟨⟨xs,BX (λq hq=>h q (h11 q (by simp only [AT,List.cons_append,List.mem_cons,List.mem_append];exact .inr (.inl (.inl hq))))) h5,h6⟩,h7⟩,BX (λq hq=>h q (h11 q (by simp only [AT,List.cons_append,List.mem_cons,List.mem_append];exact .inr (.inl (.inr hq))))) h8,
  CC (λq hq=>h q (h11 q (by simp [hq]))) h9,h10,h11⟩
theorem UN {e:TypeId} {sz:Nat} {base v':Value} {len:Nat} {xs news:List Value} (h:Vq w e sz base len xs news v' w') {q:Nat} (hq:q∈v'.ownBlock.toList):(q∈base.ownBlock.toList)\/w.heap.size<=q:=by
 have hq:v'.ownBlock=some q:=by simpa [Option.mem_toList] using hq
 rcases h.2.2 q hq with h | h
 ·exact .inl (by simp [h])
 ·exact .inr h
theorem aX {k:Mi} {bytes:Nat} (hb:bytes<=100000) (hl:ks.length<=100):mE (CZ ty nt hd ks nv kv kbs b) (lX 96 (DJ k)) (bB ty nt hd (ks++[k]) b) 96 1 bytes kv:=by
 intro us vs I w b1 b2 ⟨Fk,⟨hcell,hnot,hrow⟩,h2,h3,h4⟩ ⟨c,u,us2,bs',g1,g2,g3,g4,⟨kb,F,g5,g6,g7⟩,g8,g9⟩ hdis;subst g5;have hkb:kbs.length<=100:=by rw [Hv h2];exact hl
 have hu:u=ptr kb:=by simpa using g2.symm
 subst hu;refine ⟨kbs.length,1,1,kbs.map ptr,[ptr kb],⟨c,0,none⟩,hrow,λq hq=>h4 q (by simp [AT,hq]),by rw [g1];rfl,rfl,λj u hu=>?_,λu hu=>by simp at hu;subst hu;rfl,⟨by simp only [maxLen];omega,?_⟩,λv' w' hg=>?_⟩
 ·match j with
  | 0 =>
   simp at hu;subst hu;rw [D1];exact DA g3 0 _ (by simp)
  | j+1=>simp at hu
 ·have:(kbs.length+1)*bytes<=101*100000:=Nat.mul_le_mul (by omega) hb;omega
 have hb2:∀q∈F,q∈b2:=λq hq=>by rw [g9];exact List.mem_cons_of_mem _ (g7 q hq)
 have hne:∀q,q<w.heap.size->q∉kv.ownBlock.toList->w'.heap[q]?=w.heap[q]?:=λq hq hk=>hg.2.1.block q hq (λe=>hk (by simp [e]));have hbase:∀q∈kv.ownBlock.toList,q∈b1:=λq hq=>h4 q (by simp only [AT,List.cons_append,List.mem_cons,List.mem_append];exact .inr (.inl (.inr hq)));have hnod:=h3;simp only [AT,List.cons_append,List.append_assoc] at hnod;obtain ⟨n1,n2⟩:=List.nodup_cons.1 hnod;obtain ⟨n3,n4,n5⟩:=List.nodup_append.1 n2;obtain ⟨n6,n7,n8⟩:=List.nodup_append.1 n4;have hbk:b∉kv.ownBlock.toList:=λh=>n1 (by simp only [List.mem_append];exact .inr (.inl h));have hnk:∀q∈nv.ownBlock.toList,q∉kv.ownBlock.toList:=λq hq hk=>n5 q hq q (by simp only [List.mem_append];exact .inl hk) rfl
 have hFk:∀q∈Fk,q∉kv.ownBlock.toList:=λq hq hk=>n8 q hk q hq rfl;have hltn:=UQ (I:=I) (w:=w) (ty:=ty) (nt:=nt) (hd:=hd) (nv:=nv) (kv:=kv) (kbs:=kbs) (b:=b) ⟨hcell,hnot,hrow⟩;have hltb:b<w.heap.size:=hltn b (by simp [AT]);have hltnv:∀q∈nv.ownBlock.toList,q<w.heap.size:=λq hq=>hltn q (by simp only [AT,List.mem_cons,List.mem_append];exact .inr (.inl hq));have hltF:=PT h2;have hltG:=ZU g6;have hFb:∀q∈F,q∉kv.ownBlock.toList:=λq hq hk=>hdis q (hbase q hk) (hb2 q hq);refine ⟨AT nv v' b++(Fk++F),λq hq=>?_,v',nv,kv,kbs++[kb],Fk++F,rfl,?_,?_,?_,?_,?_,λq hq=>hq⟩
 ·simp only [AT,List.cons_append,List.mem_cons,List.mem_append] at hq;have hw:q∈b1\/q∈b2\/(w.heap.size<=q/\q∈v'.ownBlock.toList):=by
   rcases hq with rfl | (hq | hq) | hq | hq
   ·exact .inl (h4 q (by simp [AT]))
   ·exact .inl (h4 q (by simp only [AT,List.cons_append,List.mem_cons,List.mem_append];exact .inr (.inl (.inl hq))))
   ·rcases UN hg hq with h | h
    ·exact .inl (hbase q h)
    ·exact .inr (.inr ⟨h,hq⟩)
   ·exact .inl (h4 q (by simp [hq]))
   ·exact .inr (.inl (hb2 q hq))
  rcases hw with h | h | ⟨h,hq⟩
  ·exact .inl (.inl h)
  ·exact .inl (.inr h)
  ·exact .inr ⟨h,QK hg.1 hq⟩
 ·obtain ⟨vs0,ts,hs,c1,c2⟩:=hcell;exact ⟨vs0,ts,hs,(hne b hltb hbk).trans c1,c2⟩
 ·obtain ⟨⟨xs,x1,x2⟩,x3⟩:=hnot;exact ⟨⟨xs,BX (λq hq=>hne q (hltnv q hq) (hnk q hq)) x1,x2⟩,x3⟩
 ·have:=hg.1;simp only [KJ,List.map_append,List.length_append,List.length_cons,List.length_nil,List.map_cons,List.map_nil];exact this
 ·exact Lp (CC (λq hq=>hne q (hltF q hq) (hFk q hq)) h2) ⟨kb,[],F,[],rfl,Ht (λq hq=>hne q (hltG q hq) (hFb q hq)) g6,⟨rfl,rfl⟩,by simp⟩
 ·have hv1:∀q∈v'.ownBlock.toList,q∈kv.ownBlock.toList\/w.heap.size<=q:=λq hq=>UN hg hq;have hvn:v'.ownBlock.toList.Nodup:=by cases v'.ownBlock <;> simp
  simp only [AT,List.cons_append,List.append_assoc];refine List.nodup_cons.2 ⟨λh=>?_,List.nodup_append.2 ⟨n3,List.nodup_append.2 ⟨hvn,List.nodup_append.2 ⟨n7,Jp g6,λx hx y hy e=>?_⟩,λx hx y hy e=>?_⟩,λx hx y hy e=>?_⟩⟩
  ·simp only [List.mem_append] at h;rcases h with h | h | h | h
   ·exact n1 (by simp only [List.mem_append];exact .inl h)
   ·rcases hv1 b h with h | h
    ·exact hbk h
    ·omega
   ·exact n1 (by simp only [List.mem_append];exact .inr (.inr h))
   ·exact hdis b (h4 b (by simp [AT])) (hb2 b h)
  ·subst e;exact hdis x (h4 x (by simp [hx])) (hb2 x hy)
  ·subst e;rcases List.mem_append.1 hy with hy | hy
   ·rcases hv1 x hx with h | h
    ·exact hFk x hy h
    ·have:=hltF x hy;omega
   ·rcases hv1 x hx with h | h
    ·exact hFb x hy h
    ·have:=hltG x hy;omega
  ·subst e;have hxb1:x∈b1:=h4 x (by simp only [AT,List.cons_append,List.mem_cons,List.mem_append];exact .inr (.inl (.inl hx)));simp only [List.mem_append] at hy;rcases hy with hy | hy | hy
   ·rcases hv1 x hy with h | h
    ·exact hnk x hx h
    ·have:=hltnv x hx;omega
   ·exact n5 x hx x (by simp only [List.mem_append];exact .inr hy) rfl
   ·exact hdis x hxb1 (hb2 x hy)
theorem ZR {vs:List Value} (h:(CZ ty nt hd ks nv kv kbs b).P us I w bs):(CZ ty nt hd ks nv kv kbs b).P vs I w bs:=h
theorem VW:Sf (bB ty nt hd ks b) (AR (.mk ty nt hd ks) b) b 8 0:=by
 intro us I w bs ⟨v,nv,kv,kbs,Fk,h0,⟨vs,ts,hs,h1,h2,h3,h4⟩,h5,h6,h7,h8,h9⟩;have e1:ts.length=4:=by rw [h3.1,Qr]
 have e2:hs.length=3:=by rw [h4.1];simp
 have hl:vs.toList.length=9:=by rw [h2];simp [e1,e2]
 refine ⟨h9 b (by simp [AT]),vs,_,h1,by simp at hl;omega,λu hu h1u=>?_⟩;subst h0;have hu:v=u:=by simpa using hu
 subst hu;have hne:=LJ h8;refine ⟨AT nv v b++Fk,⟨nv,v,kbs,Fk,⟨⟨_,ts,hs,setRow_heap w b vs _ _ _ h1,?_,h3,h4⟩,⟨?_,h5.2⟩,?_⟩,?_,rfl,h8⟩,h9⟩
 ·rw [List.toList_toArray,h2]
  match ts,e1 with
  | [a0,a1,a2,a3],_ =>
  match hs,e2 with
  | [a4,a5,a6],_=>simp
 ·obtain ⟨⟨xs,x1,x2⟩,_⟩:=h5;exact ⟨xs,BX (λq hq=>Db (hne q (by simp only [List.mem_append];exact .inl (.inl hq)))) x1,x2⟩
 ·exact BX (λq hq=>Db (hne q (by simp only [List.mem_append];exact .inl (.inr hq)))) h6
 ·exact CC (λq hq=>Db (hne q (by simp only [List.mem_append];exact .inr hq))) h7
end
theorem YV (c:Cse) (sz:List (List V)) (m:Mi) (h:Ty) (b:Nat) (ho:OkW c.datas) (hn:AK c.datas m.ty=true) :
  Bg Tryz.prog 138 [.imm (AE c sz),.raw (ptr b),.imm (.agg (Bl h))] [(1,some (.hp (AR m b)))] (.ret HE [(2,some (.hp (AR (Bm c.datas m h) b)))]):=by
 have hA:=Qf c sz m.ty (CH h) ho.dif hn;have hlen:=EY ho m.ty (CH h);simp only [Bm];generalize AW c.datas m.ty (CH h)=L at *;obtain ⟨L,lb⟩:=L;simp only at hA hlen ⊢;obtain ⟨⟨so,n,x,ps⟩,nt,⟨f,hd2,hd3,hd4⟩,ks⟩:=m;obtain ⟨h1,h2,h3,h4⟩:=h;simp only [Mi.ty] at *;refine Af Al Tryz.func138 (by decide +kernel) rfl [2,3,4,5,6,7,8] rfl rfl ?_;refine KT 1 2 (λy:Value×Value×List Nat=>CZ _ nt _ ks y.1 y.2.1 y.2.2 b) rfl (λvs I w bs h=>let ⟨y,hy⟩:=KF h;⟨y,bs,λq hq=>hq,ZR hy⟩) λy=>?_;obtain ⟨nv,kv,kbs⟩:=y;refine Aq rfl ?_;refine R1 Al 2 _ rfl rfl (gI (.mk h1 h2 h3 h4)) ?_;refine Ao rfl ?_;refine R1 Al 2 _ rfl rfl gG ?_;refine Ao rfl ?_;refine R1 Al 2 _ rfl rfl gH ?_;refine Ao rfl ?_
 refine Bz Al 2 ((dTyc (.mk so n x ps)).map .imm) rfl rfl (λ_ vs I w bs h=>Jr h) rfl rfl (by simp [An]) ?_;refine Dm rfl ?_;refine AN rfl hA ?_;refine mg [] rfl (by simp [An];rfl) ?_;have el:∀i t,L[i]?=some t->(L.take (i+1)).map As=(L.take i).map As++[As t]:=λi t ht=>by rw [Bn ht,List.map_append];rfl
 refine Ca 2 (λ_:Unit=>AR (.mk (.mk so n x ps) [] (.mk h1 h2 h3 h4) []) b) rfl (λvs I w bs h=>⟨(),KG h⟩) λ_=>?_;refine Am (λi:Nat=>[(33,.imm (.int .i64 i)),(32,.imm (.int .i64 L.length)),(31,.imm (.sl (BQ L))),(1,.raw (ptr b)),(0,.imm (AE c sz))])
  (λi=>[(2,some (.hp (AR (.mk (.mk so n x ps) [] (.mk h1 h2 h3 h4) ((L.take i).map As)) b)))]) [4,5,6,7,8] (λi=>L.length-i)
  (λi=>i<=L.length) 0 (Nat.zero_le _) ⟨rfl,A3 (by simp),rfl,rfl,rfl,trivial⟩ ⟨rfl,trivial⟩ rfl λi hi ih=>?_
 refine Aq rfl ?_;refine Ab rfl (λh=>?_) (λh=>?_)
 ·simp at h;obtain ⟨t,ht⟩:=Ap h;have hih:=ih (i+1) (by omega) (by omega);rw [el i t ht] at hih;have hkl:((L.take i).map As).length<=100:=by simp;omega
  generalize (L.take i).map As=K at *;refine Ca 2 (λy:Value×Value×List Nat=>CZ (.mk so n x ps) [] (.mk h1 h2 h3 h4) K y.1 y.2.1 y.2.2 b) rfl (λvs I w bs h=>KF h) λy=>?_;obtain ⟨nv,kv,kbs⟩:=y;refine Aq rfl ?_;refine mi rfl (c:=dTyc t) (λ_=>⟨by simp,by simpa using A5 ht,by simp⟩) (by simp) ?_;obtain ⟨t1,t2,t3,t4⟩:=t;refine Ao rfl ?_;refine Bz Al 2 [.raw kv] rfl rfl (λ_ vs I w bs h=>KH h) rfl rfl (by simp [An]) ?_;refine Dm rfl ?_;refine B6 [] [(2,5)] [] (fr:=[5]) (nm:=[5]) rfl trivial (by simp) (Fs (AE c sz) (.mk t1 t2 t3 t4)) trivial rfl trivial rfl rfl rfl ?_;refine Ao rfl ?_;refine kH Al 5 6 rfl rfl ?_;refine Ao rfl ?_
  refine kJ Al 2 6 7 (bB (.mk so n x ps) [] (.mk h1 h2 h3 h4) (K++[As (.mk t1 t2 t3 t4)]) b) rfl rfl rfl (by decide) (aX (bytes:=8) (by decide) hkl) ?_;refine Ao rfl ?_;refine KN Al 7 _ rfl rfl VW ?_;refine mg [] rfl (by simp [An];rfl) ?_;refine AG 2 7 rfl ?_;exact Ae hih ⟨A3 (BI (by omega) (by omega)),rfl,rfl,rfl,rfl,trivial⟩ ⟨rfl,trivial⟩ rfl
 ·simp at h;refine Ay rfl ?_;rw [List.take_of_length_le (by omega)];exact C8 ⟨_,rfl,rfl,rfl,trivial⟩
end Go.Hk
