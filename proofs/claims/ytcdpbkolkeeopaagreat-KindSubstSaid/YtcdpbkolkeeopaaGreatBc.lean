/- Contracts of hearthref01: the names that are free in a term (Free). (And what it stands on.) -/
import Derived.Test.YtcdpbkolkeeopaaGreatBb
import Derived.WalkKit
set_option linter.all false
set_option maxRecDepth 100000
set_option maxHeartbeats 4000000
namespace Go.Hk
open Go.Proofs.Tryz
open Go.Proofs
open Go.MapKept
variable {ob:T0} {st au bk a7 s:St} {aa F Kr:K1} {q todo k:S6} {n t sz i B b j A j2 off:Nat} {Q:DQ} {env u E:Env} {g:Option (Bool×Bool)} {es:L1 (G2)} {e:TypeId} {c xs:G2} {P:Program} {I:TA} {μ:Mu} {d:D} {w w':World} {L:TT} {v z:Value} {Pn:V->Prop} {S S' S2:jo} {f:FuncId} {m:Int} {a:Act} {U:Prop} {d0:g6} {α β:Type} {o:Oper} {x:V} {t1 t2: TypeId} {C J: Nat} {K R M: G2} {hU l:R1} {r:Bool} {y:L1 UInt8}
def GP {f:α->β} {l:L1 α} {t:α} (h:l[i]?=some t):(l.map f)[i]?=some (f t):=by simp[h]
@[simp] theorem rf (c:Cd):(Gv c).length=2:=rfl
@[simp] theorem rh (c:Dt):(DE c).length=2:=rfl
@[simp] theorem rj (m:Md):(dMdc m).length=3:=rfl
@[simp] theorem rk (c:Fd):(Ed c).length=15:=by simp[Ed]
def Rr (c:Cd):Bool:=Gc c.name&&decide ((c.args.length:Int)<=3)&&c.args.all FF
def KB (d:Dt):Bool:=Gc d.name&&EK d.cons.length 1 5&&d.cons.all Rr
def Gn (c:Cd):Bool:=decide ((c.name.length:Int)<=30)&&decide ((c.args.length:Int)<=6)&&c.args.all C0
def Fr (d:Dt):Bool:=decide ((d.name.length:Int)<=30)&&decide ((d.cons.length:Int)<=8)&&d.cons.all Gn
def S8 (f:Fd):Bool:=BW f.name&&BW f.il&&FF f.from_&&FF f.kj&&Cy f.body
def E7 (m:Md):Bool:=BW m.name&&decide ((m.SA.length:Int)<=4)&&EK m.cc.length 1 5&&m.SA.all KB&&m.cc.all S8
def Gm (f:Fd):Bool:=decide ((f.name.length:Int)<=30)&&decide ((f.il.length:Int)<=30)&&C0 f.from_&&C0 f.kj&&Fq f.body
def Dk (m:Md):Bool:=decide ((m.name.length:Int)<=30)&&decide ((m.SA.length:Int)<=6)&&decide ((m.cc.length:Int)<=8)&&m.SA.all Fr&&m.cc.all Gm
def zl1 (d:Dt):ca 84 [.agg<|DE d]<|.bool<|KB d:=by obtain⟨u,p⟩:=d;refine BJ λJ=>?_;simp[DF,GA,DE,maxLen]at J;refine Ae Br func84 O [1,2,3]<|AU O<|Ac O (NU u)<|AU O<|CL O (v:=.bool<|EK p.length 1 5) (λ_=>by have:=QV p.length 1 5;simpa using this) (by simp[A1])<|AU O<|Aa O (λh=>?_) λh=>?_;{refine Bk O<|Ab O O (af _ ?_);simp at h;simp[KB];grind};have K:(Gc u&&EK p.length 1 5)=true:=by{simp at h ⊢;grind};clear h;refine Bk O<|Ak (λi:Nat=>[(3,i7 i),(1,.ref 1 0)]) (λ_=>[(1,some<|.NA 113 2<|DE ⟨u,p⟩)]) [2,3] (λi=>p.length-i) (λi=>i<=p.length/\p.all Rr=(p.drop i).all Rr) 0 ⟨AK _,rfl⟩ AL AD O λi B L=>?_;refine Bk O<|Aa O (λh=>?_) λh=>?_;{simp at h;let⟨c,C⟩:=Aq h;have e:=B.2;rw[Av C]at e;refine Bk O<|Ym O (GP C) ?_;obtain⟨q,ag⟩:=c;refine AU O<|Ac O (NU q)<|AU O<|Aa O (λh=>?_) λh=>?_;{refine Bk O<|Ab O O (af _ ?_);simp at h;have:Rr ⟨q,ag⟩=false:=by{simp[Rr];grind};simp[KB,e,this]};have D:(Gc q&&decide ((ag.length:Int)<=3))=true:=by{simp at h ⊢;grind};have M:ag.length<=6:=by{simp at D;omega};clear h;refine Bk O<|Ak (λj:Nat=>[(5,i7 j),(4,.ref 2 0),(3,i7 i),(1,.ref 1 0)]) (λ_=>[(2,some<|.NA 178 2<|Gv ⟨q,ag⟩),(1,some<|.NA 113 2<|DE ⟨u,p⟩)]) [3] (λj=>ag.length-j) (λj=>j<=ag.length/\ag.all FF=(ag.drop j).all FF) 0 ⟨AK _,rfl⟩ B9 AL O λj G y=>?_;refine Bk O<|Aa O (λh=>?_) λh=>?_;simp at h;let⟨t,H⟩:=Aq h;have A:=G.2;rw[Av H]at A;refine Bk O<|Ym O (AS H)<|AU O<|Ac O (R3 t)<|AU O<|Aa O (λh=>?_) λh=>?_;refine Bk O<|Ab O O (af _ ?_);simp at h;have:Rr ⟨q,ag⟩=false:=by{simp only[Rr];rw[A];simp[h]};simp[KB,e,this];refine Bk O ?_;simp at h;exact Ad (y (j+1) (by omega) ⟨by omega,by rw[A];simp[h]⟩) ⟨Bc,AB⟩ AL O;simp at h;refine Bk O ?_;have:Rr ⟨q,ag⟩=true:=by{simp only[Rr];rw[G.2,Bt<|by omega];simpa using D};exact Ad (L (i+1) (by omega) ⟨by omega,by rw[e];simp[this]⟩) ⟨Bc,AD⟩ AD O};refine Bk O<|Ab O O (af _ ?_);simp at h;simp only[KB];rw[B.2,Bt<|by omega];simpa using K.symm
def bT (d:Dt):ca 67 [.agg<|DE d]<|.bool<|Fr d:=by obtain⟨u,p⟩:=d;refine BJ λJ=>?_;simp[DF,GA,DE,maxLen]at J;refine Ae Br func67 O [1,2,3]<|AU O<|Aa O (λh=>?_) λh=>?_;{refine Bk O<|Ab O O (af _ ?_);simp at h;simp[Fr];grind};have K:(decide ((u.length:Int)<=30)&&decide ((p.length:Int)<=8))=true:=by{simp at h ⊢;grind};clear h;refine Bk O<|Ak (λi:Nat=>[(3,i7 i),(1,.ref 1 0)]) (λ_=>[(1,some<|.NA 113 2<|DE ⟨u,p⟩)]) [2,3] (λi=>p.length-i) (λi=>i<=p.length/\p.all Gn=(p.drop i).all Gn) 0 ⟨AK _,rfl⟩ AL AD O λi B L=>?_;refine Bk O<|Aa O (λh=>?_) λh=>?_;{simp at h;let⟨c,C⟩:=Aq h;have e:=B.2;rw[Av C]at e;refine Bk O<|Ym O (GP C) ?_;obtain⟨q,ag⟩:=c;refine AU O<|Aa O (λh=>?_) λh=>?_;{refine Bk O<|Ab O O (af _ ?_);simp at h;have:Gn ⟨q,ag⟩=false:=by{simp[Gn];grind};simp[Fr,e,this]};have D:(decide ((q.length:Int)<=30)&&decide ((ag.length:Int)<=6))=true:=by{simp at h ⊢;grind};have M:ag.length<=6:=by{simp at D;omega};clear h;refine Bk O<|Ak (λj:Nat=>[(5,i7 j),(4,.ref 2 0),(3,i7 i),(1,.ref 1 0)]) (λ_=>[(2,some<|.NA 178 2<|Gv ⟨q,ag⟩),(1,some<|.NA 113 2<|DE ⟨u,p⟩)]) [3] (λj=>ag.length-j) (λj=>j<=ag.length/\ag.all C0=(ag.drop j).all C0) 0 ⟨AK _,rfl⟩ B9 AL O λj G y=>?_;refine Bk O<|Aa O (λh=>?_) λh=>?_;simp at h;let⟨t,H⟩:=Aq h;have A:=G.2;rw[Av H]at A;refine Bk O<|Ym O (AS H)<|AU O<|Ac O (Jv t)<|AU O<|Aa O (λh=>?_) λh=>?_;refine Bk O<|Ab O O (af _ ?_);simp at h;have:Gn ⟨q,ag⟩=false:=by{simp only[Gn];rw[A];simp[h]};simp[Fr,e,this];refine Bk O ?_;simp at h;exact Ad (y (j+1) (by omega) ⟨by omega,by rw[A];simp[h]⟩) ⟨Bc,AB⟩ AL O;simp at h;refine Bk O ?_;have:Gn ⟨q,ag⟩=true:=by{simp only[Gn];rw[G.2,Bt<|by omega];simpa using D};exact Ad (L (i+1) (by omega) ⟨by omega,by rw[e];simp[this]⟩) ⟨Bc,AD⟩ AD O};refine Bk O<|Ab O O (af _ ?_);simp at h;simp only[Fr];rw[B.2,Bt<|by omega];simpa using K.symm
def aZ (m:Md):ca 27 [.agg<|dMdc m]<|.bool<|E7 m:=by obtain⟨D,q,p⟩:=m;refine BJ λd=>?_;simp[DF,GA,dMdc,maxLen]at d;refine Ae Br func27 O [1,2,3]<|AU O<|Ac O (I4 D)<|AU O<|CL O (v:=.bool<|EK p.length 1 5) (λ_=>by have:=QV p.length 1 5;simpa using this) (by simp[A1])<|AU O<|Aa O (λh=>?_) λh=>?_;{refine Bk O<|Ab O O (af _ ?_);simp at h;simp[E7];grind};have f:(BW D&&decide ((q.length:Int)<=4)&&EK p.length 1 5)=true:=by{simp at h ⊢;grind};clear h;refine Bk O<|Ak (λi:Nat=>[(3,i7 i),(1,.ref 1 0)]) (λ_=>[(1,some<|.NA 43 3<|dMdc ⟨D,q,p⟩)]) [2,3] (λi=>q.length-i) (λi=>i<=q.length/\q.all KB=(q.drop i).all KB) 0 ⟨AK _,rfl⟩ AL AD O λi A G=>?_;refine Bk O<|Aa O (λh=>?_) λh=>?_;simp at h;let⟨c,B⟩:=Aq h;have e:=A.2;rw[Av B]at e;refine Bk O<|Ym O (GP B)<|AU O<|Ac O (zl1 c)<|AU O<|Aa O (λh=>?_) λh=>?_;refine Bk O<|Ab O O (af _ ?_);simp at h;simp[E7,e,h];refine Bk O ?_;simp at h;exact Ad (G (i+1) (by omega) ⟨by omega,by rw[e];simp[h]⟩) ⟨Bc,AD⟩ AD O;simp at h;have H:q.all KB=true:=by{rw[A.2,Bt<|by omega];rfl};clear G A h;refine Bk O<|Ak (λi:Nat=>[(4,i7 i),(1,.ref 1 0)]) (λ_=>[(1,some<|.NA 43 3<|dMdc ⟨D,q,p⟩)]) [2,3] (λi=>p.length-i) (λi=>i<=p.length/\p.all S8=(p.drop i).all S8) 0 ⟨AK _,rfl⟩ AL AD O λi A G=>?_;refine Bk O<|Aa O (λh=>?_) λh=>?_;{simp at h;let⟨c,B⟩:=Aq h;have e:=A.2;rw[Av B]at e;refine Bk O<|Ym O (GP B) ?_;obtain⟨u,y,⟨C,L,K,N⟩,⟨J,R,M,T⟩,⟨U,V,W,a,b⟩⟩:=c;refine AU O<|Al O (I4 u)<|AU O<|Al O (I4 y)<|AU O<|Al O (R3<|.mk C L K N)<|AU O<|Al O (R3<|.mk J R M T)<|AU O<|Al O (UX<|.mk U V W a b)<|AU O<|Aa O (λh=>?_) λh=>?_;{refine Bk O<|Ab O O (af _ ?_);simp at h;have:S8 ⟨u,y,.mk C L K N,.mk J R M T,.mk U V W a b⟩=false:=by{simp[S8];grind};simp[E7,e,this]};{refine Bk O ?_;simp at h;have:S8 ⟨u,y,.mk C L K N,.mk J R M T,.mk U V W a b⟩=true:=by{simp[S8];grind};exact Ad (G (i+1) (by omega) ⟨by omega,by rw[e];simp[this]⟩) ⟨Bc,AD⟩ AD O}};refine Bk O<|Ab O O (af _ ?_);simp at h;simp only[E7];rw[H,A.2,Bt<|by omega];simpa using f.symm
def XK (m:Md):ca 23 [.agg<|dMdc m]<|.bool<|Dk m:=by obtain⟨G,p,q⟩:=m;refine BJ λd=>?_;simp[DF,GA,dMdc,maxLen]at d;refine Ae Br func23 O [1,2,3]<|AU O<|Aa O (λh=>?_) λh=>?_;{refine Bk O<|Ab O O (af _ ?_);simp at h;simp[Dk];grind};have f:(decide ((G.length:Int)<=30)&&decide ((p.length:Int)<=6)&&decide ((q.length:Int)<=8))=true:=by{simp at h ⊢;grind};clear h;refine Bk O<|Ak (λi:Nat=>[(3,i7 i),(1,.ref 1 0)]) (λ_=>[(1,some<|.NA 43 3<|dMdc ⟨G,p,q⟩)]) [2,3] (λi=>p.length-i) (λi=>i<=p.length/\p.all Fr=(p.drop i).all Fr) 0 ⟨AK _,rfl⟩ AL AD O λi u D=>?_;refine Bk O<|Aa O (λh=>?_) λh=>?_;simp at h;let⟨c,y⟩:=Aq h;have e:=u.2;rw[Av y]at e;refine Bk O<|Ym O (GP y)<|AU O<|Ac O (bT c)<|AU O<|Aa O (λh=>?_) λh=>?_;refine Bk O<|Ab O O (af _ ?_);simp at h;simp[Dk,e,h];refine Bk O ?_;simp at h;exact Ad (D (i+1) (by omega) ⟨by omega,by rw[e];simp[h]⟩) ⟨Bc,AD⟩ AD O;simp at h;have H:p.all Fr=true:=by{rw[u.2,Bt<|by omega];rfl};clear D u h;refine Bk O<|Ak (λi:Nat=>[(4,i7 i),(1,.ref 1 0)]) (λ_=>[(1,some<|.NA 43 3<|dMdc ⟨G,p,q⟩)]) [2,3] (λi=>q.length-i) (λi=>i<=q.length/\q.all Gm=(q.drop i).all Gm) 0 ⟨AK _,rfl⟩ AL AD O λi u D=>?_;refine Bk O<|Aa O (λh=>?_) λh=>?_;{simp at h;let⟨c,y⟩:=Aq h;have e:=u.2;rw[Av y]at e;refine Bk O<|Ym O (GP y) ?_;obtain⟨A,B,⟨C,L,K,N⟩,⟨J,R,M,T⟩,⟨U,V,W,a,b⟩⟩:=c;refine AU O<|Al O (Jv<|.mk C L K N)<|AU O<|Al O (Jv<|.mk J R M T)<|AU O<|Al O (Mx<|.mk U V W a b)<|AU O<|Aa O (λh=>?_) λh=>?_;{refine Bk O<|Ab O O (af _ ?_);simp at h;have:Gm ⟨A,B,.mk C L K N,.mk J R M T,.mk U V W a b⟩=false:=by{simp[Gm];grind};simp[Dk,e,this]};{refine Bk O ?_;simp at h;have:Gm ⟨A,B,.mk C L K N,.mk J R M T,.mk U V W a b⟩=true:=by{simp[Gm];grind};exact Ad (D (i+1) (by omega) ⟨by omega,by rw[e];simp[this]⟩) ⟨Bc,AD⟩ AD O}};refine Bk O<|Ab O O (af _ ?_);simp at h;simp only[Dk];rw[H,u.2,Bt<|by omega];simpa using f.symm
def O8 (P:Program) (f:FuncId) (t p:TypeId):Prop:=∀(g:FuncId) (u y:Array Value) (w:World) (K A:World->Prop),
 (callFunc g<|u++y).run P (w.alloc<|.cells #[.bool false] p)=.ok (.enter g<|u++y) (w.alloc<|.cells #[.bool false] p) ->
 Calls P g (u++y) (w.alloc<|.cells #[.bool false] p) (λe w'=>match e with
  |.returned _=>K w'
  |.panicked h=>h=[{ v:=.iface t<|.agg #[],recovered:=false }]/\A w'
  |.outgrown=>False) ->
 (∀w',K w'->w'.heap[w.heap.size]?=some (.cells #[.bool false] p (0,0)))->(∀w',A w'->w'.heap[w.heap.size]?=some (.cells #[.bool false] p (0,0))) ->
 Calls P f #[.func (.func g) u y] w λe w'=>(e=.returned (.bool true)/\∃q,K q/\w'=q.setCell ⟨w.heap.size,0,none⟩ (.bool true)) \/
  (e=.returned (.bool false)/\∃q,A q/\w'=(q.setCell ⟨w.heap.size,0,none⟩<|.bool false).alloc (.cells #[] t))
def FD {x:Value} {t:TypeId} (h:w.heap[b]?=some (.cells #[x] t (0,0))):w.setCell ⟨b,0,none⟩ v={ w with heap:=w.heap.setIfInBounds b (.cells #[v] t (0,0)) }:=by have:∀(A:Array Obj) (f:Obj->Obj),A[b]?=some (.cells #[x] t (0,0))->A.modify b f=A.setIfInBounds b (f<|.cells #[x] t (0,0)):=by{intro A f q;apply qR;intro i;rw[dE,Array.getElem?_setIfInBounds];by_cases p:b=i;subst p;rw[ae O,ae O,q];simp[(Ht.1 q).1];rw[ac p,ac p]};unfold World.setCell;rw[this _ _ h];rfl
def F3 (p:No I μ st aa w) (h:Ba μ st b):b<w.heap.size:=by obtain⟨id,q,g,u,y,A⟩:=h;exact(p.apart id q g b u y A).2
def No.other (p:No I μ st aa w) (B:w.heap.size<=w'.heap.size) (C:∀b o,I b=some o->w'.heap[b]?=w.heap[b]?) (D:∀b,Ba μ st b->w'.heap[b]?=w.heap[b]?):No I μ st aa w':={Kp:=λb o h=>(C b o h).trans<|p.Kp b o h,SB:=λid SB y=>let⟨g,q,u⟩:=p.SB id SB y;⟨g,q,u.world λb G=>D b ⟨id,SB,g,y,q,G⟩⟩,apart:=λid SB g b q u A=>⟨(p.apart id SB g b q u A).1,Yj (p.apart id SB g b q u A).2 B⟩,inj:=p.inj,nodup:=p.nodup,PA:=p.PA }
def X.fnD {f:Fn} {df dc:R1} (h:X I μ v<|.fn f df dc):∃first cap:Array Value,v=.func f first cap/\TB I μ (first++cap).toList (df++dc):=by cases h with|fn _ first cap _ _ y A B C=>{refine⟨first,cap,rfl,?_⟩;rw[Nl];refine⟨by simp[y,A],λi v d p q=>?_⟩;rw[PH]at p q;have G:first.toList.length=df.length:=by{simpa using y};rw[G]at p;split at p;rename_i u;rw[ae u]at q;exact B i v d (by simpa using p) q;rename_i u;rw[ac u]at q;exact C _ v d (by simpa using p) q}
section
variable {g:FuncId} {t p:TypeId} {fn H:Func} {T N:Code} {df dc:R1}
def WS {xs:Array Value} (p:TB I μ xs.toList [.fn (.func g) df dc]):∃first cap:Array Value,xs = #[.func (.func g) first cap]/\TB I μ (first++cap).toList (df++dc):=by obtain⟨l,rfl⟩:∃l:R0,xs=l.toArray:=⟨xs.toList,by simp⟩;rw[QG]at p;match l,p with|[v],p=>{obtain⟨first,cap,rfl,h⟩:=(p.2 0 v _ rfl rfl).fnD;exact⟨first,cap,rfl,h⟩}|[],p=>exact absurd p.1 (by simp)|_::_::_,p=>{exact absurd p.1 (by simp)}
def Lu (Q:P.funcs[f]? = some fn) (S:(fn.name=="runtime.NumGoroutine")=false) (R:fn.body=some T) (hs:O8 P f t p)
  (hg:P.funcs[g]? = some H) (k:(H.name=="runtime.NumGoroutine")=false) (l:H.body=some N) (hE:GL P g (df++dc) bk (.ret d a7)):GL P f [.fn (.func g) df dc] bk (.ret (.Kp (.bool true)) a7):=by
 intro I μ w xs J m;obtain⟨first,K,rfl,n⟩:=WS m;rw[cn Q S R];have B:(w.alloc (.cells #[.bool false] p)).heap=w.heap.push (.cells #[.bool false] p (0,0)):=rfl;have C:∀r,r<w.heap.size->(w.alloc (.cells #[.bool false] p)).heap[r]?=w.heap[r]?:=λr hr=>by rw[B];simp[Wx,Nat.ne_of_lt hr]
 have U:(w.alloc (.cells #[.bool false] p)).heap[w.heap.size]?=some (.cells #[.bool false] p (0,0)):=by rw[B];simp
 have s:(w.alloc (.cells #[.bool false] p)).heap.size=w.heap.size+1:=by rw[B];simp
 have a:∀b o,I b=some o->b<w.heap.size:=λb o h=>(Ht.1 (J.Kp b o h)).1;have c:No I μ bk [] (w.alloc (.cells #[.bool false] p)):=J.other (by omega) (λb o h=>C b (a b o h)) (λb h=>C b (F3 J h));have V:¬Ba μ bk w.heap.size:=λh=>absurd (F3 J h) (dD _);have v:I w.heap.size=none:=by
  cases h:I w.heap.size with
  |none=>rfl
  |some o=>exact absurd (a _ o h) (dD _)
 have y:=hE I μ _ (first++K) c n;have L:=cn (w:=w.alloc (.cells #[.bool false] p)) hg k l (first++K);rw[L]at y;have y:Calls P g (first++K) (w.alloc (.cells #[.bool false] p)) (λe w'=>match e with
  |.returned u=>∃A q,X A q u d/\No A q a7 [] w'/\l4 (CB bk) μ q/\fi I μ bk (w.alloc (.cells #[.bool false] p)) A q a7 w'
  |.panicked _=>False
  |.outgrown=>False):=y
 have M:∀w' A q,fi I μ bk (w.alloc (.cells #[.bool false] p)) A q a7 w'->w'.heap[w.heap.size]?=some (.cells #[.bool false] p (0,0)):=λw' A q W=>(W.block _ (by omega) V).trans U;show Calls P f _ w _;refine bc (hs g first K w (λw'=>∃A q,No A q a7 [] w'/\l4 (CB bk) μ q/\fi I μ bk (w.alloc (.cells #[.bool false] p)) A q a7 w') (λ_=>False) L (bc y ?_) (λw' ⟨A,q,_,_,W⟩=>M w' A q W) (λ_ h=>h.elim)) ?_
 ·intro e w' W;cases e with
  |returned u=>obtain⟨A,q,_,x,z,G⟩:=W;exact⟨A,q,x,z,G⟩
  |panicked=>exact W.elim
  |outgrown=>exact W.elim
 ·rintro e w2 (⟨rfl,E,⟨A,q,x,z,G⟩,rfl⟩|⟨_,_,n,_⟩)
  ·have hc:=M E A q G;rw[FD hc];have F:A w.heap.size=none:=(G.gz _ (by omega) V).trans v;have i:¬Ba q a7 w.heap.size:=λh=>V (G.fresh _ (by omega) h);have D:∀b,b≠w.heap.size->(E.heap.setIfInBounds w.heap.size (.cells #[.bool true] p (0,0)))[b]?=E.heap[b]?:=λb R=>H2 (b9 R);refine⟨A,q,.Kp _ _ (.bool true),?_,z,?_⟩
   ·exact x.other (by simp) (λb o h=>D b λe=>by rw[e,F]at h;cases h) (λb h=>D b λe=>i (e▸h))
   ·have kq:=G.size
    exact { Kp:=G.Kp,os:=G.os,tape:=G.tape,output:=G.output,size:=by simp;omega,
            block:=λb R j=>(D b (by omega)).trans ((G.block b (by omega) j).trans (C b R)),fresh:=λb R j=>G.fresh b (by omega) j,gz:=λb R j=>G.gz b (by omega) j }
  ·exact n.elim
def N6 (hf:P.funcs[f]? = some fn) (hn:(fn.name=="runtime.NumGoroutine")=false) (R:fn.body=some T) (hs:O8 P f t p)
  (hg:P.funcs[g]? = some H) (n:(H.name=="runtime.NumGoroutine")=false) (s:H.body=some N) (hE:GL P g (df++dc) bk (.ix (.iface t (.agg [])))):GL P f [.fn (.func g) df dc] bk (.ret (.Kp (.bool false)) []):=by
 intro I μ w xs J z;obtain⟨first,K,rfl,E⟩:=WS z;rw[cn hf hn R];have y:(w.alloc (.cells #[.bool false] p)).heap=w.heap.push (.cells #[.bool false] p (0,0)):=rfl;have A:∀r,r<w.heap.size->(w.alloc (.cells #[.bool false] p)).heap[r]?=w.heap[r]?:=λr hr=>by rw[y];simp[Wx,Nat.ne_of_lt hr]
 have U:(w.alloc (.cells #[.bool false] p)).heap[w.heap.size]?=some (.cells #[.bool false] p (0,0)):=by rw[y];simp
 have F:(w.alloc (.cells #[.bool false] p)).heap.size=w.heap.size+1:=by rw[y];simp
 have V:∀b o,I b=some o->b<w.heap.size:=λb o h=>(Ht.1 (J.Kp b o h)).1;have d:No I μ bk [] (w.alloc (.cells #[.bool false] p)):=J.other (by omega) (λb o h=>A b (V b o h)) (λb h=>A b (F3 J h));have k:¬Ba μ bk w.heap.size:=λh=>absurd (F3 J h) (dD _);have Q:I w.heap.size=none:=by
  cases h:I w.heap.size with
  |none=>rfl
  |some o=>exact absurd (V _ o h) (dD _)
 have q:=hE I μ _ (first++K) d E;have L:=cn (w:=w.alloc (.cells #[.bool false] p)) hg n s (first++K);rw[L]at q;have q:Calls P g (first++K) (w.alloc (.cells #[.bool false] p)) (λe w'=>match e with
  |.returned _=>False
  |.panicked D=>OF (· = .iface t (.agg [])) I μ bk (w.alloc (.cells #[.bool false] p)) D w'
  |.outgrown=>False):=q
 have M:∀w' B,fi I μ bk (w.alloc (.cells #[.bool false] p)) B μ [] w'->w'.heap[w.heap.size]?=some (.cells #[.bool false] p (0,0)):=λw' B W=>(W.block _ (by omega) k).trans U;show Calls P f _ w _;refine bc (hs g first K w (λ_=>False) (λw'=>∃B,B.ok w'/\fi I μ bk (w.alloc (.cells #[.bool false] p)) B μ [] w') L (bc q ?_) (λ_ h=>h.elim) (λw' ⟨B,_,W⟩=>M w' B W)) ?_
 ·intro e w' W;cases e with
  |returned u=>exact W.elim
  |panicked D=>
   obtain⟨v,x,B,h1,m,h3,C,h5⟩:=W;subst m;cases h3 with
   |iface _ v' _ hv=>
    cases hv with
    |agg cs _ a _ _=>
     have:cs = #[]:=dC (by simpa using a);subst this;exact⟨h1,B,C,h5⟩
  |outgrown=>exact W.elim
 ·rintro e w2 (⟨_,_,E,_⟩|⟨rfl,c,⟨B,m,C⟩,rfl⟩)
  ·exact E.elim
  ·have hc:=M c B C;rw[FD hc];have S:B w.heap.size=none:=(C.gz _ (by omega) k).trans Q;have kq:=C.size;have G:∀b,b≠w.heap.size->b<c.heap.size->(({ c with heap:=c.heap.setIfInBounds w.heap.size (.cells #[.bool false] p (0,0)) }:World).alloc (.cells #[] t)).heap[b]?=c.heap[b]?:=λb R V=>by
    show((c.heap.setIfInBounds w.heap.size _).push _)[b]?=_;rw[Wx,ac (by simp;omega)];exact H2 (b9 R)
   refine⟨B,μ,.Kp _ _ (.bool false),?_,l4.refl _ _,?_⟩
   ·exact { Kp:=λb o h=>(G b (λe=>by rw[e,S]at h;cases h) (Ht.1 (m b o h)).1).trans (m b o h),SB:=λid SB a=>(by cases a),apart:=λid SB g b a=>(by cases a),inj:=λi j bi bj gi gj b a=>(by cases a),nodup:=.nil,PA:=λid hi=>(by cases hi) }
   ·exact { Kp:=C.Kp,os:=C.os,tape:=C.tape,output:=C.output,size:=by show w.heap.size<=((c.heap.setIfInBounds w.heap.size _).push _).size;simp;omega,
            block:=λb R l=>(G b (by omega) (by omega)).trans ((C.block b (by omega) l).trans (A b R)),fresh:=λb R l=>C.fresh b (by omega) l,gz:=λb R l=>C.gz b (by omega) l }
end
def Lz {all rest:L1 Oper} {x:Operand} {t:TypeId} {v:V} (K:o.guard=none) (C:o.op=.panic x) (L:Fi env x=some (.Kp<|.iface t v)) (M:OE Q<|.iface t v):ek P n F Q (.ops all (o::rest)::k) env st aa:=by intro b f I μ a w D N p;obtain⟨j,l,rfl,R,m⟩:=KA N;let⟨T,_⟩:=Fm R;have q:(o::rest).length=rest.length+1:=rfl;rw[q,OT];refine GF T (AO K) (λc p=>by rw[C]at p;cases p) ?_;have G:M8 (o.looksAt all.toArray) I μ env a:=λt _ d U=>p.env t d U;have H:=B3 G x (by rw[C];simp[Op.operands]) _ L;obtain⟨u,W,J⟩:∃u,a.eval x=.iface t u/\PB I (.iface t u) (.iface t v):=by{have:=H.Ks;generalize a.eval x=y at this;cases this with|iface _ u _ h=>{exact⟨u,rfl,.iface t u v h⟩}};have A:(execOp a.eval o).run P w=.halt (.panic<|.iface t u) w:=by{simp[execOp,C,W,Instr.panic,goPanic]};rw[A];have B:fi I μ st w I μ [] w:={ Kp:=TA.le_refl I,os:=rfl,tape:=rfl,output:=rfl,size:=B6 _,block:=λ_ _ _=>rfl,fresh:=λb r ⟨i,s,g,e,_⟩=>by simp[A2,lk]at e,gz:=λ_ _ _=>rfl };exact⟨.panic<|.iface t v,[],[],[],I,μ,⟨_,rfl,J⟩,M,NN p.Kp p.size<|p.defers.ext B,.refl _ _,B,.refl _ _⟩
def Gt {ds:R1} {p:Out} (j:Nat) (A:ds[j]?=some (.Kp x)) (h:GA x->GL P f ds st p):GL P f ds st p:=by intro I μ w xs q u;have y:j<xs.toList.length:=by{rw[u.1];exact(A9.1 A).1};exact h (u.2 j _ (.Kp x) (Bi y) A).Ks.ok I μ w xs q u
def HS:V:=.iface 293<|.agg []
def yT:TT:=nV++[
 (293,⟨.struct [],true,0,0,[]⟩),
 (195,⟨.struct [(0,3),(1,3)],true,2,16,[.Kp<|.int .i64 0,.Kp<|.int .i64 0]⟩),
 (1,⟨.func,false,1,8,[.Kp .dn]⟩)]
def Bw:dv prog yT:=.of_eq (l:=[4,3,9,49,25,182,45,47,5,23,22,73,46,180,71,43,178,40,41,113,111,28,293,195,1]) (by kernel_rfl)
def td (p:S0) (h:run yT n 300 p todo env st aa []=.at k u au Kr ob) (q:A8 ob) (y:cx n F Q k u au Kr):ia n F Q todo env st aa:=JS Bw mixed 300 p h q y
def Jl (h:run yT n 300 [] todo env st aa []=.at k u au Kr ob) (q:cx n F Q k u au Kr) (p:A8 ob:=by simp):ia n F Q todo env st aa:=td [] h p q
def tg (p:S0) (h:run yT n 300 p todo env st aa []=.at k u au Kr ob) (q:A8 ob) (y:cx n F Q k u au Kr):cx n F Q todo env st aa:=Jf Bw mixed 300 p h q y
def Cq (p:S0) (h:run yT n 300 p todo env st aa []=.at k u au Kr ob) (y:cx n F Q k u au Kr) (q:A8 ob:=by simp):cx n F Q todo env st aa:=tg p h q y
def Di (h:run yT n 300 [] todo env st aa []=.at k u au Kr ob) (q:cx n F Q k u au Kr) (p:A8 ob:=by simp):cx n F Q todo env st aa:=tg [] h p q
def YL (p:S0) (h:run yT n 300 p todo env st aa []=.at k u au Kr ob) (y:cx n F Q k u au Kr) (q:A8 ob:=by simp[A1]):cx n F Q todo env st aa:=tg p h q y
def ti (h:FY yT n env todo=some ⟨es,m,sz,e,g,ob,some t,q⟩) (u:A1 g->0<=m/\es[m.toNat]?=some c/\c.length=sz) (p:A8 ob) (y:cx n F Q q ((t,gD g<|.ip e c 0)::env) st aa):cx n F Q todo env st aa:=H9 Bw h u p y
def rl (h:FY yT n env todo=some ⟨es,(i:Int),sz,e,g,ob,some t,q⟩) (u:es[i]?=some c) (y:cx n F Q q ((t,gD g<|.ip e c 0)::env) st aa) (A:c.length=sz:=by simp) (p:A8 ob:=by simp):cx n F Q todo env st aa:=ti h (λ_=>⟨by omega,by simpa using u,A⟩) p y
def tizc (h:FY yT n env todo=some ⟨es,(i:Int),sz,e,g,ob,some t,q⟩) (u:es[i]?=some c) (y:cx n F Q q ((t,gD g<|.ip e c 0)::env) st aa) (A:c.length=sz:=by simp) (p:A8 ob:=by simp[A1]):cx n F Q todo env st aa:=ti h (λ_=>⟨by omega,by simpa using u,A⟩) p y
def zda:ca 254 [.bool true]<|.cg []:=by exact Ae Bw func254 O [1,2]<|Cq [.a] O<|Bq ⟨_,AL⟩
abbrev ed:=GL prog
def zjj:ed 254 [.Kp<|.bool false] []<|.ix HS:=by exact Ae Bw func254 O [1,2]<|Cq [.a] O<|Lz O O O O
def Cm (b:Bool) (h:b=true):ca 254 [.bool b]<|.cg []:=by subst h;exact zda
def CZ (b:Bool) (h:b=false):ed 254 [.Kp<|.bool b] []<|.ix HS:=by subst h;exact zjj
def DJ (a b:Int):fp:=.NA 195 2 [.int .i64 a,.int .i64 b]
def Jx (n d x:Int) (p:1<=n) (q:n<=4611686018427387904) (u:x<=d):ed 190 [.ref 1 0,i7 x] [(1,some<|DJ n d)]<|.ret (.Kp<|.cg []) [(1,some<|DJ (n-1) d)]:=by have h:IntKind.i64.wrap (n-1)=n-1:=Gi (by omega) (by omega);refine Ae Bw func190 O [2,3]<|Di O<|Ac O (Cm _ (by simp[h];omega))<|Di O<|Bq ⟨_,rfl,rfl,?_⟩;simp only[h];exact AD
def V2 (n d x:Int) (p : -1<=n) (q:n<=4611686018427387904) (u:n<1\/d<x):ed 190 [.ref 1 0,i7 x] [(1,some<|DJ n d)]<|.ix HS:=by have h:IntKind.i64.wrap (n-1)=n-1:=Gi (by omega) (by omega);exact Ae Bw func190 O [2,3]<|Di O<|AM [] O (by simp) (CZ _ (by simp[h];omega)) ab O O
def Ix {ps:E1} {t:Y} (h:ps[i]?=some t):A5 (ps.drop i)=Bn t+A5 (ps.drop<|i+1):=by rw[Av h];rfl
def On:∀(t:Y) (n:Int),(Bn t:Int)<=n->n<=4611686018427387904->ed 247 [.ref 1 0,.Kp<|.agg<|As t] [(1,some<|DJ n 0)] (.ret (.Kp<|.cg []) [(1,some<|DJ (n-Bn t) 0)])
 |.mk s m x p,n,y,A=>by refine Gt 1 O λq=>?_;have H:p.length<=9223372036854775807:=by{simp[DF,GA,As,maxLen]at q;have:=q.1;omega};refine Ae Bw func247 O [2,3,4] ?_;have J:(1:Int)+A5 p<=n:=by{simp only[Bn]at y;omega};refine Di O<|Af O (Jx n 0 0 (by omega) A<|by decide) Az O<|Di O<|Ak (λi:Nat=>[(11,i7 i),(10,i7 p.length),(9,.Kp<|.sl<|A3 p),(0,.ref 1 0)]) (λi=>[(1,some<|DJ (n-1-A5 (p.take i)) 0)]) [2,3,4] (λi=>p.length-i) (λi=>i<=p.length) 0 (AK _) ⟨rfl,B2<|by simp,AL⟩ ⟨by simp[A5];rfl,ab⟩ O λi K B=>?_;refine Jl O<|Aa O (λh=>?_) λh=>?_;simp at h;let⟨t,u⟩:=Aq h;have C:=Gq u;have D:=Ix u;have G:(A5 (p.take<|i+1):Int)=A5 (p.take i)+Bn t:=by{rw[Bm u,F4];simp[A5]};exact Jl O<|rl O (AS u)<|Di O<|Af O (On t (n-1-A5 (p.take i)) (by omega)<|by omega) Az O<|Di O<|Ad (B (i+1) (by omega)<|by omega) ⟨Bc,AB⟩ ⟨af (λz=>DJ z 0)<|by omega,ab⟩ O;refine Jl O ?_;simp at h;refine Bq ⟨_,rfl,rfl,⟨?_,ab⟩⟩;rw[Df<|by omega];simp only[Bn];exact af (λz=>some<|some<|DJ z 0) (by omega)
termination_by t=>SizeOf.sizeOf t
decreasing_by all_goals(have:=C8<|AE u;simp_wf;omega)
def lD:∀(t:Y) (n:Int),n<Bn t->-1<=n->n<=4611686018427387904->ed 247 [.ref 1 0,.Kp<|.agg<|As t] [(1,some<|DJ n 0)] (.ix HS)
 |.mk s m x p,n,A,B,y=>by refine Gt 1 O λq=>?_;have M:p.length<=9223372036854775807:=by{simp[DF,GA,As,maxLen]at q;have:=q.1;omega};refine Ae Bw func247 O [2,3,4] ?_;have N:n<(1:Int)+A5 p:=by{simp only[Bn]at A;omega};refine Di O ?_;by_cases C:n<1;exact AM [(1,1)] O (by simp) (V2 n 0 0 (by omega) y<|.inl C) Az O O;refine Af O (Jx n 0 0 (by omega) y<|by decide) Az O<|Di O<|Ak (λi:Nat=>[(11,i7 i),(10,i7 p.length),(9,.Kp<|.sl<|A3 p),(0,.ref 1 0)]) (λi=>[(1,some<|DJ (n-1-A5 (p.take i)) 0)]) [2,3,4] (λi=>p.length-i) (λi=>i<=p.length/\(A5 (p.take i):Int)<=n-1/\n-1<A5 (p.take i)+A5 (p.drop i)) 0 ⟨AK _,by simp[A5];omega,by simp[A5];omega⟩ ⟨rfl,B2<|by simp,AL⟩ ⟨by simp[A5];rfl,ab⟩ O λi D G=>?_;refine Jl O<|Aa O (λh=>?_) λh=>?_;simp at h;let⟨t,u⟩:=Aq h;have H:=Gq u;have J:=Ix u;have K:(A5 (p.take<|i+1):Int)=A5 (p.take i)+Bn t:=by{rw[Bm u,F4];simp[A5]};refine Jl O<|rl O (AS u)<|Di O ?_;by_cases L:(Bn t:Int)<=n-1-A5 (p.take i);exact Af O (On t (n-1-A5 (p.take i)) (by omega)<|by omega) Az O<|Di O<|Ad (G (i+1) (by omega) ⟨by omega,by omega,by omega⟩) ⟨Bc,AB⟩ ⟨af (λz=>DJ z 0)<|by omega,ab⟩ O;exact AM [(1,1)] O (by simp) (lD t (n-1-A5 (p.take i)) (by omega) (by omega)<|by omega) Az O O;exfalso;simp at h;have:=D.2;rw[Df<|by omega,Bt<|by omega]at this;simp[A5]at this;omega
termination_by t=>SizeOf.sizeOf t
decreasing_by all_goals(have:=C8<|AE u;simp_wf;omega)
def QY:∀(t:Y) (n:Int),(Bn t:Int)<=n->n<=4611686018427387904->ed 284 [.ref 1 0,.Kp<|.agg<|As t] [(1,some<|DJ n 0)] (.ret (.Kp<|.cg []) [(1,some<|DJ (n-Bn t) 0)])
 |.mk s m x p,n,y,A=>by refine Gt 1 O λq=>?_;have H:p.length<=9223372036854775807:=by{simp[DF,GA,As,maxLen]at q;have:=q.1;omega};refine Ae Bw func284 O [2,3,4] ?_;have J:(1:Int)+A5 p<=n:=by{simp only[Bn]at y;omega};refine Di O<|Af O (Jx n 0 0 (by omega) A<|by decide) Az O<|Di O<|Ak (λi:Nat=>[(11,i7 i),(10,i7 p.length),(9,.Kp<|.sl<|A3 p),(0,.ref 1 0)]) (λi=>[(1,some<|DJ (n-1-A5 (p.take i)) 0)]) [2,3,4] (λi=>p.length-i) (λi=>i<=p.length) 0 (AK _) ⟨rfl,B2<|by simp,AL⟩ ⟨by simp[A5];rfl,ab⟩ O λi K B=>?_;refine Jl O<|Aa O (λh=>?_) λh=>?_;simp at h;let⟨t,u⟩:=Aq h;have C:=Gq u;have D:=Ix u;have G:(A5 (p.take<|i+1):Int)=A5 (p.take i)+Bn t:=by{rw[Bm u,F4];simp[A5]};exact Jl O<|rl O (AS u)<|Di O<|Af O (QY t (n-1-A5 (p.take i)) (by omega)<|by omega) Az O<|Di O<|Ad (B (i+1) (by omega)<|by omega) ⟨Bc,AB⟩ ⟨af (λz=>DJ z 0)<|by omega,ab⟩ O;refine Jl O ?_;simp at h;refine Bq ⟨_,rfl,rfl,⟨?_,ab⟩⟩;rw[Df<|by omega];simp only[Bn];exact af (λz=>some<|some<|DJ z 0) (by omega)
termination_by t=>SizeOf.sizeOf t
decreasing_by all_goals(have:=C8<|AE u;simp_wf;omega)
def xG:∀(t:Y) (n:Int),n<Bn t->-1<=n->n<=4611686018427387904->ed 284 [.ref 1 0,.Kp<|.agg<|As t] [(1,some<|DJ n 0)] (.ix HS)
 |.mk s m x p,n,A,B,y=>by refine Gt 1 O λq=>?_;have M:p.length<=9223372036854775807:=by{simp[DF,GA,As,maxLen]at q;have:=q.1;omega};refine Ae Bw func284 O [2,3,4] ?_;have N:n<(1:Int)+A5 p:=by{simp only[Bn]at A;omega};refine Di O ?_;by_cases C:n<1;exact AM [(1,1)] O (by simp) (V2 n 0 0 (by omega) y<|.inl C) Az O O;refine Af O (Jx n 0 0 (by omega) y<|by decide) Az O<|Di O<|Ak (λi:Nat=>[(11,i7 i),(10,i7 p.length),(9,.Kp<|.sl<|A3 p),(0,.ref 1 0)]) (λi=>[(1,some<|DJ (n-1-A5 (p.take i)) 0)]) [2,3,4] (λi=>p.length-i) (λi=>i<=p.length/\(A5 (p.take i):Int)<=n-1/\n-1<A5 (p.take i)+A5 (p.drop i)) 0 ⟨AK _,by simp[A5];omega,by simp[A5];omega⟩ ⟨rfl,B2<|by simp,AL⟩ ⟨by simp[A5];rfl,ab⟩ O λi D G=>?_;refine Jl O<|Aa O (λh=>?_) λh=>?_;simp at h;let⟨t,u⟩:=Aq h;have H:=Gq u;have J:=Ix u;have K:(A5 (p.take<|i+1):Int)=A5 (p.take i)+Bn t:=by{rw[Bm u,F4];simp[A5]};refine Jl O<|rl O (AS u)<|Di O ?_;by_cases L:(Bn t:Int)<=n-1-A5 (p.take i);exact Af O (QY t (n-1-A5 (p.take i)) (by omega)<|by omega) Az O<|Di O<|Ad (G (i+1) (by omega) ⟨by omega,by omega,by omega⟩) ⟨Bc,AB⟩ ⟨af (λz=>DJ z 0)<|by omega,ab⟩ O;exact AM [(1,1)] O (by simp) (xG t (n-1-A5 (p.take i)) (by omega) (by omega)<|by omega) Az O O;exfalso;simp at h;have:=D.2;rw[Df<|by omega,Bt<|by omega]at this;simp[A5]at this;omega
termination_by t=>SizeOf.sizeOf t
decreasing_by all_goals(have:=C8<|AE u;simp_wf;omega)
def bF:∀(ts:G1) (l d:Int),l<0->Cf ts l d<0
 |[],l,d,h=>h
 |t::r,l,d,h=>by simp only[Cf];rw[ac<|by omega];exact h
def Om:∀(t:Tm) (n p x:Int),0<=n->n<=4611686018427387904->0<=p->p<=1000000->0<=x->x<=1000001->0<=B0 t n (p-x+1)->ed 135 [.ref 1 0,.Kp<|.agg<|dTmc t,i7 x] [(1,some<|DJ n p)] (.ret (.Kp<|.cg []) [(1,some<|DJ (B0 t n<|p-x+1) p)])
 |.mk N R T u U,n,p,x,j,b,D,G,c,d,H=>by refine Gt 1 O λB=>?_;have k:u.length<=9223372036854775807:=by{simp[DF,GA,dTmc,maxLen]at B;have:=B.1;omega};refine Ae Bw func135 O [2,3,4] ?_;have J:¬(n<1\/p-x+1<1)->B0 (.mk N R T u U) n (p-x+1)=Cf u (n-1) (p-x):=λh=>by{simp only[B0];rw[ac h];congr 1;omega};refine Di O ?_;by_cases V:n<1\/p-x+1<1;exfalso;simp only[B0]at H;rw[ae V]at H;omega;have e:1<=n/\x<=p:=by{omega};refine Af O (Jx n p x (by omega) b<|by omega) Az O<|Di O<|Ak (λy:Nat×Int=>[(14,i7 y.1),(13,i7 u.length),(12,.Kp<|.sl<|Ci u),(0,.ref 1 0),(2,i7 x)]) (λy=>[(1,some<|DJ y.2 p)]) [2,3,4] (λy=>u.length-y.1) (λy=>y.1<=u.length/\B0 (.mk N R T u U) n (p-x+1)=Cf (u.drop y.1) y.2 (p-x)/\0<=y.2/\y.2<=n) (0,n-1) ⟨AK _,by simp only[jK];exact J V,by simp only;omega,by simp only;omega⟩ ⟨rfl,B2<|by simp,AB⟩ AD O λy f g=>?_;obtain⟨i,m⟩:=y;obtain⟨K,q,A,L⟩:=f;simp only at K q A L;refine Jl O<|Aa O (λh=>?_) λh=>?_;simp at h;let⟨t,M⟩:=Aq h;rw[Av M]at q;simp only[Cf]at q;rw[ae A]at q;have l:=HV t m<|p-x;have W:IntKind.i64.wrap (x+1)=x+1:=Gi (by omega) (by omega);refine Jl O<|rl O (Ec M)<|Di O ?_;have C:p-(x+1)+1=p-x:=by{omega};have a:0<=B0 t m (p-x):=by{rw[q]at H;rcases Int.lt_or_le (B0 t m<|p-x) 0 with hl|hl;exfalso;have:=bF (u.drop<|i+1) (B0 t m<|p-x) (p-x) hl;omega;exact hl};exact Af O (Om t m p (IntKind.i64.wrap<|x+1) A (by omega) D G (by omega) (by omega) (by rw[W,C];exact a)) Az O<|Di O<|Ad (g (i+1,B0 t m<|p-x) (by simp only;omega) ⟨by simp only;omega,q,by simp only;exact a,by simp only;omega⟩) ⟨Bc,B9⟩ ⟨af (λz=>DJ z p)<|by simp only[W,C],ab⟩ O;refine Jl O ?_;simp at h;refine Bq ⟨_,rfl,rfl,⟨?_,ab⟩⟩;rw[Bt<|by omega]at q;simp only[Cf]at q;rw[q];rfl
termination_by t=>SizeOf.sizeOf t
decreasing_by all_goals(have:=C8<|AE M;simp_wf;omega)
def lC:∀(t:Tm) (n p x:Int),0<=n->n<=4611686018427387904->0<=p->p<=1000000->0<=x->x<=1000001->B0 t n (p-x+1)<0->ed 135 [.ref 1 0,.Kp<|.agg<|dTmc t,i7 x] [(1,some<|DJ n p)] (.ix HS)
 |.mk N R T u U,n,p,x,g,V,C,D,a,b,j=>by refine Gt 1 O λG=>?_;have k:u.length<=9223372036854775807:=by{simp[DF,GA,dTmc,maxLen]at G;have:=G.1;omega};refine Ae Bw func135 O [2,3,4] ?_;have H:¬(n<1\/p-x+1<1)->B0 (.mk N R T u U) n (p-x+1)=Cf u (n-1) (p-x):=λh=>by{simp only[B0];rw[ac h];congr 1;omega};refine Di O ?_;by_cases c:n<1\/p-x+1<1;exact AM [(1,1)] O (by simp) (V2 n p x (by omega) V<|by omega) Az O O;have d:1<=n/\x<=p:=by{omega};refine Af O (Jx n p x (by omega) V<|by omega) Az O<|Di O<|Ak (λy:Nat×Int=>[(14,i7 y.1),(13,i7 u.length),(12,.Kp<|.sl<|Ci u),(0,.ref 1 0),(2,i7 x)]) (λy=>[(1,some<|DJ y.2 p)]) [2,3,4] (λy=>u.length-y.1) (λy=>y.1<=u.length/\B0 (.mk N R T u U) n (p-x+1)=Cf (u.drop y.1) y.2 (p-x)/\0<=y.2/\y.2<=n) (0,n-1) ⟨AK _,by simp only[jK];exact H c,by simp only;omega,by simp only;omega⟩ ⟨rfl,B2<|by simp,AB⟩ AD O λy e f=>?_;obtain⟨i,m⟩:=y;obtain⟨J,q,A,K⟩:=e;simp only at J q A K;refine Jl O<|Aa O (λh=>?_) λh=>?_;simp at h;let⟨t,L⟩:=Aq h;rw[Av L]at q;simp only[Cf]at q;rw[ae A]at q;have l:=HV t m<|p-x;have M:IntKind.i64.wrap (x+1)=x+1:=Gi (by omega) (by omega);refine Jl O<|rl O (Ec L)<|Di O ?_;have B:p-(x+1)+1=p-x:=by{omega};by_cases W:0<=B0 t m (p-x);exact Af O (Om t m p (IntKind.i64.wrap<|x+1) A (by omega) C D (by omega) (by omega) (by rw[M,B];exact W)) Az O<|Di O<|Ad (f (i+1,B0 t m<|p-x) (by simp only;omega) ⟨by simp only;omega,q,by simp only;exact W,by simp only;omega⟩) ⟨Bc,B9⟩ ⟨af (λz=>DJ z p)<|by simp only[M,B],ab⟩ O;exact AM [(1,1)] O (by simp) (lC t m p (IntKind.i64.wrap<|x+1) A (by omega) C D (by omega) (by omega) (by rw[M,B];omega)) Az O O;exfalso;simp at h;rw[Bt<|by omega]at q;simp only[Cf]at q;omega
termination_by t=>SizeOf.sizeOf t
decreasing_by all_goals(have:=C8<|AE L;simp_wf;omega)
structure PRng where
 s:List UInt8
 iz:Nat
 Kr:List Nat
 dst:Option Nat
 todo:List DI
def zp6 (L:TT) (n:Nat) (env:Env) (aa:L1 Nat) (todo:L1 DI):Option PRng :=
 match U3 todo,aa with
 |some o,h::Kr=>match o.guard,o.op with
  |none,.range t x=>match lk L t,Fi env x,Cs n o.dst,B4 todo ([],[h])with
   |some { sh:=.str,.. },some (.Kp (.str s)),true,some (_,_,q)=>some ⟨s,h,Kr,o.dst,q⟩
   |_,_,_,_=>none
  |_,_=>none
 |_,_=>none
structure PNxt where
 s:List UInt8
 pos:Nat
 id:Nat
 dst:Option Nat
 todo:List DI
def zj8 (n:Nat) (env:Env) (st:St) (wr:Bool) (todo:L1 DI):Option PNxt :=
 match U3 todo with
 |some o=>match o.guard,o.op with
  |none,.next x true=>match Fi env x,Cs n o.dst with
   |some (.iter id),true=>match lk st id,B4 todo ([id],bif wr then[id]else[])with
    |some (some (.ie s h)),some (_,_,q)=>some ⟨s,h,id,o.dst,q⟩
    |_,_=>none
   |_,_=>none
  |_,_=>none
 |none=>none
def Gu (s:L1 UInt8) (h:Nat):Nat×Nat:=Utf8.decode ⟨s.toArray⟩ h
def Ft {s:Sem Value} (h:s.run P w=.ok v w'):(do pure (.value (<- s)):Sem Next).run P w=.ok (.value v) w':=by simp[h]
def X.mn {id:Nat} (h:X I μ v<|.iter id):∃b,v=.pointer (some ⟨b,0,none⟩)/\μ id=some v:=by cases h with|iter _ b h=>{exact⟨b,rfl,h⟩}
def zhc (J:dv P L) {u:K1} {p:S6} (h:zp6 L n env aa todo=some ⟨y,B,u,d0,p⟩) (d:G P n F Q p (Cn d0 (.iter B) env) ((B,some<|.ie y 0)::st) u):G P n F Q todo env st aa:=by unfold zp6 at h;split at h;rename_i o e Kr f;split at h;rename_i t x g C;split at h;rename_i _ _ _ _ s i T q j k l U;cases h;have K:T=o:=E0 f U;subst K;refine Cc (fr:=[B]) (wr:=[(B,some<|.ie y 0)]) (rd:=[]) U ?_ l (λc V=>by rw[C]at V;cases V) d;intro I μ a7 W a w m M N;refine⟨λ_=>?_,λb=>by rw[AO g]at b;cases b⟩;have A:=B3 N;rw[C]at A;obtain⟨R,r,v⟩:=(A x (by simp[Op.operands]) _ k).Ks.jl;have z:P.underlying t=some .string:=J.sh j;have D:(execOp a.eval T).run P w=.ok (.value<|.pointer<|some ⟨w.heap.size,0,none⟩) (w.alloc<|.stringIter R 0):=by{simp only[execOp,C,r];refine Ft ?_;simp only[Instr.range,ak,aj z,ah,al,dt];rfl};rw[D];let⟨H,E,S,q3,q4⟩:=M.m0 (.stringIter R 0) (.pointer<|some ⟨w.heap.size,0,none⟩) (λ_ h=>dw h) (.ie y 0) λH _=>⟨w.heap.size,R,rfl,FR w _,v⟩;exact⟨I,H,q3,.iter _ _ E,S,q4⟩;cases h;cases h;cases h
def YR {id p:Nat} {s:L1 UInt8} (q:No I μ st aa w) (A:A2 st id<|.ie s p) (B:X I μ v<|.iter id):∃b,v=.pointer (some ⟨b,0,none⟩)/\μ id=some v/\w.heap[b]?=some (.stringIter ⟨s.toArray⟩ p):=by obtain⟨b,rfl,u⟩:=B.mn;obtain⟨g,y,D,G,rfl,h,C⟩:=q.SB id _ A;rw[u]at y;cases y;refine⟨b,rfl,u,?_⟩;rw[h,<- C]
def xK {u:S6} (h:zj8 n env st true todo=some ⟨y,A,B,d0,u⟩) (t:A<y.length) {dc:Nat×Nat} (T:Gu y A=dc) (U:G P n F Q u (Cn d0 (.Kp<|.cg [.bool true,.int .i64 A,.int .i32 dc.1]) env) ((B,some<|.ie y<|A+dc.2)::st) aa):G P n F Q todo env st aa:=by subst T;unfold zj8 at h;split at h;rename_i o v;split at h;rename_i x z J;split at h;rename_i id C E;split at h;rename_i s S all j q hl l;cases h;have V:j=o:=E0 v l;subst V;refine Cc (fr:=[]) (wr:=[(B,some<|.ie y<|A+(Gu y A).2)]) (rd:=[B]) l ?_ E (λc D=>by rw[J]at D;cases D) U;intro I μ a7 m a w W K d;refine⟨λ_=>?_,λr=>by rw[AO z]at r;cases r⟩;have H:=B3 d;rw[J]at H;have L:A2 a7 B<|.ie y A:=by{unfold A2;rw[W B<|by simp];exact hl};let⟨b,e,hm,p⟩:=YR K L<|H x (by simp[Op.operands]) _ C;have M:(getObj b).run P w=.ok (.stringIter ⟨y.toArray⟩ A) w:=by{simp[getObj,Sem.run,p]};have N:(setObj b<|.stringIter ⟨y.toArray⟩<|A+(Gu y A).2).run P w=.ok () { w with heap:=w.heap.setIfInBounds b (.stringIter ⟨y.toArray⟩<|A+(Gu y A).2) }:=by{simp[setObj,Sem.run,p]};have f:A<(ByteArray.mk y.toArray).size:=by{simpa[ByteArray.size]using t};have R:(execOp a.eval j).run P w=.ok (.value<|.tuple #[.bool true,.int .i64 A,.int .i32 (Gu y A).1]) { w with heap:=w.heap.setIfInBounds b (.stringIter ⟨y.toArray⟩<|A+(Gu y A).2) }:=by{simp only[execOp,J,e];refine Ft ?_;simp only[Instr.next,ak,M,ah,ae f];have:(setObj b<|.stringIter ⟨y.toArray⟩<|A+(Utf8.decode ⟨y.toArray⟩ A).2).run P w=_:=N;simp only[ak,this,ah,al];rfl};rw[R];have g:=C7 p;let⟨q1,q2⟩:=K.update (it:=.ie y<|A+(Gu y A).2) (w':={ w with heap:=w.heap.setIfInBounds b (.stringIter ⟨y.toArray⟩<|A+(Gu y A).2) }) L hm (by rw[e];rfl) (by simp) O O O (λk U=>H2<|b9 U) ⟨b,⟨y.toArray⟩,e,by simp[g],rfl⟩;refine⟨I,μ,q1,.Kp _ _<|.cg _ _ O λi c x D C=>?_,Mu.le_refl μ,q2⟩;match i,D,C with|0,D,C=>cases D;cases C;exact .bool _|1,D,C=>cases D;cases C;exact .int _ _|2,D,C=>cases D;cases C;exact .int _ _|i+3,D,C=>{simp at C};cases h;cases h;cases h;cases h
def zlg {p:S6} (h:zj8 n env st false todo=some ⟨y,A,B,d0,p⟩) (g:y.length<=A) (j:G P n F Q p (Cn d0 (.Kp<|.cg [.bool false]) env) st aa):G P n F Q todo env st aa:=by unfold zj8 at h;split at h;rename_i o k;split at h;rename_i x l C;split at h;rename_i id D m;split at h;rename_i s r t W q v d;cases h;have N:W=o:=E0 k d;subst N;refine Cc (fr:=[]) (wr:=[]) (rd:=[B]) d ?_ m (λc H=>by rw[C]at H;cases H) j;intro I μ a7 e a w R K T;refine⟨λ_=>?_,λf=>by rw[AO l]at f;cases f⟩;have u:=B3 T;rw[C]at u;have U:A2 a7 B<|.ie y A:=by{unfold A2;rw[R B<|by simp];exact v};let⟨b,z,E,J⟩:=YR K U<|u x (by simp[Op.operands]) _ D;have L:(getObj b).run P w=.ok (.stringIter ⟨y.toArray⟩ A) w:=by{simp[getObj,Sem.run,J]};have V:¬A<(ByteArray.mk y.toArray).size:=by{simpa[ByteArray.size]using g};have M:(execOp a.eval W).run P w=.ok (.value<|.tuple #[.bool false]) w:=by{simp only[execOp,C,z];refine Ft ?_;simp only[Instr.next,ak,L,ah,ac V,al]};rw[M];refine⟨I,μ,K,.Kp _ _<|.cg _ _ O λi c x H D=>?_,Mu.le_refl μ,fi.refl _ _ _ _⟩;match i,H,D with|0,H,D=>cases H;cases D;exact .bool _|i+1,H,D=>{simp at D};cases h;cases h;cases h;cases h
def tM {s:Z} {p:Nat} {c:UInt8} (h:s[p]?=some c) (q:c.toNat<128):Gu s p=(c.toNat,1):=by have u:(ByteArray.mk s.toArray).get! p=c:=by{simp[ByteArray.get!,h]};simp only[Gu,Utf8.decode,Jd,u];rw[ae q]
def mJ {s:Z} {p:Nat} {c:UInt8} (h:s[p]?=some c) (u:128<=c.toNat):128<=(Gu s p).1:=by have q:(ByteArray.mk s.toArray).get! p=c:=by{simp[ByteArray.get!,h]};simp only[Gu,Utf8.decode,Jd,q,Utf8.runeError];rw[ac<|by omega];(repeat' split);all_goals first|(simp only;omega)|decide|(simp only[Am,am]at *;omega)
def YH (s:Z):ca 131 [.str s]<|.bool<|GV s:=by refine Ae Bw func131 O [1,2]<|Di O<|zhc Bw O<|Di O<|Ak (λi:Nat=>[(6,.iter 1)]) (λi=>[(1,some<|.ie s i)]) [2] (λi=>s.length-i) (λi=>i<=s.length/\GV s=GV (s.drop i)) 0 ⟨AK _,rfl⟩ AD AD O λi y A=>?_;refine Jl O ?_;by_cases q:i<s.length;let⟨c,u⟩:=Aq q;have e:=y.2;rw[Tl u]at e;by_cases p:c.toNat<128;refine xK O q (tM u p)<|Cq [.a] O<|Aa O (λh=>?_) λh=>?_;refine Jl O<|Ab O O (af _ ?_);rw[e];simp at h;simp[ar];omega;refine Jl O<|Ad (A (i+1) (by omega) ⟨by omega,?_⟩) AD AD O;rw[e];simp at h;simp[ar];omega;refine xK (dc:=Gu s i) O q O ?_;have B:=mJ u (by omega);refine Cq [.a] O<|Aa O (λh=>?_) λh=>?_;refine Jl O<|Ab O O (af _ ?_);rw[e];simp[ar];omega;exfalso;simp at h;omega;refine zlg O (by omega)<|Cq [.a] O<|Ab O O (af _ ?_);rw[y.2,Bt<|by omega];rfl
def rM (s:Z) (h:WD s=false):ca 132 [.str s]<|.bool false:=by simp only[WD,Ln,AR,Mb]at h;exact Ae Bw func132 O [1,2]<|tg [.f,.f,.f,.f,.f,.f,.f,.f,.f,.f,.f,.f,.f,.f,.f,.f,.f,.f,.f,.f,.f,.f,.f,.f,.f,.f,.f,.f,.f] O (by simp at h;simp;grind)<|Ab O O O
def zbj:ca 132 [.str [98,111,111,108]]<|.bool true:=by exact Ae Bw func132 O [1,2]<|Cq [.a,.a] O<|Ab O O O
def zbi:ca 132 [.str [99,101,108,108]]<|.bool true:=by exact Ae Bw func132 O [1,2]<|Cq [.a,.a,.a] O<|Ab O O O
def zbh:ca 132 [.str [99,104,97,110]]<|.bool true:=by exact Ae Bw func132 O [1,2]<|Cq [.a,.a,.a,.a] O<|Ab O O O
def zbg:ca 132 [.str [101,108,115,101]]<|.bool true:=by exact Ae Bw func132 O [1,2]<|Cq (DL 4 [.a]) O<|Ab O O O
def zbf:ca 132 [.str [102,97,108,115,101]]<|.bool true:=by exact Ae Bw func132 O [1,2]<|Cq (DL 5 [.a]) O<|Ab O O O
def zbe:ca 132 [.str [102,117,110]]<|.bool true:=by exact Ae Bw func132 O [1,2]<|Cq (DL 6 [.a]) O<|Ab O O O
def zbd:ca 132 [.str [103,101,116]]<|.bool true:=by exact Ae Bw func132 O [1,2]<|Cq (DL 7 [.a]) O<|Ab O O O
def zbc:ca 132 [.str [105,102]]<|.bool true:=by exact Ae Bw func132 O [1,2]<|Cq (DL 8 [.a]) O<|Ab O O O
def zbb:ca 132 [.str [105,110]]<|.bool true:=by exact Ae Bw func132 O [1,2]<|Cq (DL 9 [.a]) O<|Ab O O O
def zba:ca 132 [.str [105,110,112,117,116]]<|.bool true:=by exact Ae Bw func132 O [1,2]<|Cq (DL 10 [.a]) O<|Ab O O O
def sF:ca 132 [.str [105,110,116]]<|.bool true:=by exact Ae Bw func132 O [1,2]<|Cq (DL 11 [.a]) O<|Ab O O O
def sE:ca 132 [.str [106,111,105,110]]<|.bool true:=by exact Ae Bw func132 O [1,2]<|Cq (DL 12 [.a]) O<|Ab O O O
def sD:ca 132 [.str [108,101,116]]<|.bool true:=by exact Ae Bw func132 O [1,2]<|Cq (DL 13 [.a]) O<|Ab O O O
def sC:ca 132 [.str [109,97,116,99,104]]<|.bool true:=by exact Ae Bw func132 O [1,2]<|Cq (DL 14 [.a]) O<|Ab O O O
def sB:ca 132 [.str [109,111,100,117,108,101]]<|.bool true:=by exact Ae Bw func132 O [1,2]<|Cq (DL 15 [.a]) O<|Ab O O O
def sA:ca 132 [.str [111,117,116]]<|.bool true:=by exact Ae Bw func132 O [1,2]<|Cq (DL 16 [.a]) O<|Ab O O O
def rZ:ca 132 [.str [112,97,117,115,101]]<|.bool true:=by exact Ae Bw func132 O [1,2]<|Cq (DL 17 [.a]) O<|Ab O O O
def rY:ca 132 [.str [112,117,116]]<|.bool true:=by exact Ae Bw func132 O [1,2]<|Cq (DL 18 [.a]) O<|Ab O O O
def rX:ca 132 [.str [114,101,115,101,116]]<|.bool true:=by exact Ae Bw func132 O [1,2]<|Cq (DL 19 [.a]) O<|Ab O O O
def rW:ca 132 [.str [115,101,110,100]]<|.bool true:=by exact Ae Bw func132 O [1,2]<|Cq (DL 20 [.a]) O<|Ab O O O
def rV:ca 132 [.str [115,104,105,102,116]]<|.bool true:=by exact Ae Bw func132 O [1,2]<|Cq (DL 21 [.a]) O<|Ab O O O
def rU:ca 132 [.str [115,112,97,119,110]]<|.bool true:=by exact Ae Bw func132 O [1,2]<|Cq (DL 22 [.a]) O<|Ab O O O
def rS:ca 132 [.str [116,97,107,101]]<|.bool true:=by exact Ae Bw func132 O [1,2]<|Cq (DL 23 [.a]) O<|Ab O O O
def rR:ca 132 [.str [116,97,115,107]]<|.bool true:=by exact Ae Bw func132 O [1,2]<|Cq (DL 24 [.a]) O<|Ab O O O
def rQ:ca 132 [.str [116,104,101,110]]<|.bool true:=by exact Ae Bw func132 O [1,2]<|Cq (DL 25 [.a]) O<|Ab O O O
def rP:ca 132 [.str [116,114,117,101]]<|.bool true:=by exact Ae Bw func132 O [1,2]<|Cq (DL 26 [.a]) O<|Ab O O O
def rO:ca 132 [.str [116,121,112,101]]<|.bool true:=by exact Ae Bw func132 O [1,2]<|Cq (DL 27 [.a]) O<|Ab O O O
def rN:ca 132 [.str [117,110,105,116]]<|.bool true:=by exact Ae Bw func132 O [1,2]<|Cq (DL 28 [.a]) O<|Ab O O O
def an:=@beq_iff_eq
def rL (s:Z):ca 132 [.str s]<|.bool<|WD s:=by cases h:WD s with|false=>exact rM s h|true=>{simp only[WD,Ln,AR,EJ,an,Bool.or_false]at h;rcases h with rfl|rfl|rfl|rfl|rfl|rfl|rfl|rfl|rfl|rfl|rfl|rfl|rfl|rfl|rfl|rfl|rfl|rfl|rfl|rfl|rfl|rfl|rfl|rfl|rfl|rfl|rfl|rfl;exact zbj;exact zbi;exact zbh;exact zbg;exact zbf;exact zbe;exact zbd;exact zbc;exact zbb;exact zba;exact sF;exact sE;exact sD;exact sC;exact sB;exact sA;exact rZ;exact rY;exact rX;exact rW;exact rV;exact rU;exact rS;exact rR;exact rQ;exact rP;exact rO;exact rN}
def FU (s:Z):ca 73 [.str s]<|.bool<|BW s:=by refine Ae Bw func73 O [1,2]<|Di O<|CL O (v:=.bool<|GV s) (λh=>YH s) (by simp[A1])<|Di O<|CL O (v:=.bool<|WD s) (λh=>rL s) (by simp[A1])<|Di O<|Ab O O (af _ ?_);cases s with|nil=>simp[BW]|cons a r=>{simp[BW];norm_cast;simp}
def Gk (s:Z):ca 183 [.str s]<|.bool<|Gc s:=by refine Ae Bw func183 O [1,2]<|tg [] O (by cases s with|nil=>simp[A1]|cons a r=>simp[A1];omega)<|CL O (v:=.bool<|GV<|s.drop 1) (λh=>YH _) (by simp[A1])<|Di O<|Ab O O (af _ ?_);cases s with|nil=>simp[Gc]|cons a r=>{simp[Gc,ar,PE];norm_cast;simp}
def Bf (n:Int):Bool:=decide (-1000000000<=n)&&decide (n<=1000000000)
def Mg (n:Int):ca 256 [.int .i64 n]<|.bool<|Bf n:=by refine Ae Bw func256 O [1,2]<|Di O<|Ab O O (af _ ?_);simp[Bf]
def Mz:D:=.Kp<|.cg []
def Pq (q:Bool):∀(t:Y),DN q t=true->ed 248 [.Kp<|.agg<|As t,.Kp<|.bool q] [] (.ret Mz [])
 |.mk s n x u,B=>by refine Gt 0 O λC=>?_;have c:u.length<=9223372036854775807:=by{simp[DF,GA,As,maxLen]at C;have:=C.1;omega};simp only[DN,dB]at B;refine Ae Bw func248 O [1,2,3] ?_;have J:∀p:Nat,Dw q s n x u.length=(((u.length:Int)==(p:Int))&&(s==9||n==0)&&(s==8||x==[]))->ia Tryz.f248.ntmps (CB []) (IZ yT Tryz.f248.results.toList<|.ret Mz []) [.code<|Ek Tryz.f248 3] [(4,i7 p),(1,.Kp<|.bool q),(2,.ref 1 0)] [(1,some<|.NA 25 4<|As<|.mk s n x u)] [2,3]:=by{intro p V;have W:(((u.length:Int)==(p:Int))&&(s==9||n==0)&&(s==8||x==[]))=true:=by{rw[<- V];exact B.1};refine td [] O (by simp[A1];grind)<|CL O (λ_=>Cm _ ?_) (by simp) ?_;{simp at W ⊢;grind};refine Di O<|Ak (λi:Nat=>[(69,i7 i),(68,i7 u.length),(67,.Kp<|.sl<|A3 u),(1,.Kp<|.bool q),(2,.ref 1 0)]) (λ_=>[(1,some<|.NA 25 4<|As<|.mk s n x u)]) [2,3] (λi=>u.length-i) (λi=>i<=u.length/\DG q (u.drop i)=true) 0 ⟨AK _,B.2⟩ ⟨rfl,B2<|by simp,AB⟩ AD O λi a b=>?_;refine Jl O ?_;have y:=a.2;refine Aa O (λh=>?_) λh=>?_;simp at h;let⟨t,D⟩:=Aq h;rw[Av D]at y;simp only[DG,dB]at y;exact Jl O<|rl O (AS D)<|Di O<|Ao [] [] [] O (Pq q t y.1) ab O O<|Di O<|Ad (b (i+1) (by omega) ⟨by omega,y.2⟩) ⟨Bc,B9⟩ AD O;exact Jl O<|Bq ⟨_,AL⟩};by_cases G:s=1;subst G;exact Cq [.a,.a,.s] O<|Ad (J 0<|by simp[Dw]) AB AD O;by_cases H:s=2;subst H;exact Cq [.a,.a,.a,.s] O<|Ad (J 0<|by simp[Dw]) AB AD O;by_cases K:s=3;subst K;exact Cq [.a,.a,.a,.s] O<|Ad (J 0<|by simp[Dw]) AB AD O;by_cases L:s=4;subst L;exact Cq (DL 4 [.s]) O<|Ad (J 2<|by simp[Dw]) AB AD O;by_cases M:s=5;subst M;exact Cq (DL 6 [.s]) O<|Ad (J 1<|by simp[Dw]) AB AD O;by_cases N:s=6;subst N;exact Cq (DL 7 [.s]) O<|Ad (J 1<|by simp[Dw]) AB AD O;by_cases R:s=7;subst R;exact Cq (DL 7 [.s]) O<|Ad (J 1<|by simp[Dw]) AB AD O;by_cases T:s=8;{subst T;by_cases A:Gc x=true;exact YL (DL 7 [.a]) O<|Ac O (Gk x)<|Di O<|Ac O (Cm _ A)<|Cq [.s] O<|Ad (J 0<|by simp[Dw,A]) AB AD O;{exfalso;have:=B.1;simp[Dw]at this;simp at A;grind}};by_cases U:s=9;{subst U;by_cases A:(q&&EK n 0 99)=true;{exact YL (DL 8 [.a]) O<|Ac O (Cm _ (by simp[EK]at A ⊢;grind))<|Cq [.s] O<|Ad (J 0 (by simp[Dw,EK]at A ⊢;grind)) AB AD O};{exfalso;have:=B.1;simp[Dw]at this;simp at A;grind}};exfalso;have:=B.1;simp[Dw,G,H,K,L,M,N,R,T,U]at this
termination_by t=>SizeOf.sizeOf t
decreasing_by all_goals(have:=C8<|AE D;simp_wf;omega)
def fd:=@Bool.true_eq_false
def gc:=@false_or
def YG (q:Bool):∀(t:Y),DN q t=false->ed 248 [.Kp<|.agg<|As t,.Kp<|.bool q] [] (.ix HS)
 |.mk s n x y,C=>by refine Gt 0 O λB=>?_;have d:y.length<=9223372036854775807:=by{simp[DF,GA,As,maxLen]at B;have:=B.1;omega};simp only[DN,PD]at C;refine Ae Bw func248 O [1,2,3] ?_;have J:∀p:Nat,Dw q s n x y.length=(((y.length:Int)==(p:Int))&&(s==9||n==0)&&(s==8||x==[]))->ia Tryz.f248.ntmps (CB []) (IZ yT Tryz.f248.results.toList<|.ix HS) [.code<|Ek Tryz.f248 3] [(4,i7 p),(1,.Kp<|.bool q),(2,.ref 1 0)] [(1,some<|.NA 25 4<|As<|.mk s n x y)] [2,3]:=by{intro p a;by_cases D:(((y.length:Int)==(p:Int))&&(s==9||n==0)&&(s==8||x==[]))=true;rotate_left;{exact td [] O (by simp[A1];grind)<|AM [] O (by simp) (CZ _ (by simp at D ⊢;grind)) ab O O};rw[a,D]at C;simp only[fd,gc]at C;refine td [] O (by simp[A1];grind)<|CL O (λ_=>Cm _ ?_) (by simp) ?_;{simp at D ⊢;grind};refine Di O<|Ak (λi:Nat=>[(69,i7 i),(68,i7 y.length),(67,.Kp<|.sl<|A3 y),(1,.Kp<|.bool q),(2,.ref 1 0)]) (λ_=>[(1,some<|.NA 25 4<|As<|.mk s n x y)]) [2,3] (λi=>y.length-i) (λi=>i<=y.length/\DG q (y.drop i)=false) 0 ⟨AK _,C⟩ ⟨rfl,B2<|by simp,AB⟩ AD O λi b c=>?_;refine Jl O ?_;have u:=b.2;refine Aa O (λh=>?_) λh=>?_;simp at h;let⟨t,G⟩:=Aq h;rw[Av G]at u;simp only[DG,PD]at u;refine Jl O<|rl O (AS G)<|Di O ?_;by_cases H:DN q t=true;exact Ao [] [] [] O (Pq q t H) ab O O<|Di O<|Ad (c (i+1) (by omega) ⟨by omega,by rw[H]at u;simpa using u⟩) ⟨Bc,B9⟩ AD O;exact AM [] O (by simp) (YG q t<|by simpa using H) ab O O;exfalso;simp at h;rw[Bt<|by omega]at u;simp[DG]at u};by_cases K:s=1;subst K;exact Cq [.a,.a,.s] O<|Ad (J 0<|by simp[Dw]) AB AD O;by_cases L:s=2;subst L;exact Cq [.a,.a,.a,.s] O<|Ad (J 0<|by simp[Dw]) AB AD O;by_cases M:s=3;subst M;exact Cq [.a,.a,.a,.s] O<|Ad (J 0<|by simp[Dw]) AB AD O;by_cases N:s=4;subst N;exact Cq (DL 4 [.s]) O<|Ad (J 2<|by simp[Dw]) AB AD O;by_cases R:s=5;subst R;exact Cq (DL 6 [.s]) O<|Ad (J 1<|by simp[Dw]) AB AD O;by_cases T:s=6;subst T;exact Cq (DL 7 [.s]) O<|Ad (J 1<|by simp[Dw]) AB AD O;by_cases U:s=7;subst U;exact Cq (DL 7 [.s]) O<|Ad (J 1<|by simp[Dw]) AB AD O;by_cases V:s=8;subst V;by_cases A:Gc x=true;exact YL (DL 7 [.a]) O<|Ac O (Gk x)<|Di O<|Ac O (Cm _ A)<|Cq [.s] O<|Ad (J 0<|by simp[Dw,A]) AB AD O;exact YL (DL 7 [.a]) O<|Ac O (Gk x)<|Di O<|AM [] O (by simp) (CZ _<|by simpa using A) ab O O;by_cases W:s=9;{subst W;by_cases A:(q&&EK n 0 99)=true;{exact YL (DL 8 [.a]) O<|Ac O (Cm _ (by simp[EK]at A ⊢;grind))<|Cq [.s] O<|Ad (J 0 (by simp[Dw,EK]at A ⊢;grind)) AB AD O};{exact YL (DL 8 [.a]) O<|AM [] O (by simp) (CZ _ (by simp[EK]at A ⊢;grind)) ab O O}};exact tg [.f,.f,.f,.f,.f,.f,.f,.f,.f] O (by simp[K,L,M,N,R,T,U,V,W])<|AM [] O (by simp) (CZ _ O) ab O O
termination_by t=>SizeOf.sizeOf t
decreasing_by all_goals(have:=C8<|AE G;simp_wf;omega)
def hmf:∀(fn:Fn) (first cap:Array Value) (w:World),(Instr.makeFunc fn first cap).run prog w=.ok (.func fn first cap) w:=λ_ _ _ _=>rfl
def cq:=@callsD_of_wpS
def cl:=@wpS_seq
def bh:=@wpS_region
def dz:=@wpS_cond
def dk:=@wpS_of_wp
def kX (p:Addr) (w:World):CallsD prog 253 #[.pointer<|some p] .returning w λe q w'=>e=.returned (.tuple #[])/\q=.returning/\w'=w:=by refine cq func253 O λh y u=>?_;apply cl;apply bh;simp[wpOpsS,go_sem,recoverD,u,Tryz.ntmps253,Exit.thenS];apply cl;apply bh;simp[wpOpsS,go_sem,Exit.thenS];refine dz (t:=false) (by simp[Act.eval,Array.replicate]) ?_;simp only[aq,En];refine dk<|wp_skip ?_;cases h;simp_all [bodyPostS,results,Tryz.results253]
def ce:=@World.cell?_alloc_past
def dm:=@RowKit.frozen?_alloc_cells
def kY (h:Nat) (x:Value) (w:World) (p:h<w.heap.size) (y:w.cell? ⟨h,0,none⟩=some x) (A:w.frozen? ⟨h,0,none⟩=false):CallsD prog 253 #[.pointer<|some ⟨h,0,none⟩] (.panicking [{ v:=.iface 293<|.agg #[],recovered:=false }]) w λe B w'=>e=.returned (.tuple #[])/\B=.panicking [{ v:=.iface 293<|.agg #[],recovered:=true }]/\w'=(w.setCell ⟨h,0,none⟩<|.bool false).alloc (.cells #[] 293):=by refine cq func253 O λq H u=>?_;change Code.wpS _ _ _ { tmps:=#[.pointer<|some ⟨h,0,none⟩,undef,undef,undef,undef,undef,undef,undef,undef,undef,undef,undef,undef,undef,undef],defers:=[] } _ _;apply cl;apply bh;simp[wpOpsS,go_sem,recoverD,u,Tryz.ntmps253,Exit.thenS];apply cl;apply bh;simp[wpOpsS,go_sem,Exit.thenS];refine dz (t:=true) (by simp[Act.eval,Array.replicate]) ?_;simp only[aw];refine dk ?_;clear u;have C:∀w:World,(Instr.typeAssert (.iface 293<|.agg #[]) 20 293 true).run prog w=.ok (.tuple #[.agg #[],.bool true]) w:=λ_=>by{kernel_rfl};have D:(w.alloc<|.cells #[] 293).cell? ⟨h,0,none⟩=some x:=by{rw[ce _ _ _ p];exact y};have G:(w.alloc<|.cells #[] 293).frozen? ⟨h,0,none⟩=false:=by{rw[dm];exact A};go_wp2;simp[bodyPostS,results,Tryz.results253]
abbrev qj:=Calls prog
def cw:=@leaves_cons
def kW (g:FuncId) (B C:Array Value) (w:World) (K:World->Prop) (D:World->Prop)
  (G:(callFunc g<|B++C).run prog (w.alloc<|.cells #[.bool false] 4)=.ok (.enter g<|B++C) (w.alloc<|.cells #[.bool false] 4))
  (u:qj g (B++C) (w.alloc<|.cells #[.bool false] 4) λe w'=>match e with
   |.returned _=>K w'
   |.panicked h=>h=[{ v:=.iface 293<|.agg #[],recovered:=false }]/\D w'
   |.outgrown=>False)
  (M:∀w',K w'->w'.heap[w.heap.size]?=some (.cells #[.bool false] 4 (0,0))) (q:∀w',D w'->w'.heap[w.heap.size]?=some (.cells #[.bool false] 4 (0,0))) :
  qj 189 #[.func (.func g) B C] w λe w'=>(e=.returned (.bool true)/\∃A,K A/\w'=A.setCell ⟨w.heap.size,0,none⟩ (.bool true)) \/
   (e=.returned (.bool false)/\∃A,D A/\w'=(A.setCell ⟨w.heap.size,0,none⟩<|.bool false).alloc (.cells #[] 293)):=by
 go_enter_defers func189,Tryz.ntmps189
 have hmf:=hmf
 go_wp2_with fail
 clear G;refine u.mono ?_;intro e w' p;cases e with
 |outgrown=>exact p.elim
 |returned v=>
  have H:w'.cell? ⟨w.heap.size,0,none⟩=some (.bool false):=by unfold World.cell?;simp[M w' p]
  have N:w'.frozen? ⟨w.heap.size,0,none⟩=false:=by unfold World.frozen?;simp[M w' p]
  simp only
  go_wp2
  refine cw (f:=253) (args:=#[.pointer<|some ⟨w.heap.size,0,none⟩]) (by simp) (by simp[go_sem])<|(kX ⟨w.heap.size,0,none⟩ _).mono ?_;rintro e R J ⟨rfl,rfl,rfl⟩;simp[Leaves,settle,results,Tryz.results189,go_sem,H];exact⟨w',p,rfl⟩
 |panicked h=>
  obtain⟨rfl,p⟩:=p;have H:w'.cell? ⟨w.heap.size,0,none⟩=some (.bool false):=by unfold World.cell?;simp[q w' p]
  have N:w'.frozen? ⟨w.heap.size,0,none⟩=false:=by unfold World.frozen?;simp[q w' p]
  have y:w.heap.size<w'.heap.size:=(Ht.1<|q w' p).1;refine cw (f:=253) (args:=#[.pointer<|some ⟨w.heap.size,0,none⟩]) (by simp) (by simp[go_sem])<|(kY w.heap.size _ _ y H N).mono ?_;rintro e R J ⟨rfl,rfl,rfl⟩;have L:((w'.setCell ⟨w.heap.size,0,none⟩<|.bool false).alloc<|.cells #[] 293).cell? ⟨w.heap.size,0,none⟩=some (.bool false):=by
   rw[FD<|q w' p,ce _ _ _<|by simpa using y];unfold World.cell?;simp[y]
  simp[Leaves,settle,results,Tryz.results189,go_sem,L];exact⟨w',p,rfl⟩
def Mm:O8 prog 189 293 4:=λg h p w K q u y A B=>kW g h p w K q u y A B
def Ru {g: FuncId} {H: Func} {N: Code} (h:prog.funcs[g]? = some H) (p:(H.name=="runtime.NumGoroutine")=false) (q:H.body=some N) (u:ed g [.ref 1 0] [(1, some (.NA t1 C K))] (.ret Mz [(1, some (.NA t1 C R))])) :
  ed 133 [.fn (.func g) [] [.ref 1 0]] [(1,some (.NA t1 C K))] (.ret (.Kp (.int .i64 0)) [(1,some (.NA t1 C R))]):=by
 exact Ae Bw func133 O [2,3,4]<|Di O<|Af O (Lu func189 (by decide +kernel) O Mm h p q u) Az O<|Cq [.a] O<|Ah ⟨_,rfl,tV O,AD⟩
def Uh {g: FuncId} {H: Func} {N: Code} (h:prog.funcs[g]? = some H) (p:(H.name=="runtime.NumGoroutine")=false) (q:H.body=some N) (u:ed g [.ref 1 0] [(1, some (.NA t1 C K))] (.ix HS)) :
  ed 133 [.fn (.func g) [] [.ref 1 0]] [(1,some (.NA t1 C K))] (.ret (.Kp (.int .i64 2)) []):=by
 exact Ae Bw func133 O [2,3,4]<|Di O<|Af O (N6 func189 (by decide +kernel) O Mm h p q u) Az O<|Cq [.a] O<|Ab O O O
abbrev j7:List (Nat×Nat):=[(1,1),(2,2)]
def eQ {g: FuncId} {H: Func} {N: Code} (p:prog.funcs[g]? = some H) (q:(H.name=="runtime.NumGoroutine")=false) (u:H.body=some N) {h: G2} (y:ed g [.ref 1 0, .ref 2 0] [(1, some (.NA t1 C K)), (2, some (.NA t2 J M))] (.ret Mz [(1, some (.NA t1 C R)), (2, some (.NA t2 J h))])) :
  ed 133 [.fn (.func g) [] [.ref 1 0,.ref 2 0]] [(1,some (.NA t1 C K)),(2,some (.NA t2 J M))] (.ret (.Kp (.int .i64 0)) [(1,some (.NA t1 C R)),(2,some (.NA t2 J h))]):=by
 exact Ae Bw func133 O [3,4,5]<|Di O<|Ao [] j7 [] O (Lu func189 (by decide +kernel) O Mm p q u y) ⟨⟨rfl,rfl,rfl⟩,Az⟩ O O<|Cq [.a] O<|Ah ⟨_,rfl,tV O,⟨rfl,AD⟩⟩
def mQ {g: FuncId} {H: Func} {N: Code} (h:prog.funcs[g]? = some H) (p:(H.name=="runtime.NumGoroutine")=false) (q:H.body=some N) (u:ed g [.ref 1 0, .ref 2 0] [(1, some (.NA t1 C K)), (2, some (.NA t2 J M))] (.ix HS)) :
  ed 133 [.fn (.func g) [] [.ref 1 0,.ref 2 0]] [(1,some (.NA t1 C K)),(2,some (.NA t2 J M))] (.ret (.Kp (.int .i64 2)) []):=by
 exact Ae Bw func133 O [3,4,5]<|Di O<|Ao [] j7 [] O (N6 func189 (by decide +kernel) O Mm h p q u) ⟨⟨rfl,rfl,rfl⟩,Az⟩ O O<|Cq [.a] O<|Ab O O O
def UB (b:Bool):V:=.int .i64<|bif b then 0 else 2
def AW (h:Bool) (t:Y):Bool:=decide (Bn t<=12)&&DN h t
def lM (t:Y) (p:Bool) (h:AW p t=true):ed 246 [.ref 1 0,.ref 2 0] [(1,some<|.NA 25 4<|As t),(2,some<|.NA 4 1 [.bool p])]<|.ret Mz [(1,some<|.NA 25 4<|As t),(2,some<|.NA 4 1 [.bool p])]:=by simp only[AW,Am,am]at h;exact Ae Bw func246 O [3,4,5]<|Di O<|Ao [] [(3,1)] [] O (On t 12 (by omega)<|by decide) Az O O<|Di O<|Ao [] [] [] O (Pq p t h.2) ab O O<|Di O<|Bq ⟨_,rfl,rfl,AL⟩
def sV (t:Y) (p:Bool) (h:AW p t=false):ed 246 [.ref 1 0,.ref 2 0] [(1,some<|.NA 25 4<|As t),(2,some<|.NA 4 1 [.bool p])]<|.ix HS:=by simp only[AW,PD,decide_eq_false_iff_not]at h;refine Ae Bw func246 O [3,4,5]<|Di O ?_;by_cases q:Bn t<=12;exact Ao [] [(3,1)] [] O (On t 12 (by omega)<|by decide) Az O O<|Di O<|AM [] O (by simp) (YG p t<|by simpa[q]using h) ab O O;exact AM [(3,1)] O (by simp) (lD t 12 (by omega) (by decide)<|by decide) Az O O
def ZY (t:Y) (p:Bool):ca 176 [.agg<|As t,.bool p]<|UB<|AW p t:=by refine Ae Bw func176 O [1,2,3]<|Di O ?_;cases h:AW p t with|true=>{exact Ao [] j7 [] O (eQ func246 (by decide +kernel) O<|lM t p h) oO O O<|Di O<|Ab O O O}|false=>{exact Ao [] j7 [] O (mQ func246 (by decide +kernel) O<|sV t p h) oO O O<|Di O<|Ab O O O}
def fF (t:Y):ca 114 [.agg<|As t]<|UB<|AW true t:=by exact Ae Bw func114 O [1,2,3]<|Di O<|Al O (ZY t true)<|Di O<|Ab O O O
def Vf (t:Y):ca 187 [.agg<|As t]<|.bool<|AW false t:=by refine Ae Bw func187 O [1,2,3]<|Di O<|Al O (ZY t false)<|Di O<|Ab O O (af _ ?_);cases AW false t<;>rfl
def nz:V->V->Bool
 |.str a,.str b=>a==b
 |.int _ a,.int _ b=>a==b
 |.bool a,.bool b=>a==b
 |_,_=>false
def IE:L1 (V×V)->V->Option V
 |[],_=>none
 |(k,d)::r,x=>if nz x k then some d else IE r x
def GE:L1 (V×V)->V->V->L1 (V×V)
 |[],x,d=>[(x,d)]
 |(k,e)::r,x,d=>if nz x k then(x,d)::r else(k,e)::GE r x d
def Ms:Sh->Option TypeDesc
 |.str=>some .string
 |.int k=>some (.int k)
 |_=>none
def Jr:Sh->V->Bool
 |.str,.str _=>true
 |.int k,.int h _=>decide (h=k)
 |_,_=>false
def O1 {t:TypeId} {sh:Sh} {p:TypeDesc} (h:Ms sh=some p) (q:XL P t sh):P.underlying t=some p:=by cases sh<;>simp only[Ms,reduceCtorEq,Co]at h<;>subst h<;>exact q
def J5 {sh:Sh} {p:TypeDesc} (h:Ms sh=some p) (q:Jr sh x=true) (u:PB I v x):IsKey p v:=by cases sh<;>simp only[Ms,reduceCtorEq,Co]at h<;>subst h<;>cases x<;>simp[Jr]at q<;>cases u<;>simp[IsKey,q]
def zlt {sh:Sh} {u:Value} {y:V} (p:Jr sh x=true) (q:Jr sh y=true) (A:PB I v x) (B:PB I u y):nz x y=true↔v=u:=by cases x with|str a=>{cases y with|str b=>obtain⟨s,rfl,rfl⟩:=A.jl;obtain⟨t,rfl,rfl⟩:=B.jl;simp only[nz,an,Value.string.injEq];constructor;intro h;obtain⟨⟨s⟩⟩:=s;obtain⟨⟨t⟩⟩:=t;simp at h;rw[h];intro h;rw[h]|_=>{cases sh<;>simp[Jr]at p q}}|int k i=>{cases y with|int C j=>obtain rfl:=A.da;obtain rfl:=B.da;cases sh<;>simp[Jr]at p q;subst p;subst q;simp[nz]|_=>{cases sh<;>simp[Jr]at p q}}|_=>{cases sh<;>simp[Jr]at p}
abbrev c7:=L1 (V×V)
def NE {sh:Sh} {K:TypeDesc} {v:Value} {x:V} (L:Ms sh=some K) (M:Jr sh x=true) (N:PB I v x):∀(l:L1 MapEntry) (u:c7) (i:Nat),l.length=u.length->(∀(j:Nat) (e:MapEntry) (p:V×V),l[j]?=some e->u[j]?=some p->PB I e.key p.1/\PB I e.val p.2)->(∀p∈u,Jr sh p.1=true)->(Instr.findNow K v l i=some none/\IE u x=none/\(∀y,GE u x y=u++[(x,y)])/\∀e∈l,e.key≠v)\/∃j e y,Instr.findNow K v l i=some (some (i+j,e.val))/\l[j]?=some e/\e.key=v/\IE u x=some y/\PB I e.val y/\∀z,GE u x z=u.set j (x,z)
 |[],[],i,_,_,_=>.inl ⟨rfl,rfl,λ_=>rfl,λ_ h=>by cases h⟩
 |[],_::_,_,h,_,_=>by simp at h
 |_::_,[],_,h,_,_=>by simp at h
 |e::l,p::u,i,m,h,B=>by let⟨f,n⟩:=h 0 e p rfl rfl;obtain⟨y,g⟩:=p;have C:=B (y,g) (by simp);let⟨r,R,A⟩:=sameNow_of_keys (J5 L M N)<|J5 L C f;have k:=zlt M C N f;cases r with|true=>have D:=A.1 O;have:=k.2 D;exact .inr ⟨0,e,g,by simp[Instr.findNow,R],rfl,D.symm,by simp[IE,this],n,λz=>by simp[GE,this]⟩|false=>{have G:v≠e.key:=λq=>by{have:=A.2 q;cases this};have J:nz x y=false:=by{cases o:nz x y with|false=>rfl|true=>{exact absurd (k.1 o) G}};rcases NE L M N l u (i+1) (by simpa using m) (λj H T a b=>h (j+1) H T (by simpa using a)<|by simpa using b) (λT s=>B T<|by simp[s])with⟨U,W,c,d⟩|⟨j,H,t,U,W,c,d,w,E⟩;refine .inl ⟨by simp[Instr.findNow,R,U],by simp[IE,J,W],λz=>by simp[GE,J,c],λH qk=>?_⟩;rcases Cu.1 qk with rfl|qk;exact λq=>G q.symm;exact d H qk;exact .inr ⟨j+1,H,t,by simp[Instr.findNow,R,U];omega,by simpa using W,c,by simp[IE,J,d],w,λz=>by simp[GE,J,E]⟩}
def pmk (n:Nat) (aa:L1 Nat) (todo:L1 DI):Option (Nat×L1 Nat×Option Nat×L1 DI) :=
 match U3 todo,aa with
 |some o,h::Kr=>match o.guard,o.op with
  |none,.makeMap _ none=>match Cs n o.dst,B4 todo ([],[h])with
   |true,some (_,_,q)=>some (h,Kr,o.dst,q)
   |_,_=>none
  |_,_=>none
 |_,_=>none
def Es {y:K1} {u:S6} (h:pmk n aa todo=some (B,y,d0,u)) (T:G P n F Q u (Cn d0 (.cf B) env) ((B,some<|.map [])::st) y):G P n F Q todo env st aa:=by unfold pmk at h;split at h;rename_i o U Kr V;split at h;rename_i t W A;split at h;rename_i b K q d L;cases h;have H:K=o:=E0 V L;subst H;refine Cc (fr:=[B]) (wr:=[(B,some<|.map [])]) (rd:=[]) L ?_ d (λc M=>by rw[A]at M;cases M) T;intro I μ a7 N a w f J g;refine⟨λ_=>?_,λR=>by rw[AO W]at R;cases R⟩;have C:(execOp a.eval K).run P w=.ok (.value<|.map<|some w.heap.size) (w.alloc<|.map #[] 0):=by{simp only[execOp,A,dF];refine Ft ?_;simp only[Instr.makeMap,ak,ah,al,dt];rfl};rw[C];let⟨D,j,k,l,m⟩:=J.m0 (.map #[] 0) (.map<|some w.heap.size) (λ_ h=>dw h) (.map []) λD _=>⟨w.heap.size,#[],0,rfl,FR w _,rfl,stamped_empty 0,λi e p h=>by simp at h⟩;exact⟨I,D,l,.cf _ _ j,k,m⟩;cases h;cases h;cases h
def wN {id:Nat} {q:c7} (u:No I μ st aa w) (B:A2 st id<|.map q) (C:X I μ v<|.cf id):∃b es h,v=.map (some b)/\μ id=some v/\w.heap[b]?=some (.map es h)/\es.size=q.length/\Stamped es h/\∀(i:Nat) (e:MapEntry) (p:V×V),es[i]?=some e->q[i]?=some p->PB I e.key p.1/\PB I e.val p.2:=by cases C with|cf _ b y=>{obtain⟨g,A,K,es,h,rfl,D,G,H,J⟩:=u.SB id _ B;rw[y]at A;cases A;exact⟨b,es,h,rfl,y,D,G,H,J⟩}
def zdz:Op->Option (TypeId×Operand×Operand×Operand)
 |.mapUpdate t m x y=>some (t,m,x,y)
 |.insert t m x y=>some (t,m,x,y)
 |_=>none
def YT {op:Op} {t:TypeId} {m x y:Operand} (h:zdz op=some (t,m,x,y)):(op=.mapUpdate t m x y\/op=.insert t m x y)/\∀z∈[m,x,y],z∈op.operands.toList:=by unfold zdz at h;split at h;cases h;exact⟨.inl O,by simp[Op.operands]⟩;cases h;exact⟨.inr O,by simp[Op.operands]⟩;cases h
def zmy (L:TT) (env:Env) (st:St) (todo:L1 DI):Option (Nat×L1 (V×V)×Sh×V×V×L1 DI) :=
 match U3 todo with
 |some o=>match o.guard,zdz o.op with
  |none,some (t,m,x,y)=>match o.dst,lk L t,Fi env m,Fi env x,Fi env y with
   |none,some { sh:=.map h _,.. },some (.cf id),some (.Kp p),some u=>match lk L h,lk st id,B4 todo ([id],[id]),toV u with
    |some i,some (some (.map A)),some (_,_,q),some B=>some (id,A,i.sh,p,B,q)
    |_,_,_,_=>none
   |_,_,_,_,_=>none
  |_,_=>none
 |none=>none
def bd:=@MapKept.run_getObj_map
def bq:=@MapKept.run_checkKey
def br:=@MapKept.run_findKey
def bz:=@MapKept.run_setObj_map
def ec:=@MapKept.run_keyThatStays
def Ey (jw:dv P L) {J:c7} {sh:Sh} {T:V} {U:V} {H:S6} {dd:TypeDesc} (h:zmy L env st todo=some (B,J,sh,T,U,H)) (hd:Ms sh=some dd) (hk:Jr sh T=true) (rq:∀p∈J,Jr sh p.1=true) (hg:G P n F Q H env ((B,some<|.map<|GE J T U)::st) aa):G P n F Q todo env st aa:=by unfold zmy at h;split at h;rename_i o ho;split at h;rename_i t m x y ns x6;split at h;rename_i kt et _ _ _ _ id kx' dy' g ht hm hx hy;split at h;rename_i i kv' all o' q vy s hl C hng;cases h;have tk:o'=o:=E0 ho C;subst tk;have hg:G P n F Q H (Cn o'.dst .undef env) ((B,some<|.map<|GE J T U)::st) aa:=by{rw[g];exact hg};refine Cc (fr:=[]) (wr:=[(B,some<|.map<|GE J T U)]) (rd:=[B]) C ?_ (by simp[Cs,g]) (λc hc=>by rcases(YT x6).1 with e|e<;>rw[e]at hc<;>cases hc) hg;intro I μ a7 k8 a w lr lz mv;refine⟨λ_=>?_,λhw=>by rw[AO ns]at hw;cases hw⟩;have K:=B3 mv;let⟨hop2,M⟩:=YT x6;have mf:A2 a7 B<|.map J:=by{unfold A2;rw[lr B<|by simp];exact hl};let⟨b,es,z,e1,hmu,u,N,l,R⟩:=wN lz mf<|K m (M m<|by simp) _ hm;have rx:=(K x (M x<|by simp) _ hx).Ks;have ry:=UI hng<|K y (M y<|by simp) _ hy;have hu:P.underlying t=some (.map kt et):=jw.sh ht;have W:P.underlying kt=some dd:=O1 hd<|jw.sh s;have E:=J5 hd hk rx;have nc:=C7 u;have fin:∀(D:Array MapEntry) (S:Nat),(Instr.mapUpdate t (.map<|some b) (a.eval x)<|a.eval y).run P w=.ok () { w with heap:=w.heap.setIfInBounds b (.map D S) }->D.size=(GE J T U).length->Stamped D S->(∀(i:Nat) (e:MapEntry) (p:V×V),D[i]?=some e->(GE J T U)[i]?=some p->PB I e.key p.1/\PB I e.val p.2)->hG P ((execOp a.eval o').run P w) (λv w'=>∃I' d,No I' d ([(B,some<|.map<|GE J T U)]++a7) k8 w'/\X I' d v .undef/\μ.le d/\fi I μ a7 w I' d ([(B,some<|.map<|GE J T U)]++a7) w') (OF (OE Q) I μ a7 w):=by{intro D S hr A h3 h4;have iu:(execOp a.eval o').run P w=.ok .skip { w with heap:=w.heap.setIfInBounds b (.map D S) }:=by{rcases hop2 with e|e<;>(simp only[execOp,e,e1];simp[hr])};rw[iu];let⟨q1,q2⟩:=lz.update (it:=.map<|GE J T U) (w':={ w with heap:=w.heap.setIfInBounds b (.map D S) }) mf hmu (by rw[e1];rfl) (by simp) O O O (λk hk=>H2<|b9 hk) ⟨b,D,S,e1,by simp[nc],A,h3,h4⟩;exact⟨I,μ,q1,.undef _,Mu.le_refl μ,q2⟩};rcases NE (I:=I) hd hk rx es.toList J 0 (by simpa using N) (λj e p C A=>R j e p (by simpa using C) A) rq with⟨q1,_,q3,q4⟩|⟨j,e,y',q1,q2,q3,_,q5,q6⟩;refine fin _ _ ?_ (by rw[q3];simp[N]) (stamped_push l (key:=a.eval x) (val:=a.eval y) q4) λi e p C A=>?_;simp[Instr.mapUpdate,aj hu,bd u,bq W E,br W q1,bz _ u,Result.andThen];rw[q3]at A;rw[Wx]at C;rw[PH]at A;by_cases s:i=es.size;rw[ae s]at C;cases C;rw[ac<|by omega]at A;rw[show i-J.length=0 by omega]at A;cases A;exact⟨rx,ry⟩;rw[ac s]at C;have:=(Ht.1 C).1;rw[ae<|by omega]at A;exact R i e p C A;have hj:es[j]?=some e:=by{simpa using q2};have u7:∀r,es[j]?=some r->({ r with key:=a.eval x,val:=a.eval y }:MapEntry).key=r.key:=λr f=>by{rw[hj]at f;cases f;exact q3.symm};refine fin (es.modify j λe=>{ e with key:=a.eval x,val:=a.eval y }) z ?_ (by rw[q6];simp[N]) (stamped_modify l _ _ (λ_ _=>rfl) λr _ f=>u7 r f) λi r p C A=>?_;simp[Instr.mapUpdate,aj hu,bd u,bq W E,br W q1,hj,q3,ec E,bz _ u,Result.andThen];rw[q6]at A;rw[dE]at C;rw[dA]at A;by_cases s:j=i;subst s;rw[ae O,hj]at C;cases C;rw[ae O]at A;split at A;cases A;exact⟨rx,ry⟩;cases A;rw[ac s]at C A;exact R i r p C A;cases h;cases h;cases h;cases h
structure PMl where
 kv:List (V×V)
 sh:Sh
 kx:V
 et:TypeId
 two:Bool
 g:Option (Bool×Bool)
 ob:List Prop
 t:Nat
 todo:List DI
def zes (L:TT) (n:Nat) (env:Env) (st:St) (nm:Nat) (todo:L1 DI):Option PMl :=
 match B4 todo ([nm],[])with
 |some (h,o,q)=>match o.op,CQ h env o with
  |.lookup t m k p,some g=>match lk L t,Qb (A1 g) env m,Qb (A1 g) env k with
   |some { sh:=.map u y,.. },some (.cf id,A),some (.Kp B,C)=>match Nat.beq id nm,lk L u,lk st id,Cs n o.dst with
    |true,some i,some (some (.map D)),true=>match o.dst with
     |some t=>some ⟨D,i.sh,B,y,p,g,LC A C,t,q⟩
     |none=>none
    |_,_,_,_=>none
   |_,_,_=>none
  |_,_=>none
 |none=>none
def Id {t:TypeId} (h:(P.info? t).bind (·.zero)=some z):(zeroValue t).run P w=.ok z w:=by cases p:P.info? t with|none=>rw[p]at h;cases h|some q=>{rw[p]at h;have h:q.zero=some z:=h;simp[zeroValue,typeInfo,p,h]}
def H5 (h:Bool) (p:L1<|V×V) (x:V) (zd:V):D :=
 let r:=match IE p x with
  |some y=>(y,true)
  |none=>(zd,false)
 if h then .Kp (.cg [r.1,.bool r.2])else .Kp r.1
def CR (W:dv P L) (nm:Nat) {N:c7} {sh:Sh} {U:V} {et:TypeId} {y:Bool} {t0:Nat} {A:S6} {dd:TypeDesc} {zd:V} {dr:D} (h:zes L n env st nm todo=some ⟨N,sh,U,et,y,g,ob,t0,A⟩) (hd:Ms sh=some dd) (hk:Jr sh U=true) (rq:∀p∈N,Jr sh p.1=true) (kz:A8 ob) (hz:(P.info? et).bind (·.zero)=some z) (hzr:∀I,PB I z zd) (hdr:H5 y N U zd=dr) (hg:G P n F Q A ((t0,gD g dr)::env) st aa):G P n F Q todo env st aa:=by unfold zes at h;split at h;rename_i all o q h1;split at h;rename_i t m k two' g' R ns;split at h;rename_i kt et' _ _ _ _ id o1 kx' o2 ht hm H;split at h;rename_i i kv' T hi hl y7;split at h;rename_i t' f;cases h;have T:=Dm T;subst T;subst hdr;have hg:G P n F Q A (Cn o.dst (gD g<|H5 y N U zd) env) st aa:=by{rw[f];exact hg};refine Cc (fr:=[]) (wr:=[]) (rd:=[id]) h1 (Eo ns λI μ a7 l a w lr r B s=>?_) y7 (λc J=>by rw[R]at J;cases J) hg;rw[R]at B;let⟨ho1,ho2⟩:=BS kz;have rm:=ER hm ho1 s<|B m (by simp[Op.operands]);have rx:=(ER H ho2 s<|B k<|by simp[Op.operands]).Ks;have mf:A2 a7 id<|.map N:=by{unfold A2;rw[lr id<|by simp];exact hl};let⟨b,es,clock,e1,hmu,C,E,hst2,S⟩:=wN r mf rm;have hu:P.underlying t=some (.map kt et):=W.sh ht;have K:P.underlying kt=some dd:=O1 hd<|W.sh hi;have hik:=J5 hd hk rx;have fin:∀(v:Value) (ok:Bool) (d:V),(Instr.lookup t (.map<|some b) (a.eval k) y).run P w=.ok (if y then .tuple #[v,.bool ok]else v) w->PB I v d->H5 y N U zd=(if y then .Kp (.cg [d,.bool ok])else .Kp d)->hG P ((execOp a.eval o).run P w) (λu w'=>∃I' M,No I' M a7 l w'/\X I' M u (H5 y N U zd)/\μ.le M/\fi I μ a7 w I' M a7 w') (OF (OE Q) I μ a7 w):=by{intro v ok d hr hv he;have iu:(execOp a.eval o).run P w=.ok (.value (if y then .tuple #[v,.bool ok]else v)) w:=by{simp only[execOp,R,e1];exact AG hr};rw[iu];refine⟨I,μ,r,?_,Mu.le_refl μ,fi.refl _ _ _ _⟩;rw[he];cases y with|false=>exact .Kp _ _ hv|true=>{refine .Kp _ _<|.cg _ _ O λi c x J H=>?_;match i,J,H with|0,J,H=>cases J;cases H;exact hv|1,J,H=>cases J;cases H;exact .bool _|i+2,J,H=>{simp at H}}};rcases NE (I:=I) hd hk rx es.toList N 0 (by simpa using E) (λj e p h1 h2=>S j e p (by simpa using h1) h2) rq with⟨q1,q2,_,_⟩|⟨j,e,y',q1,q2,q3,q4,q5,q6⟩;refine fin z false zd ?_ (hzr I) (by simp[H5,q2]);simp[Instr.lookup,aj hu,bd C,bq K hik,br K q1,Id hz,Result.andThen];refine fin e.val true y' ?_ q5 (by simp[H5,q4]);simp[Instr.lookup,aj hu,bd C,bq K hik,br K q1,Result.andThen];cases h;cases h;cases h;cases h;cases h
def yV:TT:=yT++[
 (139,⟨.map 9 4,false,1,8,[.Kp .gu]⟩)]
def JA:dv prog yV:=.of_eq (l:=[4,3,9,49,25,182,45,47,5,23,22,73,46,180,71,43,178,40,41,113,111,28,293,195,1,139]) (by kernel_rfl)
def pd (p:S0) (h:run yV n 300 p todo env st aa []=.at k u au Kr ob) (q:A8 ob) (y:cx n F Q k u au Kr):ia n F Q todo env st aa:=JS JA mixed 300 p h q y
def pN (h:run yV n 300 [] todo env st aa []=.at k u au Kr ob) (q:cx n F Q k u au Kr) (p:A8 ob:=by simp):ia n F Q todo env st aa:=pd [] h p q
def pg (p:S0) (h:run yV n 300 p todo env st aa []=.at k u au Kr ob) (q:A8 ob) (y:cx n F Q k u au Kr):cx n F Q todo env st aa:=Jf JA mixed 300 p h q y
def MW (p:S0) (h:run yV n 300 p todo env st aa []=.at k u au Kr ob) (y:cx n F Q k u au Kr) (q:A8 ob:=by simp):cx n F Q todo env st aa:=pg p h q y
def Pz (h:run yV n 300 [] todo env st aa []=.at k u au Kr ob) (q:cx n F Q k u au Kr) (p:A8 ob:=by simp):cx n F Q todo env st aa:=pg [] h p q
def iJ (h:run yV n 300 [] todo env st aa []=.at k u au Kr ob) (q:cx n F Q k u au Kr) (p:A8 ob:=by simp[A1]):cx n F Q todo env st aa:=pg [] h p q
def pi (h:FY yV n env todo=some ⟨es,m,sz,e,g,ob,some t,q⟩) (u:A1 g->0<=m/\es[m.toNat]?=some c/\c.length=sz) (p:A8 ob) (y:cx n F Q q ((t,gD g<|.ip e c 0)::env) st aa):cx n F Q todo env st aa:=H9 JA h u p y
def piz (h:FY yV n env todo=some ⟨es,(i:Int),sz,e,g,ob,some t,q⟩) (u:es[i]?=some c) (y:cx n F Q q ((t,gD g<|.ip e c 0)::env) st aa) (A:c.length=sz:=by simp) (p:A8 ob:=by simp):cx n F Q todo env st aa:=pi h (λ_=>⟨by omega,by simpa using u,A⟩) p y
def pizc (h:FY yV n env todo=some ⟨es,(i:Int),sz,e,g,ob,some t,q⟩) (u:es[i]?=some c) (y:cx n F Q q ((t,gD g<|.ip e c 0)::env) st aa) (A:c.length=sz:=by simp) (p:A8 ob:=by simp[A1]):cx n F Q todo env st aa:=pi h (λ_=>⟨by omega,by simpa using u,A⟩) p y
def Dp (l:L1 Z):L1<|V×V:=l.map λs=>(.str s,.bool true)
def XY (l:L1 Z):fp:=.map<|Dp l
def Da (l:E2):∀p∈Dp l,Jr .str p.1=true:=by intro p h;obtain⟨s,_,rfl⟩:=CC.1 h;rfl
def zil (s x:Z):(s==x)=(x==s):=by rw[Ga,an,an];exact⟨dw,dw⟩
def zH (l:E2) (s:Z):IE (Dp l) (.str s)=if AR l s then some (.bool true)else none:=by induction l with|nil=>rfl|cons x r p=>{simp only[Dp,CK,IE,nz,AR]at p ⊢;rw[p];by_cases h:x=s;subst h;simp;have q:(s==x)=false:=by{simpa using λe=>h e.symm};have u:(x==s)=false:=by{simpa using h};simp[q,u]}
def Hi (l:E2) (s:Z):H5 false (Dp l) (.str s) (.bool false)=.Kp (.bool<|AR l s):=by simp only[H5,zH];cases AR l s<;>rfl
def Qn (l:E2) (s:Z) (h:AR l s=false):GE (Dp l) (.str s) (.bool true)=Dp (l++[s]):=by induction l with|nil=>rfl|cons x r p=>{simp only[AR,Mb]at h;have q:(s==x)=false:=by{rw[zil];exact h.1};simp only[Dp,CK,GE,nz,q,DV]at p ⊢;simp[p h.2]}
def IY:∀(a b p:E2),BZ p (a++b)=(BZ p a&&BZ (p++a) b)
 |[],b,p=>by simp[BZ]
 |x::r,b,p=>by simp[BZ,IY r b<|p++[x],PE]
def RE:∀(t:Y) (p:E2),(BH t&&BZ p (AN t))=true->ed 285 [.Kp<|.agg<|As t,.cf 1] [(1,some<|XY p)] (.ret Mz [(1,some<|XY<|p++AN t)])
 |.mk s n x q,p,H=>by refine Gt 0 O λD=>?_;have c:q.length<=9223372036854775807:=by{simp[DF,GA,As,maxLen]at D;have:=D.1;omega};refine Ae JA func285 O [2,3,4] ?_;have J:∀C:E2,(BT q&&BZ C (AH q))=true->C++AH q=p++AN (.mk s n x q)->ia Tryz.f285.ntmps (CB [(1,some<|XY p)]) (IZ yV Tryz.f285.results.toList<|.ret Mz [(1,some<|XY<|p++AN (.mk s n x q))]) [.code<|Ek Tryz.f285 2] [(1,.cf 1),(2,.ref 2 0)] [(2,some<|.NA 182 4<|As<|.mk s n x q),(1,some<|XY C)] [3,4]:=by{intro C H L;refine pN O<|Ak (λi:Nat=>[(113,i7 i),(112,i7 q.length),(111,.Kp<|.sl<|A3 q),(1,.cf 1),(2,.ref 2 0)]) (λi=>[(2,some<|.NA 182 4<|As<|.mk s n x q),(1,some<|XY<|C++AH (q.take i))]) [3,4] (λi=>q.length-i) (λi=>i<=q.length/\(BT (q.drop i)&&BZ (C++AH (q.take i)) (AH<|q.drop i))=true) 0 ⟨AK _,by simpa[AH]using H⟩ ⟨rfl,B2<|by simp,AB⟩ ⟨rfl,by simp[AH];rfl,ab⟩ O λi a b=>?_;refine pN O ?_;have u:=a.2;refine Aa O (λh=>?_) λh=>?_;simp at h;let⟨t,K⟩:=Aq h;have G:AH (q.take<|i+1)=AH (q.take i)++AN t:=by{rw[Bm K,GO];simp[AH]};rw[Av K]at u;simp only[BT,AH,IY]at u;exact pN O<|piz O (AS K)<|Pz O<|Af O (RE t (C++AH (q.take i)) (by simp only[Am]at u ⊢;exact⟨u.1.1,u.2.1⟩)) Az O<|Pz O<|Ad (b (i+1) (by omega) ⟨by omega,by rw[G,<- CV];simp only[Am]at u ⊢;exact⟨u.1.2,u.2.2⟩⟩) ⟨Bc,B9⟩ ⟨rfl,by rw[G,<- CV];rfl,ab⟩ O;refine pN O ?_;simp at h;refine Bq ⟨_,rfl,rfl,⟨?_,ab⟩⟩;rw[Df<|by omega,L];rfl};simp only[BH,Am]at H;obtain⟨⟨y,B⟩,A⟩:=H;by_cases M:s=1;{subst M;simp[F2,EK]at y;exact pg [.a,.a] O (by simp[A1]<;>grind)<|Ac O (Cm _ (by simp[Bf]at y ⊢;grind))<|MW [.s] O<|Ad (J p (by simpa[AN,B]using A)<|by simp[AN]) AL AL O};by_cases N:s=5;{subst N;simp[F2,EK]at y;exact pg [.a,.a] O (by simp[A1]<;>grind)<|Ac O (Cm _ (by simp[Bf]at y ⊢;grind))<|MW [.s] O<|Ad (J p (by simpa[AN,B]using A)<|by simp[AN]) AL AL O};by_cases R:s=3;{subst R;simp[F2,EK]at y;exact pg [.a,.a,.a,.a] O (by simp[A1]<;>grind)<|Al O (Mg n)<|iJ O<|Ac O (Cm _ (by simp[Bf]at y ⊢;grind))<|MW [.s] O<|Ad (J p (by simpa[AN,B]using A)<|by simp[AN]) AL AL O};by_cases T:s=4;{subst T;simp[F2,EK]at y;exact pg (DL 4 [.a]) O (by simp[A1]<;>grind)<|Ac O (Cm _ (by obtain⟨⟨rfl,rfl⟩,d,e⟩:=y;have:n=0\/n=1:=(by omega);rcases this with rfl|rfl<;>simp))<|MW [.s] O<|Ad (J p (by simpa[AN,B]using A)<|by simp[AN]) AL AL O};by_cases U:s=6;{subst U;simp[F2,EK]at y;exact pg (DL 5 [.a]) O (by simp[A1]<;>grind)<|Al O (Gk x)<|iJ O<|Ac O (Cm _ (by simp[Bf]at y ⊢;grind))<|MW [.s] O<|Ad (J p (by simpa[AN,B]using A)<|by simp[AN]) AL AL O};by_cases V:s=2;{subst V;simp[F2,EK]at y;refine pg [.a,.a,.a] O (by simp[A1]<;>grind)<|Al O (FU x)<|iJ O ?_;have W:AR p x=false:=by{simpa[AN,BZ]using A};refine CR JA 1 O O O (Da p) (by simp[A1]) (z:=.bool false) O (λ_=>.bool _) (Hi p x)<|iJ O<|Ac O (Cm _ (by simp at y ⊢;rw[W];grind))<|Pz O<|Ey JA O O O (Da p) ?_;rw[Qn p x W];have L:q=[]:=by{simpa using y.1.1};subst L;exact MW [.s] O<|Ad (J (p++[x]) (by simp[BT,AH,BZ])<|by simp[AN,AH]) AL AL O};simp[F2,M,V,R,T,N,U]at y
termination_by t=>SizeOf.sizeOf t
decreasing_by all_goals(have:=C8<|AE K;simp_wf;omega)
def fP:∀(t:Y) (p:E2),(BH t&&BZ p (AN t))=false->ed 285 [.Kp<|.agg<|As t,.cf 1] [(1,some<|XY p)] (.ix HS)
 |.mk s n x q,p,B=>by refine Gt 0 O λD=>?_;have c:q.length<=9223372036854775807:=by{simp[DF,GA,As,maxLen]at D;have:=D.1;omega};refine Ae JA func285 O [2,3,4] ?_;have J:∀C:E2,(BT q&&BZ C (AH q))=false->ia Tryz.f285.ntmps (CB [(1,some<|XY p)]) (IZ yV Tryz.f285.results.toList<|.ix HS) [.code<|Ek Tryz.f285 2] [(1,.cf 1),(2,.ref 2 0)] [(2,some<|.NA 182 4<|As<|.mk s n x q),(1,some<|XY C)] [3,4]:=by{intro C B;refine pN O<|Ak (λi:Nat=>[(113,i7 i),(112,i7 q.length),(111,.Kp<|.sl<|A3 q),(1,.cf 1),(2,.ref 2 0)]) (λi=>[(2,some<|.NA 182 4<|As<|.mk s n x q),(1,some<|XY<|C++AH (q.take i))]) [3,4] (λi=>q.length-i) (λi=>i<=q.length/\(BT (q.drop i)&&BZ (C++AH (q.take i)) (AH<|q.drop i))=false) 0 ⟨AK _,by simpa[AH]using B⟩ ⟨rfl,B2<|by simp,AB⟩ ⟨rfl,by simp[AH];rfl,ab⟩ O λi W a=>?_;refine pN O ?_;have A:=W.2;refine Aa O (λh=>?_) λh=>?_;simp at h;let⟨t,K⟩:=Aq h;have G:AH (q.take<|i+1)=AH (q.take i)++AN t:=by{rw[Bm K,GO];simp[AH]};rw[Av K]at A;simp only[BT,AH,IY]at A;refine pN O<|piz O (AS K)<|Pz O ?_;by_cases H:(BH t&&BZ (C++AH (q.take i)) (AN t))=true;exact Af O (RE t (C++AH (q.take i)) H) Az O<|Pz O<|Ad (a (i+1) (by omega) ⟨by omega,by rw[G,<- CV];simp only[Am]at H;rw[H.1,H.2]at A;simpa using A⟩) ⟨Bc,B9⟩ ⟨rfl,by rw[G,<- CV];rfl,ab⟩ O;exact AM [(1,1)] O (by simp) (fP t (C++AH (q.take i))<|by simpa using H) Az O O;exfalso;simp at h;rw[Bt<|by omega]at A;simp[BT,AH,BZ]at A};by_cases L:s=1;{subst L;refine pg [.a,.a] O (by simp[A1]<;>grind) ?_;by_cases u:F2 1 n x q.length=true;{have y:(BT q&&BZ p (AH q))=false:=by{simpa[BH,u,AN]using B};simp[F2,EK]at u;exact Ac O (Cm _ (by simp[Bf]at u ⊢;grind))<|MW [.s] O<|Ad (J p y) AL AL O};{simp[F2,EK]at u;exact AM [] O (by simp) (CZ _ (by simp[Bf]at u ⊢;grind)) ab O O}};by_cases M:s=5;{subst M;refine pg [.a,.a] O (by simp[A1]<;>grind) ?_;by_cases u:F2 5 n x q.length=true;{have y:(BT q&&BZ p (AH q))=false:=by{simpa[BH,u,AN]using B};simp[F2,EK]at u;exact Ac O (Cm _ (by simp[Bf]at u ⊢;grind))<|MW [.s] O<|Ad (J p y) AL AL O};{simp[F2,EK]at u;exact AM [] O (by simp) (CZ _ (by simp[Bf]at u ⊢;grind)) ab O O}};by_cases N:s=3;{subst N;refine pg [.a,.a,.a,.a] O (by simp[A1]<;>grind)<|Al O (Mg n)<|iJ O ?_;by_cases u:F2 3 n x q.length=true;{have y:(BT q&&BZ p (AH q))=false:=by{simpa[BH,u,AN]using B};simp[F2,EK]at u;exact Ac O (Cm _ (by simp[Bf]at u ⊢;grind))<|MW [.s] O<|Ad (J p y) AL AL O};{simp[F2,EK]at u;exact AM [] O (by simp) (CZ _ (by simp[Bf]at u ⊢;grind)) ab O O}};by_cases R:s=4;{subst R;refine pg (DL 4 [.a]) O (by simp[A1]<;>grind) ?_;by_cases u:F2 4 n x q.length=true;have y:(BT q&&BZ p (AH q))=false:=by{simpa[BH,u,AN]using B};simp[F2,EK]at u;exact Ac O (Cm _ (by obtain⟨⟨rfl,rfl⟩,d,e⟩:=u;have:n=0\/n=1:=(by omega);rcases this with rfl|rfl<;>simp))<|MW [.s] O<|Ad (J p y) AL AL O;{simp[F2,EK]at u;exact AM [] O (by simp) (CZ _ (by simp[Bf]at u ⊢;grind)) ab O O}};by_cases T:s=6;{subst T;refine pg (DL 5 [.a]) O (by simp[A1]<;>grind)<|Al O (Gk x)<|iJ O ?_;by_cases u:F2 6 n x q.length=true;{have y:(BT q&&BZ p (AH q))=false:=by{simpa[BH,u,AN]using B};simp[F2,EK]at u;exact Ac O (Cm _ (by simp[Bf]at u ⊢;grind))<|MW [.s] O<|Ad (J p y) AL AL O};{simp[F2,EK]at u;exact AM [] O (by simp) (CZ _ (by simp[Bf]at u ⊢;grind)) ab O O}};by_cases U:s=2;{subst U;refine pg [.a,.a,.a] O (by simp[A1]<;>grind)<|Al O (FU x)<|iJ O<|CR JA 1 O O O (Da p) (by simp[A1]) (z:=.bool false) O (λ_=>.bool _) (Hi p x)<|iJ O<|AM [] O (by simp) (CZ _ ?_) ab O O;simp[BH,F2,AN,BZ]at B;cases b:AR p x with|true=>simp|false=>{simp only[b]at B;by_cases V:q=[];{subst V;simp[BT]at B ⊢;grind};simp[V]}};exact pg [.f,.f,.f,.f,.f,.f] O (by simp[L,U,N,R,M,T])<|AM [] O (by simp) (CZ _ O) ab O O
termination_by t=>SizeOf.sizeOf t
decreasing_by all_goals(have:=C8<|AE K;simp_wf;omega)
def D6 (t:Y):Bool:=decide (Bn t<=12)&&(BH t&&K8 (AN t))
def Yv (t:Y) (h:D6 t=true):ed 283 [.ref 1 0] [(1,some<|.NA 182 4<|As t)]<|.ret Mz [(1,some<|.NA 182 4<|As t)]:=by simp only[D6,Am,am]at h;exact Ae JA func283 O [2,3,4]<|Pz O<|Ao [] [(2,1)] [] O (QY t 12 (by omega)<|by decide) Az O O<|Pz O<|Es O<|Pz O<|Ao [] [(3,1)] [] O (RE t []<|by simpa[K8]using h.2) Az O O<|Pz O<|Bq ⟨_,rfl,rfl,AD⟩
def eS (t:Y) (h:D6 t=false):ed 283 [.ref 1 0] [(1,some<|.NA 182 4<|As t)]<|.ix HS:=by refine Ae JA func283 O [2,3,4]<|Pz O ?_;by_cases p:Bn t<=12;exact Ao [] [(2,1)] [] O (QY t 12 (by omega)<|by decide) Az O O<|Pz O<|Es O<|Pz O<|AM [(3,1)] O (by simp) (fP t []<|by simpa[D6,p,K8]using h) Az O O;exact AM [(2,1)] O (by simp) (xG t 12 (by omega) (by decide)<|by decide) Az O O
def Uv (t:Y):ca 257 [.agg<|As t]<|UB<|D6 t:=by refine Ae JA func257 O [1,2,3]<|Pz O ?_;cases h:D6 t with|true=>{exact Af O (Ru func283 (by decide +kernel) O<|Yv t h) Az O<|Pz O<|Ab O O O}|false=>{exact Af O (Uh func283 (by decide +kernel) O<|eS t h) Az O<|Pz O<|Ab O O O}
def nU:TT:=yV++[
 (296,⟨.struct [(0,4),(1,4),(2,4),(3,3)],true,4,16,[.Kp<|.bool false,.Kp<|.bool false,.Kp<|.bool false,.Kp<|.int .i64 0]⟩)]
def J9:dv prog nU:=.of_eq (l:=[4,3,9,49,25,182,45,47,5,23,22,73,46,180,71,43,178,40,41,113,111,28,293,195,1,139,296]) (by kernel_rfl)
def sd (p:S0) (h:run nU n 300 p todo env st aa []=.at k u au Kr ob) (q:A8 ob) (y:cx n F Q k u au Kr):ia n F Q todo env st aa:=JS J9 mixed 300 p h q y
def zmq (p:S0) (h:run nU n 300 p todo env st aa []=.at k u au Kr ob) (y:cx n F Q k u au Kr) (q:A8 ob:=by simp):ia n F Q todo env st aa:=sd p h q y
def Uy (h:run nU n 300 [] todo env st aa []=.at k u au Kr ob) (q:cx n F Q k u au Kr) (p:A8 ob:=by simp):ia n F Q todo env st aa:=sd [] h p q
def zp4 (h:run nU n 300 [] todo env st aa []=.at k u au Kr ob) (q:cx n F Q k u au Kr) (p:A8 ob:=by simp[A1]):ia n F Q todo env st aa:=sd [] h p q
def sg (p:S0) (h:run nU n 300 p todo env st aa []=.at k u au Kr ob) (q:A8 ob) (y:cx n F Q k u au Kr):cx n F Q todo env st aa:=Jf J9 mixed 300 p h q y
def D7 (p:S0) (h:run nU n 300 p todo env st aa []=.at k u au Kr ob) (y:cx n F Q k u au Kr) (q:A8 ob:=by simp):cx n F Q todo env st aa:=sg p h q y
def G5 (h:run nU n 300 [] todo env st aa []=.at k u au Kr ob) (q:cx n F Q k u au Kr) (p:A8 ob:=by simp):cx n F Q todo env st aa:=sg [] h p q
def ON (p:S0) (h:run nU n 300 p todo env st aa []=.at k u au Kr ob) (y:cx n F Q k u au Kr) (q:A8 ob:=by simp[A1]):cx n F Q todo env st aa:=sg p h q y
def si (h:FY nU n env todo=some ⟨es,m,sz,e,g,ob,some t,q⟩) (u:A1 g->0<=m/\es[m.toNat]?=some c/\c.length=sz) (p:A8 ob) (y:cx n F Q q ((t,gD g<|.ip e c 0)::env) st aa):cx n F Q todo env st aa:=H9 J9 h u p y
def siz (h:FY nU n env todo=some ⟨es,(i:Int),sz,e,g,ob,some t,q⟩) (u:es[i]?=some c) (y:cx n F Q q ((t,gD g<|.ip e c 0)::env) st aa) (A:c.length=sz:=by simp) (p:A8 ob:=by simp):cx n F Q todo env st aa:=si h (λ_=>⟨by omega,by simpa using u,A⟩) p y
def sizc (h:FY nU n env todo=some ⟨es,(i:Int),sz,e,g,ob,some t,q⟩) (u:es[i]?=some c) (y:cx n F Q q ((t,gD g<|.ip e c 0)::env) st aa) (A:c.length=sz:=by simp) (p:A8 ob:=by simp[A1]):cx n F Q todo env st aa:=si h (λ_=>⟨by omega,by simpa using u,A⟩) p y
structure Has where
 n:Bool
 text:Bool
 y8:Bool
 kids:Int
 is:Bool
def AY (op:Int) (k p:Nat):Has :=
 if op=1\/op=2 then⟨true,false,false,0,true⟩
 else if op=3\/op=21\/op=25\/op=28 then⟨false,false,false,0,true⟩
 else if op=4 then⟨false,true,false,0,true⟩
 else if op=5\/op=27 then⟨false,true,false,1,true⟩
 else if op=7 then⟨false,true,false,2,true⟩
 else if op=8 then⟨false,false,false,3,true⟩
 else if op=14 then⟨false,true,false,(if(3:Int)<k then 3 else k),true⟩
 else if op=15 then⟨false,false,true,(IntKind.i64.wrap<|1+(p:Int)),true⟩
 else if op=16\/op=17\/op=19\/op=20\/op=23\/op=26 then⟨false,false,false,1,true⟩
 else if op=24 then⟨true,false,false,1,true⟩
 else if op=6\/op=9\/op=10\/op=11\/op=12\/op=13\/op=18\/op=22 then⟨false,false,false,2,true⟩
 else⟨false,false,false,0,false⟩
def FS (h:Has):L1 V:=[.bool h.n,.bool h.text,.bool h.y8,.int .i64 h.kids]
def gH (op n:Int) (x:Z) (ks:G1) (ps:E1):ca 255 [.agg<|dTmc<|.mk op n x ks ps]<|.cg [.agg<|FS<|AY op ks.length ps.length,.bool (AY op ks.length ps.length).is]:=by refine BJ λi=>?_;simp[DF,GA,dTmc,maxLen]at i;refine Ae J9 func255 O [1,2,3] ?_;by_cases V:op=1;subst V;refine D7 [.a,.a] O<|Ab O O ?_;simp[AY,FS];by_cases W:op=2;subst W;refine D7 [.a,.a] O<|Ab O O ?_;simp[AY,FS];by_cases a:op=3;subst a;refine D7 [.a,.a,.a,.a] O<|Ab O O ?_;simp[AY,FS];by_cases h:op=21;subst h;refine D7 (DL 4 [.a]) O<|Ab O O ?_;simp[AY,FS];by_cases p:op=25;subst p;refine D7 (DL 5 [.a]) O<|Ab O O ?_;simp[AY,FS];by_cases q:op=28;subst q;refine D7 (DL 5 [.a]) O<|Ab O O ?_;simp[AY,FS];by_cases b:op=4;subst b;refine D7 (DL 6 [.a]) O<|Ab O O ?_;simp[AY,FS];by_cases c:op=5;subst c;refine D7 (DL 8 [.a]) O<|Ab O O ?_;simp[AY,FS];by_cases u:op=27;subst u;refine D7 (DL 8 [.a]) O<|Ab O O ?_;simp[AY,FS];by_cases d:op=7;subst d;refine D7 (DL 9 [.a]) O<|Ab O O ?_;simp[AY,FS];by_cases e:op=8;subst e;refine D7 (DL 10 [.a]) O<|Ab O O ?_;simp[AY,FS];by_cases y:op=14;subst y;refine D7 (DL 11 [.a]) O<|Ab O O ?_;simp[AY,FS];by_cases A:op=15;subst A;refine D7 (DL 12 [.a]) O<|Ab O O ?_;simp[AY,FS];by_cases B:op=16;subst B;refine D7 (DL 14 [.a]) O<|Ab O O ?_;simp[AY,FS];by_cases C:op=17;subst C;refine D7 (DL 15 [.a]) O<|Ab O O ?_;simp[AY,FS];by_cases D:op=19;subst D;refine D7 (DL 16 [.a]) O<|Ab O O ?_;simp[AY,FS];by_cases G:op=20;subst G;refine D7 (DL 17 [.a]) O<|Ab O O ?_;simp[AY,FS];by_cases H:op=23;subst H;refine D7 (DL 18 [.a]) O<|Ab O O ?_;simp[AY,FS];by_cases J:op=26;subst J;refine D7 (DL 18 [.a]) O<|Ab O O ?_;simp[AY,FS];by_cases K:op=24;subst K;refine D7 (DL 19 [.a]) O<|Ab O O ?_;simp[AY,FS];by_cases f:op=6;subst f;refine D7 (DL 21 [.a]) O<|Ab O O ?_;simp[AY,FS];by_cases g:op=9;subst g;refine D7 (DL 22 [.a]) O<|Ab O O ?_;simp[AY,FS];by_cases L:op=10;subst L;refine D7 (DL 23 [.a]) O<|Ab O O ?_;simp[AY,FS];by_cases M:op=11;subst M;refine D7 (DL 24 [.a]) O<|Ab O O ?_;simp[AY,FS];by_cases N:op=12;subst N;refine D7 (DL 25 [.a]) O<|Ab O O ?_;simp[AY,FS];by_cases R:op=13;subst R;refine D7 (DL 26 [.a]) O<|Ab O O ?_;simp[AY,FS];by_cases T:op=18;subst T;refine D7 (DL 27 [.a]) O<|Ab O O ?_;simp[AY,FS];by_cases U:op=22;subst U;refine D7 (DL 27 [.a]) O<|Ab O O ?_;simp[AY,FS];refine sg [.f,.f,.f,.f,.f,.f,.f,.f,.f,.f,.f,.f,.f,.f,.f,.f,.f,.f,.f,.f,.f,.f,.f,.f,.f,.f,.f,.f] O (by simp[V,W,a,h,p,q,b,c,u,d,e,y,A,B,C,D,G,H,J,K,f,g,L,M,N,R,T,U])<|Ab O O ?_;simp[AY,FS,V,W,a,h,p,q,b,c,u,d,e,y,A,B,C,D,G,H,J,K,f,g,L,M,N,R,T,U]
def DP (op n:Int) (x:Z) (k p:Nat):Bool:=let h:=AY op k p
 h.is&&((k:Int)==h.kids)&&(h.n||n==0)&&(h.text||x==[])&&(h.y8||(p:Int)==0)
def Dg (op:Int) (x:Z) (k p:Nat):Bool:=!((AY op k p).text&&op != 14)||BW x
def ES (op n:Int) (x:Z) (ks:G1) (ps:E1) (p:Dg op x ks.length ps.length=true):ia Tryz.f191.ntmps (CB []) (IZ nU Tryz.f191.results.toList<|.ret Mz []) [.code<|Ek Tryz.f191 4] [(1,.ref 1 0),(2,.ref 2 0)] [(2,some<|.NA 296 4<|FS<|AY op ks.length ps.length),(1,some<|.NA 49 5<|dTmc<|.mk op n x ks ps)] [3,4]:=by refine zp4 O<|Aa O (λh=>?_) λh=>?_;{refine Uy O<|Al O (FU x)<|G5 O ?_;have q:BW x=true:=by{simp[Dg]at p h;grind};exact Ac O (Cm _ q)<|G5 O<|Bq ⟨_,AL⟩};exact Uy O<|Bq ⟨_,AL⟩
def FB (op n:Int) (x:Z) (ks:G1) (ps:E1) (p:Dg op x ks.length ps.length=false):ia Tryz.f191.ntmps (CB []) (IZ nU Tryz.f191.results.toList<|.ix HS) [.code<|Ek Tryz.f191 4] [(1,.ref 1 0),(2,.ref 2 0)] [(2,some<|.NA 296 4<|FS<|AY op ks.length ps.length),(1,some<|.NA 49 5<|dTmc<|.mk op n x ks ps)] [3,4]:=by refine zp4 O<|Aa O (λh=>?_) λh=>?_;{refine Uy O<|Al O (FU x)<|G5 O ?_;have q:BW x=false:=by{simp[Dg]at p h;grind};exact AM [] O (by simp) (CZ _ q) ab O O};{exfalso;simp[Dg]at p h;grind}
def BI (op n:Int) (x:Z) (ps:L1 Y):Bool :=
 if op=1 then Bf n
 else if op=2 then n==0||n==1
 else if op=24 then decide (0<=n)&&decide (n<4)
 else if op=14 then Gc x
 else if op=15 then decide (1<=(ps.length:Int))&&decide ((ps.length:Int)<=5)&&ps.all D6
 else true
def D8 (op n:Int) (x:Z) (k:Nat) (ps:L1 Y):Bool:=DP op n x k ps.length&&BI op n x ps&&Dg op x k ps.length
def YJ (op n:Int) (x:Z) (ks:G1) (ps:E1) (C:D8 op n x ks.length ps=true):ed 191 [.Kp<|.agg<|dTmc<|.mk op n x ks ps] []<|.ret Mz []:=by simp only[D8]at C;refine Ae J9 func191 O [1,2,3,4]<|G5 O<|Al O (gH op n x ks ps)<|sg [] O (by simp[A1,FS]<;>grind) ?_;simp only[Am]at C;obtain⟨⟨J,p⟩,u⟩:=C;refine Ac O (Cm _ (by simp[DP]at J ⊢;grind)) ?_;by_cases D:op=1;{subst D;refine ON [.a] O<|Ac O (Mg n)<|G5 O ?_;simp[BI]at p;exact Ac O (Cm _<|by first|exact p|(simp at p ⊢;grind)|(simp;grind)|grind)<|D7 [.s] O<|Ad (ES _ n x ks ps u) AL AL O};by_cases G:op=2;{subst G;refine ON [.a,.a] O ?_;simp[BI]at p;exact Ac O (Cm _<|by first|exact p|(simp at p ⊢;grind)|(simp;grind)|grind)<|D7 [.s] O<|Ad (ES _ n x ks ps u) AL AL O};by_cases y:op=24;{subst y;refine ON [.a,.a,.a] O ?_;simp[BI]at p;exact Ac O (Cm _<|by first|exact p|(simp at p ⊢;grind)|(simp;grind)|grind)<|D7 [.s] O<|Ad (ES _ n x ks ps u) AL AL O};by_cases A:op=14;{subst A;refine ON [.a,.a,.a,.a] O<|Ac O (Gk x)<|G5 O ?_;simp[BI]at p;exact Ac O (Cm _<|by first|exact p|(simp at p ⊢;grind)|(simp;grind)|grind)<|D7 [.s] O<|Ad (ES _ n x ks ps u) AL AL O};by_cases B:op=15;{subst B;refine ON (DL 4 [.a]) O ?_;simp[BI]at p;refine Ac O (Cm _ (by simp;grind))<|G5 O<|Ak (λi:Nat=>[(101,i7 i),(100,i7 ps.length),(99,.Kp<|.sl<|A3 ps),(1,.ref 1 0),(2,.ref 2 0)]) (λ_=>[(2,some<|.NA 296 4<|FS<|AY 15 ks.length ps.length),(1,some<|.NA 49 5<|dTmc<|.mk 15 n x ks ps)]) [3,4] (λi=>ps.length-i) (λi=>i<=ps.length/\(ps.drop i).all D6=true) 0 ⟨AK _,by simpa using p.2⟩ ⟨rfl,B2<|by simp,AB⟩ AL O λi K L=>?_;refine Uy O ?_;have q:=K.2;refine Aa O (λh=>?_) λh=>?_;{simp at h;let⟨t,H⟩:=Aq h;rw[Av H,Em]at q;refine Uy O<|siz O (AS H)<|G5 O<|Ac O (Uv t)<|G5 O ?_;simp only[Am]at q;have M:=q.1;exact Ac O (Cm _<|by first|rfl|(rw[M];rfl))<|G5 O<|Ad (L (i+1) (by omega) ⟨by omega,q.2⟩) ⟨Bc,B9⟩ AL O};simp at h;rw[Bt<|by omega]at q;exact zmq [.s] O<|Ad (ES _ n x ks ps u) AL AL O};exact sg [.f,.f,.f,.f,.f,.s] O (by simp[D,G,y,A,B])<|Ad (ES _ n x ks ps u) AL AL O
def zdn (op n:Int) (x:Z) (ks:G1) (ps:E1) (q:D8 op n x ks.length ps=false):ed 191 [.Kp<|.agg<|dTmc<|.mk op n x ks ps] []<|.ix HS:=by simp only[D8]at q;refine Ae J9 func191 O [1,2,3,4]<|G5 O<|Al O (gH op n x ks ps)<|sg [] O (by simp[A1,FS]<;>grind) ?_;by_cases D:DP op n x ks.length ps.length=true;rotate_left;{exact AM [] O (by simp) (CZ _ (by simp[DP]at D ⊢;grind)) ab O O};rw[D]at q;refine Ac O (Cm _ (by simp[DP]at D ⊢;grind)) ?_;by_cases G:op=1;{subst G;refine ON [.a] O<|Ac O (Mg n)<|G5 O ?_;by_cases p:BI 1 n x ps=true;{have y:Dg 1 x ks.length ps.length=false:=by{simpa[p]using q};simp[BI]at p;exact Ac O (Cm _<|by first|exact p|(simp at p ⊢;grind)|(simp;grind)|grind)<|D7 [.s] O<|Ad (FB _ n x ks ps y) AL AL O};{simp[BI]at p;exact AM [] O (by simp) (CZ _<|by first|exact p|(simp at p ⊢;grind)|(simp;grind)|grind) ab O O}};by_cases H:op=2;{subst H;refine ON [.a,.a] O ?_;by_cases p:BI 2 n x ps=true;{have y:Dg 2 x ks.length ps.length=false:=by{simpa[p]using q};simp[BI]at p;exact Ac O (Cm _<|by first|exact p|(simp at p ⊢;grind)|(simp;grind)|grind)<|D7 [.s] O<|Ad (FB _ n x ks ps y) AL AL O};{simp[BI]at p;exact AM [] O (by simp) (CZ _<|by first|exact p|(simp at p ⊢;grind)|(simp;grind)|grind) ab O O}};by_cases A:op=24;{subst A;refine ON [.a,.a,.a] O ?_;by_cases p:BI 24 n x ps=true;{have y:Dg 24 x ks.length ps.length=false:=by{simpa[p]using q};simp[BI]at p;exact Ac O (Cm _<|by first|exact p|(simp at p ⊢;grind)|(simp;grind)|grind)<|D7 [.s] O<|Ad (FB _ n x ks ps y) AL AL O};{simp[BI]at p;exact AM [] O (by simp) (CZ _<|by first|exact p|(simp at p ⊢;grind)|(simp;grind)|grind) ab O O}};by_cases B:op=14;{subst B;refine ON [.a,.a,.a,.a] O<|Ac O (Gk x)<|G5 O ?_;by_cases p:BI 14 n x ps=true;{have y:Dg 14 x ks.length ps.length=false:=by{simpa[p]using q};simp[BI]at p;exact Ac O (Cm _<|by first|exact p|(simp at p ⊢;grind)|(simp;grind)|grind)<|D7 [.s] O<|Ad (FB _ n x ks ps y) AL AL O};{simp[BI]at p;exact AM [] O (by simp) (CZ _<|by first|exact p|(simp at p ⊢;grind)|(simp;grind)|grind) ab O O}};by_cases C:op=15;{subst C;refine ON (DL 4 [.a]) O ?_;by_cases p:(decide (1<=(ps.length:Int))&&decide ((ps.length:Int)<=5))=true;rotate_left;{exact AM [] O (by simp) (CZ _ (by simp at p ⊢;grind)) ab O O};have L:ps.length<=5:=by{simp at p;omega};have q:ps.all D6=false\/Dg 15 x ks.length ps.length=false:=by{have e:BI 15 n x ps=((decide (1<=(ps.length:Int))&&decide ((ps.length:Int)<=5))&&ps.all D6):=by{simp only[BI];rfl};rw[e,p]at q;simpa only[Nk,PD]using q};refine Ac O (Cm _ (by simp at p ⊢;grind))<|G5 O<|Ak (λi:Nat=>[(101,i7 i),(100,i7 ps.length),(99,.Kp<|.sl<|A3 ps),(1,.ref 1 0),(2,.ref 2 0)]) (λ_=>[(2,some<|.NA 296 4<|FS<|AY 15 ks.length ps.length),(1,some<|.NA 49 5<|dTmc<|.mk 15 n x ks ps)]) [3,4] (λi=>ps.length-i) (λi=>i<=ps.length/\((ps.drop i).all D6=false\/Dg 15 x ks.length ps.length=false)) 0 ⟨AK _,q⟩ ⟨rfl,B2<|by simp,AB⟩ AL O λi M N=>?_;refine Uy O ?_;have u:=M.2;refine Aa O (λh=>?_) λh=>?_;{simp at h;let⟨t,K⟩:=Aq h;rw[Av K,Em]at u;refine Uy O<|siz O (AS K)<|G5 O<|Ac O (Uv t)<|G5 O ?_;cases J:D6 t with|true=>{rw[J,Nk]at u;exact Ac O (Cm _<|by first|rfl|(rw[J];rfl))<|G5 O<|Ad (N (i+1) (by omega) ⟨by omega,u⟩) ⟨Bc,B9⟩ AL O}|false=>{exact AM [] O (by simp) (CZ _<|by first|rfl|(rw[J];rfl)) ab O O}};simp at h;rw[Bt<|by omega]at u;exact zmq [.s] O<|Ad (FB _ n x ks ps<|by simpa using u) AL AL O};exact sg [.f,.f,.f,.f,.f,.s] O (by simp[G,H,A,B,C])<|Ad (FB _ n x ks ps<|by simpa[BI,G,H,A,B,C]using q) AL AL O
mutual
def H1:Tm->Bool
 |.mk p n x h q=>D8 p n x h.length q&&FZ h
def FZ:L1 Tm->Bool
 |[]=>true
 |t::r=>H1 t&&FZ r
end
def Pr:∀(t:Tm),H1 t=true->ed 136 [.Kp<|.agg<|dTmc t] [] (.ret Mz [])
 |.mk B n x q C,y=>by refine Gt 0 O λu=>?_;have H:q.length<=9223372036854775807:=by{simp[DF,GA,dTmc,maxLen]at u;have:=u.1;omega};simp only[H1,dB]at y;refine Ae J9 func136 O [1,2,3]<|G5 O<|Ao [] [] [] O (YJ B n x q C y.1) ab O O<|G5 O<|Ak (λi:Nat=>[(9,i7 i),(8,i7 q.length),(7,.Kp<|.sl<|Ci q),(1,.ref 1 0)]) (λ_=>[(1,some<|.NA 49 5<|dTmc<|.mk B n x q C)]) [2,3] (λi=>q.length-i) (λi=>i<=q.length/\FZ (q.drop i)=true) 0 ⟨AK _,y.2⟩ ⟨rfl,B2<|by simp,AL⟩ AD O λi D G=>?_;refine Uy O ?_;have p:=D.2;refine Aa O (λh=>?_) λh=>?_;simp at h;let⟨t,A⟩:=Aq h;rw[Av A]at p;simp only[FZ,dB]at p;refine Uy O<|siz O (Ec A)<|G5 O ?_;exact Ao [] [] [] O (Pr t p.1) ab O O<|G5 O<|Ad (G (i+1) (by omega) ⟨by omega,p.2⟩) ⟨Bc,AB⟩ AD O;exact Uy O<|Bq ⟨_,AL⟩
termination_by t=>SizeOf.sizeOf t
decreasing_by all_goals(have:=C8<|AE A;simp_wf;omega)
def YI:∀(t:Tm),H1 t=false->ed 136 [.Kp<|.agg<|dTmc t] [] (.ix HS)
 |.mk y n x q A,B=>by refine Gt 0 O λu=>?_;have K:q.length<=9223372036854775807:=by{simp[DF,GA,dTmc,maxLen]at u;have:=u.1;omega};simp only[H1,PD]at B;refine Ae J9 func136 O [1,2,3]<|G5 O ?_;by_cases C:D8 y n x q.length A=true;rotate_left;exact AM [] O (by simp) (zdn y n x q A<|by simpa using C) ab O O;rw[C]at B;simp only[fd,gc]at B;refine Ao [] [] [] O (YJ y n x q A C) ab O O<|G5 O<|Ak (λi:Nat=>[(9,i7 i),(8,i7 q.length),(7,.Kp<|.sl<|Ci q),(1,.ref 1 0)]) (λ_=>[(1,some<|.NA 49 5<|dTmc<|.mk y n x q A)]) [2,3] (λi=>q.length-i) (λi=>i<=q.length/\FZ (q.drop i)=false) 0 ⟨AK _,B⟩ ⟨rfl,B2<|by simp,AL⟩ AD O λi H J=>?_;refine Uy O ?_;have p:=H.2;refine Aa O (λh=>?_) λh=>?_;simp at h;let⟨t,D⟩:=Aq h;rw[Av D]at p;simp only[FZ,PD]at p;refine Uy O<|siz O (Ec D)<|G5 O ?_;by_cases G:H1 t=true;exact Ao [] [] [] O (Pr t G) ab O O<|G5 O<|Ad (J (i+1) (by omega) ⟨by omega,by rw[G]at p;simpa using p⟩) ⟨Bc,AB⟩ AD O;exact AM [] O (by simp) (YI t<|by simpa using G) ab O O;exfalso;simp at h;rw[Bt<|by omega]at p;simp[FZ]at p
termination_by t=>SizeOf.sizeOf t
decreasing_by all_goals(have:=C8<|AE D;simp_wf;omega)
def G7 (t:Tm):Bool:=decide (0<=B0 t 60 14)&&H1 t
def tT (t:Tm) (h:G7 t=true):ed 134 [.ref 1 0] [(1,some<|.NA 49 5<|dTmc t)]<|.ret Mz [(1,some<|.NA 49 5<|dTmc t)]:=by simp only[G7,Am,am]at h;exact Ae J9 func134 O [2,3,4]<|G5 O<|Ao [] [(2,1)] [] O (Om t 60 14 1 (by decide) (by decide) (by decide) (by decide) (by decide) (by decide) h.1) Az O O<|G5 O<|Ao [] [] [] O (Pr t h.2) ab O O<|G5 O<|Bq ⟨_,rfl,rfl,AD⟩
def zcq (t:Tm) (h:G7 t=false):ed 134 [.ref 1 0] [(1,some<|.NA 49 5<|dTmc t)]<|.ix HS:=by refine Ae J9 func134 O [2,3,4]<|G5 O ?_;by_cases p:0<=B0 t 60 14;exact Ao [] [(2,1)] [] O (Om t 60 14 1 (by decide) (by decide) (by decide) (by decide) (by decide) (by decide) p) Az O O<|G5 O<|AM [] O (by simp) (YI t<|by simpa[G7,p]using h) ab O O;exact AM [(2,1)] O (by simp) (lC t 60 14 1 (by decide) (by decide) (by decide) (by decide) (by decide) (by decide) (by show B0 t 60 14<0;omega)) Az O O
def NV (t:Tm):ca 74 [.agg<|dTmc t]<|UB<|G7 t:=by refine Ae J9 func74 O [1,2,3]<|G5 O ?_;cases h:G7 t with|true=>{exact Af O (Ru func134 (by decide +kernel) O<|tT t h) Az O<|G5 O<|Ab O O O}|false=>{exact Af O (Uh func134 (by decide +kernel) O<|zcq t h) Az O<|G5 O<|Ab O O O}
def oe:TT:=nU++[
 (190,⟨.iface,false,1,16,[.Kp .ft]⟩),
 (183,⟨.sl 190,false,1,24,[.NB]⟩),
 (185,⟨.struct [(0,113)],true,2,40,[.Kp<|.str [],.NB]⟩),
 (187,⟨.struct [(0,71)],true,15,224,[.Kp<|.str [],.Kp<|.str [],.Kp<|.int .i64 0,.Kp<|.int .i64 0,.Kp<|.str [],.NB,.Kp<|.int .i64 0,.Kp<|.int .i64 0,.Kp<|.str [],.NB,.Kp<|.int .i64 0,.Kp<|.int .i64 0,.Kp<|.str [],.NB,.NB]⟩),
 (26,⟨.func,false,1,8,[.Kp .dn]⟩),
 (246,⟨.func,false,1,8,[.Kp .dn]⟩),
 (191,⟨.func,false,1,8,[.Kp .dn]⟩)]
def Ds:dv prog oe:=.of_eq (l:=[4,3,9,49,25,182,45,47,5,23,22,73,46,180,71,43,178,40,41,113,111,28,293,195,1,139,296,190,183,185,187,26,246,191]) (by kernel_rfl)
def ad (p:S0) (h:run oe n 300 p todo env st aa []=.at k u au Kr ob) (q:A8 ob) (y:cx n F Q k u au Kr):ia n F Q todo env st aa:=JS Ds mixed 300 p h q y
def FM (h:run oe n 300 [] todo env st aa []=.at k u au Kr ob) (q:cx n F Q k u au Kr) (p:A8 ob:=by simp):ia n F Q todo env st aa:=ad [] h p q
def ag (p:S0) (h:run oe n 300 p todo env st aa []=.at k u au Kr ob) (q:A8 ob) (y:cx n F Q k u au Kr):cx n F Q todo env st aa:=Jf Ds mixed 300 p h q y
def FL (h:run oe n 300 [] todo env st aa []=.at k u au Kr ob) (q:cx n F Q k u au Kr) (p:A8 ob:=by simp):cx n F Q todo env st aa:=ag [] h p q
def ziv (p:S0) (h:run oe n 300 p todo env st aa []=.at k u au Kr ob) (y:cx n F Q k u au Kr) (q:A8 ob:=by simp[A1]):cx n F Q todo env st aa:=ag p h q y
def Yy (h:run oe n 300 [] todo env st aa []=.at k u au Kr ob) (q:cx n F Q k u au Kr) (p:A8 ob:=by simp[A1]):cx n F Q todo env st aa:=ag [] h p q
def ai (h:FY oe n env todo=some ⟨es,m,sz,e,g,ob,some t,q⟩) (u:A1 g->0<=m/\es[m.toNat]?=some c/\c.length=sz) (p:A8 ob) (y:cx n F Q q ((t,gD g<|.ip e c 0)::env) st aa):cx n F Q todo env st aa:=H9 Ds h u p y
def vj (h:FY oe n env todo=some ⟨es,(i:Int),sz,e,g,ob,some t,q⟩) (u:es[i]?=some c) (y:cx n F Q q ((t,gD g<|.ip e c 0)::env) st aa) (A:c.length=sz:=by simp) (p:A8 ob:=by simp):cx n F Q todo env st aa:=ai h (λ_=>⟨by omega,by simpa using u,A⟩) p y
def aizc (h:FY oe n env todo=some ⟨es,(i:Int),sz,e,g,ob,some t,q⟩) (u:es[i]?=some c) (y:cx n F Q q ((t,gD g<|.ip e c 0)::env) st aa) (A:c.length=sz:=by simp) (p:A8 ob:=by simp[A1]):cx n F Q todo env st aa:=ai h (λ_=>⟨by omega,by simpa using u,A⟩) p y
def Lt {α:Type} (q:α->Bool):L1 α->Nat->Int
 |[],_=>-1
 |e::r,i=>if q e then(i:Int)else Lt q r<|i+1
def QW {α:Type} (q:α->Bool):∀(es:L1 α) (i:Nat),0<=Lt q es i↔es.any q=true
 |[],i=>by simp[Lt]
 |e::r,i=>by have p:=QW q r<|i+1;by_cases h:q e=true;simp[Lt,h];simp only[Lt,h,List.any_cons];simpa using p
def zos (g:FuncId) (u:TypeId) (y:V) (q:G2->Bool) (es:L1<|G2) (A:∀e∈es,e.length=4) (D:es.length<=9223372036854775806) (G:∀e∈es,ed g [.Kp<|.agg e,.ref 1 0] [(1,some<|.NA u 1 [y])]<|.ret (.Kp<|.bool<|q e) [(1,some<|.NA u 1 [y])]):ed 245 [.Kp<|.sl es,.fn (.func g) [] [.ref 1 0]] [(1,some<|.NA u 1 [y])]<|.ret (.Kp<|.int .i64<|Lt q es 0) [(1,some<|.NA u 1 [y])]:=by refine Ae Ds func245 O [2,3,4]<|FL O<|Ak (λi:Nat=>[(8,i7 i),(7,i7 es.length),(0,.Kp<|.sl es),(1,.fn (.func g) [] [.ref 1 0])]) (λ_=>[(1,some<|.NA u 1 [y])]) [2,3,4] (λi=>es.length-i) (λi=>i<=es.length/\Lt q es 0=Lt q (es.drop i) i) 0 ⟨AK _,rfl⟩ ⟨rfl,B2<|by simp,AL⟩ AD O λi H J=>?_;refine FM O ?_;have p:=H.2;refine Aa O (λh=>?_) λh=>?_;simp at h;let⟨e,B⟩:=Aq h;have C:=AE B;rw[Av B]at p;refine FM O<|ai O (c:=e) (λ_=>⟨by simp,by simpa using B,A e C⟩) (by simp)<|ag [] O (by simp[A e C])<|Af O (G e C) Az O<|FL O<|Aa O (λh=>?_) λh=>?_;exact FM O<|Ah ⟨_,rfl,tV<|af _ (by rw[p];simp[Lt,h]),AD⟩;exact FM O<|Ad (J (i+1) (by omega) ⟨by omega,by rw[p];simp[Lt,h]⟩) ⟨Bc,AB⟩ AD O;refine FM O ?_;simp at h;refine Ah ⟨_,rfl,tV<|af _ ?_,AD⟩;rw[p,Bt<|by omega];rfl
def zck (g:FuncId) (h:TypeId) (p:V) (q:G2->Bool) (es:L1<|G2) (y:∀e∈es,e.length=4) (u:es.length<=9223372036854775806) (A:∀e∈es,ed g [.Kp<|.agg e,.ref 1 0] [(1,some<|.NA h 1 [p])]<|.ret (.Kp<|.bool<|q e) [(1,some<|.NA h 1 [p])]):ed 174 [.Kp<|.sl es,.fn (.func g) [] [.ref 1 0]] [(1,some<|.NA h 1 [p])]<|.ret (.Kp<|.bool<|es.any q) [(1,some<|.NA h 1 [p])]:=by refine Ae Ds func174 O [2,3,4]<|FL O<|Af O (zos g h p q es y u A) Az O<|FL O<|Ah ⟨_,rfl,tV<|af _ ?_,AD⟩;rw[Ga,<- QW q es 0];simp
def zqv (g:FuncId) (e:G2) (h:e.length=4) (b:Bool) (p:ca g [.agg e]<|.bool b):ed 252 [.Kp<|.agg e,.ref 1 0] [(1,some<|.NA 26 1 [.fn<|.func g])]<|.ret (.Kp<|.bool (!b)) [(1,some<|.NA 26 1 [.fn<|.func g])]:=by exact Ae Ds func252 O [2,3,4]<|ag [] O (by simp[h])<|Ao [] [] [] O p ab O O<|FL O<|Ah ⟨_,rfl,tV O,AD⟩
def allT (g:FuncId) (q:G2->Bool) (es:L1<|G2) (h:∀e∈es,e.length=4) (p:es.length<=9223372036854775806) (y:∀e∈es,ca g [.agg e]<|.bool<|q e):ca 186 [.sl es,.fn<|.func g]<|.bool<|es.all q:=by refine Ae Ds func186 O [1,2,3]<|FL O<|Af O (zck 252 26 (.fn<|.func g) (λe=>!q e) es h p λe u=>zqv g e (h e u) (q e)<|y e u) Az O<|FL O<|Ab O O (af _ ?_);rw[qQ];simp
def zou (g:FuncId) (u:TypeId) (y:V) (q:G2->Bool) (es:L1<|G2) (A:∀e∈es,e.length=2) (D:es.length<=9223372036854775806) (G:∀e∈es,ed g [.Kp<|.agg e,.ref 1 0] [(1,some<|.NA u 1 [y])]<|.ret (.Kp<|.bool<|q e) [(1,some<|.NA u 1 [y])]):ed 282 [.Kp<|.sl es,.fn (.func g) [] [.ref 1 0]] [(1,some<|.NA u 1 [y])]<|.ret (.Kp<|.int .i64<|Lt q es 0) [(1,some<|.NA u 1 [y])]:=by refine Ae Ds func282 O [2,3,4]<|FL O<|Ak (λi:Nat=>[(8,i7 i),(7,i7 es.length),(0,.Kp<|.sl es),(1,.fn (.func g) [] [.ref 1 0])]) (λ_=>[(1,some<|.NA u 1 [y])]) [2,3,4] (λi=>es.length-i) (λi=>i<=es.length/\Lt q es 0=Lt q (es.drop i) i) 0 ⟨AK _,rfl⟩ ⟨rfl,B2<|by simp,AL⟩ AD O λi H J=>?_;refine FM O ?_;have p:=H.2;refine Aa O (λh=>?_) λh=>?_;simp at h;let⟨e,B⟩:=Aq h;have C:=AE B;rw[Av B]at p;refine FM O<|ai O (c:=e) (λ_=>⟨by simp,by simpa using B,A e C⟩) (by simp)<|ag [] O (by simp[A e C])<|Af O (G e C) Az O<|FL O<|Aa O (λh=>?_) λh=>?_;exact FM O<|Ah ⟨_,rfl,tV<|af _ (by rw[p];simp[Lt,h]),AD⟩;exact FM O<|Ad (J (i+1) (by omega) ⟨by omega,by rw[p];simp[Lt,h]⟩) ⟨Bc,AB⟩ AD O;refine FM O ?_;simp at h;refine Ah ⟨_,rfl,tV<|af _ ?_,AD⟩;rw[p,Bt<|by omega];rfl
def zcm (g:FuncId) (h:TypeId) (p:V) (q:G2->Bool) (es:L1<|G2) (y:∀e∈es,e.length=2) (u:es.length<=9223372036854775806) (A:∀e∈es,ed g [.Kp<|.agg e,.ref 1 0] [(1,some<|.NA h 1 [p])]<|.ret (.Kp<|.bool<|q e) [(1,some<|.NA h 1 [p])]):ed 250 [.Kp<|.sl es,.fn (.func g) [] [.ref 1 0]] [(1,some<|.NA h 1 [p])]<|.ret (.Kp<|.bool<|es.any q) [(1,some<|.NA h 1 [p])]:=by refine Ae Ds func250 O [2,3,4]<|FL O<|Af O (zou g h p q es y u A) Az O<|FL O<|Ah ⟨_,rfl,tV<|af _ ?_,AD⟩;rw[Ga,<- QW q es 0];simp
def zqx (g:FuncId) (e:G2) (h:e.length=2) (b:Bool) (p:ca g [.agg e]<|.bool b):ed 251 [.Kp<|.agg e,.ref 1 0] [(1,some<|.NA 246 1 [.fn<|.func g])]<|.ret (.Kp<|.bool (!b)) [(1,some<|.NA 246 1 [.fn<|.func g])]:=by exact Ae Ds func251 O [2,3,4]<|ag [] O (by simp[h])<|Ao [] [] [] O p ab O O<|FL O<|Ah ⟨_,rfl,tV O,AD⟩
def allC (g:FuncId) (q:G2->Bool) (es:L1<|G2) (h:∀e∈es,e.length=2) (p:es.length<=9223372036854775806) (y:∀e∈es,ca g [.agg e]<|.bool<|q e):ca 184 [.sl es,.fn<|.func g]<|.bool<|es.all q:=by refine Ae Ds func184 O [1,2,3]<|FL O<|Af O (zcm 251 246 (.fn<|.func g) (λe=>!q e) es h p λe u=>zqx g e (h e u) (q e)<|y e u) Az O<|FL O<|Ab O O (af _ ?_);rw[qQ];simp
def zot (g:FuncId) (u:TypeId) (y:V) (q:V->Bool) (es:G2) (B:es.length<=9223372036854775806) (C:∀e∈es,ed g [.Kp e,.ref 1 0] [(1,some<|.NA u 1 [y])]<|.ret (.Kp<|.bool<|q e) [(1,some<|.NA u 1 [y])]):ed 249 [.Kp<|.sl<|es.map λx=>[x],.fn (.func g) [] [.ref 1 0]] [(1,some<|.NA u 1 [y])]<|.ret (.Kp<|.int .i64<|Lt q es 0) [(1,some<|.NA u 1 [y])]:=by refine Ae Ds func249 O [2,3,4]<|FL O<|Ak (λi:Nat=>[(8,i7 i),(7,i7 es.length),(0,.Kp<|.sl<|es.map λx=>[x]),(1,.fn (.func g) [] [.ref 1 0])]) (λ_=>[(1,some<|.NA u 1 [y])]) [2,3,4] (λi=>es.length-i) (λi=>i<=es.length/\Lt q es 0=Lt q (es.drop i) i) 0 ⟨AK _,rfl⟩ ⟨rfl,B2<|by simp,AL⟩ AD O λi D G=>?_;refine FM O ?_;have p:=D.2;refine Aa O (λh=>?_) λh=>?_;simp at h;let⟨e,A⟩:=Aq h;have H:=AE A;rw[Av A]at p;refine FM O<|ai O (c:=[e]) (λ_=>⟨by simp,by simp[A],rfl⟩) (by simp)<|FL O<|Af O (C e H) Az O<|FL O<|Aa O (λh=>?_) λh=>?_;exact FM O<|Ah ⟨_,rfl,tV<|af _ (by rw[p];simp[Lt,h]),AD⟩;exact FM O<|Ad (G (i+1) (by omega) ⟨by omega,by rw[p];simp[Lt,h]⟩) ⟨Bc,AB⟩ AD O;refine FM O ?_;simp at h;refine Ah ⟨_,rfl,tV<|af _ ?_,AD⟩;rw[p,Bt<|by omega];rfl
def zcl (g:FuncId) (h:TypeId) (p:V) (q:V->Bool) (es:G2) (u:es.length<=9223372036854775806) (y:∀e∈es,ed g [.Kp e,.ref 1 0] [(1,some<|.NA h 1 [p])]<|.ret (.Kp<|.bool<|q e) [(1,some<|.NA h 1 [p])]):ed 181 [.Kp<|.sl<|es.map λx=>[x],.fn (.func g) [] [.ref 1 0]] [(1,some<|.NA h 1 [p])]<|.ret (.Kp<|.bool<|es.any q) [(1,some<|.NA h 1 [p])]:=by refine Ae Ds func181 O [2,3,4]<|FL O<|Af O (zot g h p q es u y) Az O<|FL O<|Ah ⟨_,rfl,tV<|af _ ?_,AD⟩;rw[Ga,<- QW q es 0];simp
def zqw (g:FuncId) (e:V) (b:Bool) (h:ca g [e]<|.bool b):ed 182 [.Kp e,.ref 1 0] [(1,some<|.NA 191 1 [.fn<|.func g])]<|.ret (.Kp<|.bool (!b)) [(1,some<|.NA 191 1 [.fn<|.func g])]:=by exact Ae Ds func182 O [2,3,4]<|FL O<|Ao [] [] [] O h ab O O<|FL O<|Ah ⟨_,rfl,tV O,AD⟩
def allI (g:FuncId) (q:V->Bool) (es:G2) (h:es.length<=9223372036854775806) (p:∀e∈es,ca g [e]<|.bool<|q e):ca 127 [.sl<|es.map λx=>[x],.fn<|.func g]<|.bool<|es.all q:=by refine Ae Ds func127 O [1,2,3]<|FL O<|Af O (zcl 182 191 (.fn<|.func g) (λe=>!q e) es h λe u=>zqw g e (q e)<|p e u) Az O<|FL O<|Ab O O (af _ ?_);rw[qQ];simp
def Xy:Sh->Bool
 |.iface|.other=>false
 |_=>true
structure PTa where
 t:TypeId
 v:V
 kj:TypeId
 dst:Option Nat
 todo:List DI
def pta (L:TT) (n:Nat) (env:Env) (todo:L1 DI):Option PTa :=
 match U3 todo with
 |some o=>match o.guard,o.op with
  |none,.typeAssert x _ h true=>match Fi env x,lk L h,Cs n o.dst,B4 todo ([],[])with
   |some (.Kp (.iface t v)),some i,true,some (_,_,q)=>match Xy i.sh with
    |true=>some ⟨t,v,h,o.dst,q⟩
    |false=>none
   |_,_,_,_=>none
  |_,_=>none
 |none=>none
def Te {t p q:TypeId} {i:kh} (G:jp P p i) (C:Xy i.sh=true) {r:Value} (h:(t=p/\r=.tuple #[v,.bool true])\/(t≠p/\∃z,(P.info? p).bind (·.zero)=some z/\r=.tuple #[z,.bool false])):(Instr.typeAssert (.iface t v) q p true).run P w=.ok r w:=by have H:∃u,P.underlying p=some u/\∀J,u≠.interface J:=by{have:=G.sh;generalize i.sh=K at this C;cases K<;>simp only[Xy,En]at C<;>simp only[XL]at this;(case struct M=>obtain⟨f,A,_⟩:=this;exact⟨_,A,λ_ h=>by cases h⟩);(case func=>obtain⟨a,b,c,A⟩:=this;exact⟨_,A,λ_ h=>by cases h⟩);all_goals exact⟨_,this,λ_ h=>by cases h⟩};obtain⟨u,D,y⟩:=H;rcases h with⟨rfl,rfl⟩|⟨L,z,B,rfl⟩;{cases u<;>first|exact absurd rfl (y _)|simp[Instr.typeAssert,aj D]};{have B:=Id (w:=w) B;cases u<;>first|exact absurd rfl (y _)|simp[Instr.typeAssert,aj D,L,B]}
def Sz (K:dv P L) {t0 y:TypeId} {v0:V} {A:S6} (h:pta L n env todo=some ⟨t0,v0,y,d0,A⟩) {r:G2} (s:(t0=y/\r=[v0,.bool true])\/(t0≠y/\∃z zd,(P.info? y).bind (·.zero)=some z/\(∀I,PB I z zd)/\r=[zd,.bool false])) (E:G P n F Q A (Cn d0 (.Kp<|.cg r) env) st aa):G P n F Q todo env st aa:=by unfold pta at h;split at h;rename_i o S;split at h;rename_i x H to' hg J;split at h;rename_i t v i all U q B k hd T;split at h;rename_i p;cases h;have W:U=o:=E0 S T;subst W;refine Cc (fr:=[]) (wr:=[]) (rd:=[]) T ?_ hd (λc p=>by rw[J]at p;cases p) E;intro I μ a7 M a w lr d e;refine⟨λ_=>?_,λl=>by rw[AO hg]at l;cases l⟩;have D:=B3 e;rw[J]at D;have m:=(D x (by simp[Op.operands]) _ B).Ks;generalize hv:a.eval x=v at m;cases m with|iface _ u _ hu=>{have N:∀(z:Value) (b:Bool) (zd:V),(Instr.typeAssert (.iface t0 u) H y true).run P w=.ok (.tuple #[z,.bool b]) w->PB I z zd->r=[zd,.bool b]->hG P ((execOp a.eval U).run P w) (λv w'=>∃f C,No f C ([]++a7) M w'/\X f C v (.Kp<|.cg r)/\μ.le C/\fi I μ a7 w f C ([]++a7) w') (OF (OE Q) I μ a7 w):=by{intro z b zd T h2 h3;have R:(execOp a.eval U).run P w=.ok (.value<|.tuple #[z,.bool b]) w:=by{simp only[execOp,J,hv];exact AG T};rw[R,h3];refine⟨I,μ,d,.Kp _ _<|.cg _ _ O λi c x p B=>?_,Mu.le_refl μ,fi.refl _ _ _ _⟩;match i,p,B with|0,p,B=>cases p;cases B;exact h2|1,p,B=>cases p;cases B;exact .bool _|i+2,p,B=>{simp at B}};rcases s with⟨g,j⟩|⟨g,z,zd,j,e3,e4⟩;exact N u true v0 (Te (K _ _ k) p<|.inl ⟨g,rfl⟩) hu j;exact N z false zd (Te (K _ _ k) p<|.inr ⟨g,z,j,rfl⟩) (e3 I) e4};cases h;cases h;cases h;cases h
mutual
def Ro:∀{a b:Y},As a=As b->a=b
 |.mk s n x B,.mk C D G p,h=>by simp only[As,Cr,V.int.injEq,V.str.injEq,V.sl.injEq,be,ax]at h;obtain⟨q,u,y,A⟩:=h;subst q;subst u;subst y;rw[JT A]
def JT:∀{a b:E1},A3 a=A3 b->a=b
 |[],[],_=>rfl
 |[],_::_,h=>by simp[A3]at h
 |_::_,[],h=>by simp[A3]at h
 |x::r,y::t,h=>by simp only[A3,Cr]at h;rw[Ro h.1,JT h.2]
end
def Xu {a b:Cd} (h:Gv a=Gv b):a=b:=by obtain⟨p,q⟩:=a;obtain⟨u,y⟩:=b;simp only[Gv,Cr,V.str.injEq,V.sl.injEq,be]at h;rw[h.1,JT h.2]
open Classical in
noncomputable def vk {α β:Type} (d:α->β) (f:α->Bool) (e:β):Bool:=decide (∃t,d t=e/\f t=true)
def bg:=@decide_eq_true
def ap:=@decide_eq_false
open Classical in
theorem cN {d:α->β} (q:∀{a b},d a=d b->a=b) (f:α->Bool) (t:α):vk d f (d t)=f t:=by unfold vk;by_cases h:f t=true;rw[h];exact bg ⟨t,rfl,h⟩;simp only[Ww]at h;rw[h];refine ap λ⟨u,y,p⟩=>?_;rw[q y,h]at p;cases p
def cO {d:α->β} (h:∀{a b},d a=d b->a=b) (f:α->Bool) (l:L1 α):(l.map d).all (vk d f)=l.all f:=by rw[Sg];congr 1;funext t;exact cN h f t
def Ug (c:Cd):Bool:=Gc c.name&&decide ((c.args.length:Int)<=3)&&c.args.all (AW false)
def JR (d:Dt):Bool:=Gc d.name&&decide ((1:Int)<=d.cons.length)&&decide ((d.cons.length:Int)<=5)&&d.cons.all Ug
def N8 (f:Fd):Bool:=BW f.name&&BW f.il&&AW false f.from_&&AW false f.kj&&G7 f.body
def zit (ts:E1) (h:ts.length<=9223372036854775806):ca 186 [.sl<|A3 ts,.fn<|.func 187]<|.bool<|ts.all<|AW false:=by have:=allT 187 (vk As<|AW false) (A3 ts) (λe p=>by rw[DC]at p;obtain⟨t,_,rfl⟩:=CC.1 p;simp) (by simpa using h) (λe p=>by{rw[DC]at p;obtain⟨t,_,rfl⟩:=CC.1 p;rw[cN Ro];exact Vf t});rw[DC,cO Ro]at this;rw[DC];exact this
def zT (c:Cd):ca 185 [.agg<|Gv c]<|.bool<|Ug c:=by obtain⟨h,p⟩:=c;refine BJ λq=>?_;simp[DF,GA,Gv,maxLen]at q;refine Ae Ds func185 O [1,2,3]<|Yy O<|Al O (Gk h)<|Yy O<|CL O (λu=>zit p (by simp[A1]at u;omega)) (by simp[A1])<|ag [] O (by simp[A1]<;>grind)<|Ab O O (af _ ?_);simp[Ug]<;>grind
def zmb (cs:L1 Cd) (h:cs.length<=9223372036854775806):ca 184 [.sl<|cs.map Gv,.fn<|.func 185]<|.bool<|cs.all Ug:=by have:=allC 185 (vk Gv Ug) (cs.map Gv) (λe p=>by obtain⟨t,_,rfl⟩:=CC.1 p;rfl) (by simpa using h) (λe p=>by{obtain⟨t,_,rfl⟩:=CC.1 p;rw[cN Xu];exact zT t});rw[cO Xu]at this;exact this
def Q2 (d:Dt):V:=.iface 185<|.agg<|DE d
def MZ (f:Fd):V:=.iface 187<|.agg<|Ed f
def bC:∃z,(prog.info? 185).bind (·.zero)=some z/\∀I,PB I z<|.agg [.str [],.sl []]:=by refine⟨.agg #[.string ⟨#[]⟩,.slice none 0 0],by kernel_rfl,λI=>.agg _ _ O (by decide) λi c x p h=>?_⟩;match i,p,h with|0,p,h=>cases p;cases h;exact .str _ _ O|1,p,h=>cases p;cases h;exact .slnil|i+2,p,h=>{simp at h}
def oY (d:Dt):ca 128 [Q2 d]<|.bool<|JR d:=by obtain⟨h,p⟩:=d;refine BJ λq=>?_;simp[DF,GA,Q2,DE,maxLen]at q;refine Ae Ds func128 O [1,2,3,4]<|Yy O<|Sz Ds O (.inl ⟨rfl,rfl⟩)<|ziv [.a] O<|Al O (Gk h)<|Yy O<|CL O (λu=>zmb p (by simp[A1]at u;omega)) (by simp[A1])<|ag [] O (by simp[A1]<;>grind)<|Ab O O (af _ ?_);simp[JR]<;>grind
def zS (f:Fd):ca 128 [MZ f]<|.bool<|N8 f:=by obtain⟨p,q,⟨C,u,K,y⟩,⟨J,A,M,B⟩,⟨D,G,H,L,N⟩⟩:=f;obtain⟨z,R,h⟩:=bC;refine BJ λT=>Ae Ds func128 O [1,2,3,4]<|Yy O<|Sz Ds O (.inr ⟨by decide,z,_,R,h,rfl⟩)<|ziv [.a] O<|Sz Ds O (.inl ⟨rfl,rfl⟩)<|ziv [.a] O<|Al O (FU p)<|Yy O<|Al O (FU q)<|Yy O<|Al O (Vf<|.mk C u K y)<|Yy O<|Al O (Vf<|.mk J A M B)<|Yy O<|Al O (NV<|.mk D G H L N)<|ag [] O (by simp[A1]<;>grind)<|Ab O O (af _ ?_);simp[N8,UB]<;>grind
inductive og where
 |d (x:Dt)
 |f (x:Fd)
def p0:og->V
 |.d x=>Q2 x
 |.f x=>MZ x
def iM:og->Bool
 |.d x=>JR x
 |.f x=>N8 x
def zeb (p:og):ca 128 [p0 p]<|.bool<|iM p:=by cases p with|d x=>exact oY x|f x=>{exact zS x}
mutual
def zh7:∀{a b:Tm},dTmc a=dTmc b->a=b
 |.mk s n x D G,.mk H J K p q,h=>by simp only[dTmc,Cr,V.int.injEq,V.str.injEq,V.sl.injEq,be,ax]at h;obtain⟨u,y,A,B,C⟩:=h;subst u;subst y;subst A;rw[Xt B,JT C]
def Xt:∀{a b:G1},Ci a=Ci b->a=b
 |[],[],_=>rfl
 |[],_::_,h=>by simp[Ci]at h
 |_::_,[],h=>by simp[Ci]at h
 |x::r,y::t,h=>by simp only[Ci,Cr]at h;rw[zh7 h.1,Xt h.2]
end
def QE:∀{a b:L1 Cd},a.map Gv=b.map Gv->a=b
 |[],[],_=>rfl
 |[],_::_,h=>by simp at h
 |_::_,[],h=>by simp at h
 |x::r,y::t,h=>by simp only[CK,Cr]at h;rw[Xu h.1,QE h.2]
def xX {a b:og} (h:p0 a=p0 b):a=b:=by cases a with|d x=>{cases b with|d y=>obtain⟨K,M⟩:=x;obtain⟨R,F⟩:=y;simp only[p0,Q2,DE,V.iface.injEq,V.agg.injEq,Cr,V.str.injEq,V.sl.injEq,ax,be]at h;rw[h.1,QE h.2]|f y=>{simp[p0,Q2,MZ]at h}}|f x=>{cases b with|d y=>simp[p0,Q2,MZ]at h|f y=>{obtain⟨I,P,⟨C,Q,K,S⟩,⟨J,n2,M,p2⟩,⟨o3,n3,x3,k3,p3⟩⟩:=x;obtain⟨G,H,⟨L,N,T,U⟩,⟨W,c,e,g⟩,⟨i,j,k,l,m⟩⟩:=y;simp only[p0,MZ,Ed,As,dTmc,V.iface.injEq,V.agg.injEq,DV,JJ,Cr,V.str.injEq,V.int.injEq,V.sl.injEq,ax,be]at h;obtain⟨n,o,r,s,t,v,w,z,E,p,q,u,A,B,D⟩:=h;rw[n,o,r,s,t,JT v,w,z,E,JT p,q,u,A,Xt B,JT D]}}
def nH (ps:L1 og) (h:ps.length<=9223372036854775806):ca 127 [.sl<|ps.map λp=>[p0 p],.fn<|.func 128]<|.bool<|ps.all iM:=by have:=allI 128 (vk p0 iM) (ps.map p0) (by simpa using h) (λe q=>by{obtain⟨t,_,rfl⟩:=CC.1 q;rw[cN xX];exact zeb t});rw[cO xX,Wy]at this;exact this
def Li (m:Md):Bool:=BW m.name&&decide ((m.SA.length:Int)<=4)&&decide ((1:Int)<=m.cc.length)&&decide ((m.cc.length:Int)<=5)&&m.SA.all JR&&m.cc.all N8
def OC (l:L1 og):L1<|L1 V:=l.map λp=>[p0 p]
@[simp] theorem rt (l:L1 og):(OC l).length=l.length:=by simp[OC]
def zlu (b:Bool) (k:Nat):D:=match b with
 |false=>.NB
 |true=>.own 2 k
def stP (b:Bool) (m:Md) (es:L1<|L1 V):St:=match b with
 |false=>[(1,some<|.NA 43 3<|dMdc m)]
 |true=>[(2,some<|.row 190 1 es),(1,some<|.NA 43 3<|dMdc m)]
def VG (a b:L1 og):OC (a++b)=OC a++OC b:=by simp[OC]
def fe:=@Bool.not_eq_false'
def yC (m:Md) (b:Bool) (C:L1<|G2) (M:b=false->C=[]) (H:C=OC (m.SA.map .d)) (R:(m.SA.length:Int)<=4) (N:(1:Int)<=m.cc.length) (B:(m.cc.length:Int)<=5):ia Tryz.f70.ntmps (CB []) (IZ oe Tryz.f70.results.toList<|.ret (.Kp<|UB<|m.SA.all JR&&m.cc.all N8) []) [.code<|Ek Tryz.f70 4] [(3,zlu b C.length),(1,.ref 1 0)] (stP b m C) [3,4]:=by cases b with|false=>{have:=M O;subst this;refine FM O<|Ak (λy:Nat×Bool×L1 (G2)=>[(47,i7 y.1),(46,i7 m.cc.length),(45,.Kp<|.sl<|m.cc.map Ed),(3,zlu y.2.1 y.2.2.length),(1,.ref 1 0)]) (λy=>stP y.2.1 m y.2.2) [3,4] (λy=>m.cc.length-y.1) (λy=>y.1<=m.cc.length/\y.2.2=OC (m.SA.map .d++(m.cc.take y.1).map .f)/\(y.2.1=false->y.2.2=[])) (0,false,[]) ⟨AK _,by simpa using H,λ_=>rfl⟩ ⟨rfl,B2<|by simp,AB⟩ AD O λy L J=>?_;obtain⟨i,b,es⟩:=y;obtain⟨G,q,u⟩:=L;simp only at G q u;have K:es.length<=9:=by{have:=af List.length q;simp at this;omega};have p:∀f,m.cc[i]?=some f->es++[[MZ f]]=OC (m.SA.map .d++(m.cc.take<|i+1).map .f):=λf B=>by{rw[Bm B,CG,<- CV,VG,<- q];rfl};have A:¬i<m.cc.length->es=OC (m.SA.map .d++m.cc.map .f):=λh=>by{rw[q,Df<|by omega]};cases b with|false=>have u:=u O;subst u;refine FM O<|Aa O (λh=>?_) λh=>?_;simp at h;let⟨f,B⟩:=Aq h;exact FM O<|vj O (GP B)<|FL O<|B1 Ds O ⟨by simp,by simp[maxLen],by simp,ab⟩<|FL O<|AV 2 4 O<|Ad (J (i+1,true,[]++[[MZ f]]) (by simp only;omega) ⟨by simp only;omega,p f B,λh=>by cases h⟩) ⟨B2<|Gi (by simp only;omega) (by simp only;omega),B9⟩ AL O;simp at h;have:=af List.length<|A (by omega);simp at this;omega|true=>{refine FM O<|Aa O (λh=>?_) λh=>?_;simp at h;let⟨f,B⟩:=Aq h;exact FM O<|vj O (GP B)<|FL O<|B1 Ds O ⟨by simp,by simp[maxLen];omega,by simp;omega,ab⟩<|FL O<|AV 2 4 O<|Ad (J (i+1,true,es++[[MZ f]]) (by simp only;omega) ⟨by simp only;omega,p f B,λh=>by cases h⟩) ⟨B2<|Gi (by simp only;omega) (by simp only;omega),B9⟩ AL O;simp at h;refine Aw O<|BR 2 O<|FM O<|Ac O (by rw[A<|by omega];exact nH _ (by simp;omega))<|FL O ?_;have D:(m.SA.map og.d++m.cc.map og.f).all iM=(m.SA.all JR&&m.cc.all N8):=by{rw[Ik,Sg,Sg];rfl};rw[D];refine Aa O (λh=>?_) λh=>?_;refine FM O<|Ab O O ?_;simp only[KN]at h;rw[h];rfl;refine FM O<|Ab O O ?_;simp only[fe]at h;rw[h];rfl}}|true=>{refine FM O<|Ak (λy:Nat×Bool×L1 (G2)=>[(47,i7 y.1),(46,i7 m.cc.length),(45,.Kp<|.sl<|m.cc.map Ed),(3,zlu y.2.1 y.2.2.length),(1,.ref 1 0)]) (λy=>stP y.2.1 m y.2.2) [3,4] (λy=>m.cc.length-y.1) (λy=>y.1<=m.cc.length/\y.2.2=OC (m.SA.map .d++(m.cc.take y.1).map .f)/\(y.2.1=false->y.2.2=[])) (0,true,C) ⟨AK _,by simpa using H,λh=>by cases h⟩ ⟨rfl,B2<|by simp,AB⟩ AL O λy L J=>?_;obtain⟨i,b,es⟩:=y;obtain⟨G,q,u⟩:=L;simp only at G q u;have K:es.length<=9:=by{have:=af List.length q;simp at this;omega};have p:∀f,m.cc[i]?=some f->es++[[MZ f]]=OC (m.SA.map .d++(m.cc.take<|i+1).map .f):=λf B=>by{rw[Bm B,CG,<- CV,VG,<- q];rfl};have A:¬i<m.cc.length->es=OC (m.SA.map .d++m.cc.map .f):=λh=>by{rw[q,Df<|by omega]};cases b with|false=>have u:=u O;subst u;refine FM O<|Aa O (λh=>?_) λh=>?_;simp at h;let⟨f,B⟩:=Aq h;exact FM O<|vj O (GP B)<|FL O<|B1 Ds O ⟨by simp,by simp[maxLen],by simp,ab⟩<|FL O<|AV 2 4 O<|Ad (J (i+1,true,[]++[[MZ f]]) (by simp only;omega) ⟨by simp only;omega,p f B,λh=>by cases h⟩) ⟨B2<|Gi (by simp only;omega) (by simp only;omega),B9⟩ AL O;simp at h;have:=af List.length<|A (by omega);simp at this;omega|true=>{refine FM O<|Aa O (λh=>?_) λh=>?_;simp at h;let⟨f,B⟩:=Aq h;exact FM O<|vj O (GP B)<|FL O<|B1 Ds O ⟨by simp,by simp[maxLen];omega,by simp;omega,ab⟩<|FL O<|AV 2 4 O<|Ad (J (i+1,true,es++[[MZ f]]) (by simp only;omega) ⟨by simp only;omega,p f B,λh=>by cases h⟩) ⟨B2<|Gi (by simp only;omega) (by simp only;omega),B9⟩ AL O;simp at h;refine Aw O<|BR 2 O<|FM O<|Ac O (by rw[A<|by omega];exact nH _ (by simp;omega))<|FL O ?_;have D:(m.SA.map og.d++m.cc.map og.f).all iM=(m.SA.all JR&&m.cc.all N8):=by{rw[Ik,Sg,Sg];rfl};rw[D];refine Aa O (λh=>?_) λh=>?_;refine FM O<|Ab O O ?_;simp only[KN]at h;rw[h];rfl;refine FM O<|Ab O O ?_;simp only[fe]at h;rw[h];rfl}}
def JZ (m:Md):ca 70 [.agg<|dMdc m]<|UB<|Li m:=by refine BJ λK=>?_;have L:m.SA.length<=9223372036854775807/\m.cc.length<=9223372036854775807:=by{simp[DF,GA,dMdc,maxLen]at K;omega};refine Ae Ds func70 O [1,2,3,4]<|Yy O<|Al O (FU m.name)<|ag [] O (by simp[A1]<;>grind)<|Aa O (λh=>?_) λh=>?_;{refine FM O<|Ab O O (af _ ?_);have:Li m=false:=by{simp at h;simp[Li];grind};rw[this];rfl};have q:BW m.name=true/\(m.SA.length:Int)<=4/\(1:Int)<=m.cc.length/\(m.cc.length:Int)<=5:=by{simp at h;refine⟨?_,?_,?_,?_⟩<;>grind};clear h;have D:Li m=(m.SA.all JR&&m.cc.all N8):=by{simp[Li,q.1,q.2.1,q.2.2.1,q.2.2.2]};rw[D];refine FM O<|Ak (λy:Nat×Bool×L1 (G2)=>[(33,i7 y.1),(32,i7 m.SA.length),(31,.Kp<|.sl<|m.SA.map DE),(3,zlu y.2.1 y.2.2.length),(1,.ref 1 0)]) (λy=>stP y.2.1 m y.2.2) [3,4] (λy=>m.SA.length-y.1) (λy=>y.1<=m.SA.length/\y.2.2=OC ((m.SA.take y.1).map .d)/\(y.2.1=false->y.2.2=[])) (0,false,[]) ⟨AK _,rfl,λ_=>rfl⟩ ⟨rfl,B2<|by simp,AB⟩ AD O λy M H=>?_;obtain⟨i,b,es⟩:=y;obtain⟨G,u,A⟩:=M;simp only at G u A;have J:es.length<=4:=by{have:=af List.length u;simp at this;omega};have B:¬i<m.SA.length->es=OC (m.SA.map .d):=λh=>by{rw[u,Df<|by omega]};have p:∀d,m.SA[i]?=some d->es++[[Q2 d]]=OC ((m.SA.take<|i+1).map .d):=λd C=>by{rw[Bm C,CG,VG,<- u];rfl};cases b with|false=>{have A:=A O;subst A;refine FM O<|Aa O (λh=>?_) λh=>?_;simp at h;let⟨d,C⟩:=Aq h;exact FM O<|vj O (GP C)<|FL O<|B1 Ds O ⟨by simp,by simp[maxLen],by simp,ab⟩<|FL O<|AV 2 4 O<|Ad (H (i+1,true,[]++[[Q2 d]]) (by simp only;omega) ⟨by simp only;omega,p d C,λh=>by cases h⟩) ⟨B2<|Gi (by simp only;omega) (by simp only;omega),B9⟩ AL O;simp at h;exact Aw O<|Ad (yC m false [] (λ_=>rfl) (B<|by omega) q.2.1 q.2.2.1 q.2.2.2) AL AD O}|true=>{refine FM O<|Aa O (λh=>?_) λh=>?_;simp at h;let⟨d,C⟩:=Aq h;exact FM O<|vj O (GP C)<|FL O<|B1 Ds O ⟨by simp,by simp[maxLen];omega,by simp;omega,ab⟩<|FL O<|AV 2 4 O<|Ad (H (i+1,true,es++[[Q2 d]]) (by simp only;omega) ⟨by simp only;omega,p d C,λh=>by cases h⟩) ⟨B2<|Gi (by simp only;omega) (by simp only;omega),B9⟩ AL O;simp at h;exact Aw O<|Ad (yC m true es (λh=>by cases h) (B<|by omega) q.2.1 q.2.2.1 q.2.2.2) AL AL O}
def zpo (P:Program) (I:TA) (μ:Mu) (st:St) (w:World) (d:D) (au:St) (r:Result Next):Prop :=
 hG P r (λu w'=>∃p h,X p h u d/\No p h au [] w'/\l4 (CB st) μ h/\fi I μ st w p h au w') λ_ _=>False
def R8 (j:Nat) (S:jo):St:=[(0,some .ig),(j,some<|.hV 0 S)]
def LB (P:Program) (ds:L1 D) (S:jo) (r:Bool) (S':jo):Prop :=
 ∀I μ w b (xs:Array Value),μ 0=some (.func (.yield b) #[] #[])->No I μ (R8 1 S) [] w->TB I μ xs.toList ds->zpo P I μ (R8 1 S) w (.Kp<|.bool r) (R8 2 S') ((Instr.yield b xs).run P w)
def C9:∀{st:St} {i:Nat} {b:fp},A2 st i b->i∈CB st
 |[],i,b,h=>by simp[A2,lk]at h
 |(s,x)::r,i,b,h=>by by_cases p:s=i;subst p;simp[CB];have:A2 r i b:=by{unfold A2 at h ⊢;rwa [AC _ _ p]at h};simp only[CB,CK,Cu];exact .inr<|C9 this
def zf8 {t:St} {b:fp} (h:A2 (s++t) i b):A2 s i b\/(i∉CB s/\A2 t i b):=by by_cases p:i∈s.map (·.1);left;unfold A2 at h ⊢;rwa [GZ p]at h;right;unfold A2 at h ⊢;rw[Ll p]at h;exact⟨p,h⟩
def ZD {t:St} {b:fp} (h:A2 s i b):A2 (s++t) i b:=by have p:i∈s.map (·.1):=C9 h;unfold A2 at h ⊢;rwa [GZ p]
def ZC {t:St} {b:fp} (p:i∉CB s) (h:A2 t i b):A2 (s++t) i b:=by unfold A2 at h ⊢;rwa [Ll p]
def zok {all:L1 Oper} (B:CQ all env o=some g) (q:¬A1 g):LD P Pn all o env st [] [] []<|gD g d:=by intro I μ C A a w D G y;have u:=H8 B y;refine⟨λH=>absurd (u.1 H) q,λ_=>⟨rfl,rfl,?_⟩⟩;cases g with|none=>exact absurd trivial q|some p=>{exact .guard _ _ _ _ (λh=>absurd h q) λ_=>rfl}
structure zix where
 id:Nat
 hU:List D
 g:Option (Bool×Bool)
 ob:List Prop
 dst:Option Nat
 o:Oper
 all:List Oper
def zc5 (n:Nat) (env:Env) (todo:L1 DI):Option zix :=
 match B4 todo ([],[])with
 |some (h,o,_)=>match CQ h env o,o.op with
  |some g,.call { callee:=.value (.tmp t),args:=⟨args⟩,.. }=>match lk env t,KQ (A1 g) env args,Cs n o.dst with
   |some (.jv id),some (p,ob),true=>some ⟨id,p,g,ob,o.dst,o,h⟩
   |some (.guard c w (.jv id)),some (p,ob),true=>some ⟨id,p,g,(A1 g->c=w)::ob,o.dst,o,h⟩
   |_,_,_=>none
  |_,_=>none
 |none=>none
def X.p7 {id:Nat} (h:X I μ v<|.jv id):∃b,μ id=some (.func (.yield b) #[] #[])/\v=.func (.yield b) #[] #[]:=by cases h with|jv b _ h=>{exact⟨b,h,rfl⟩}
def yL {args:c8} {ts:Array TypeId} (h:o.op=.call { callee:=.value<|.tmp t,args:=⟨args⟩,argTypes:=ts }) (p:a.eval (.tmp t)=.func (.yield b) #[] #[]):(execOp a.eval o).run P w=(Instr.yield b (args.map a.eval).toArray).run P w:=by simp only[execOp,h,resolve,p,Deferred.ofValue,ak,al,ah,invoke];congr 2;simp
def yM {c:zix} (h:zc5 n env todo=some c) (p:A8 c.ob) (u:A1 c.g):(∀f,∃q,B4 todo f=some (c.all,c.o,q))/\CQ c.all env c.o=some c.g/\Cs n c.dst=true/\c.dst=c.o.dst/\(∀x,c.o.op≠.defer x)/\∀I μ a,Fg I μ env a c.o.op->∃b,∃xs:Array Value,μ c.id=some (.func (.yield b) #[] #[])/\TB I μ xs.toList c.hU/\∀w,(execOp a.eval c.o).run P w=(Instr.yield b xs).run P w:=by unfold zc5 at h;have y:∀{A:L1 Oper} {o:Oper} {t:S6},B4 todo ([],[])=some (A,o,t)->∀f,∃q,B4 todo f=some (A,o,q):=by{intro A o t h f;rcases Lh h with⟨r,k,rfl,_⟩|⟨r,j,k,rfl,_⟩;exact⟨_,rfl⟩;exact⟨_,rfl⟩};split at h;rename_i A o t V;split at h;rename_i g W H l d N;have J:∀{R:D} {K:R1} {ob:T0} {id:Nat},lk env W=some R->KQ (A1 g) env H=some (K,ob)->A8 ob->A1 g->(∀{I:TA} {μ:Mu} {v:Value},X I μ v R->∃b,μ id=some (.func (.yield b) #[] #[])/\v=.func (.yield b) #[] #[])->∀I μ a,Fg I μ env a o.op->∃b,∃xs:Array Value,μ id=some (.func (.yield b) #[] #[])/\TB I μ xs.toList K/\∀w,(execOp a.eval o).run P w=(Instr.yield b xs).run P w:=by{intro R K ob id L M p u T I μ a B;rw[N]at B;have C:=II (I:=I) (μ:=μ) (a:=a) u M p λx G=>B x (by simp[Op.operands,Call.operands,G]);let⟨b,e,i⟩:=T<|B (.tmp W) (by simp[Op.operands,Call.operands]) _ L;exact⟨b,_,e,by simpa using C,λw=>yL N i⟩};split at h;rename_i id K ob L M U;cases h;exact⟨y V,d,U,rfl,(λx G=>by rw[N]at G;cases G),J L M p u λh=>h.p7⟩;rename_i m s id K ob L M U;cases h;exact⟨y V,d,U,rfl,(λx G=>by rw[N]at G;cases G),J L M p.2 u λh=>(h.gy<|p.1 u).p7⟩;cases h;cases h;cases h
def I0 {c:zix} (h:zc5 n env todo=some c) (N:A8 c.ob) (y:A1 c.g) (o:LB P (EX (DW [(c.id,0),(j,1)]) c.hU) S r S') (W:lk st c.id=some (some .ig)) (M:lk st j=some (some<|.hV c.id S)) (R:LZ [(c.id,0),(j,1)] [(2,j2)] c.hU (R8 1 S) (.Kp<|.bool r) (R8 2 S') [j2]=true) (s:B4 todo ([c.id,j],[c.id,j2,c.id,j])=some (c.all,c.o,q)) (B:aa=j2::Kr) (d:G P n F Q q (Cn c.dst (gD c.g<|.Kp<|.bool r) env) ((c.id,some .ig)::(j2,some<|.hV c.id S')::(c.id,none)::(j,none)::st) Kr):G P n F Q todo env st aa:=by let⟨_,t,f,v,x,z⟩:=yM (P:=P) h N y;rw[v]at f d;subst B;have T:=RY R;have U:FK [(c.id,0),(j,1)] st<|R8 1 S:=by{have D:Nat.beq c.id j=false:=by{have:=T.inv;simp only[CK,KM,Er,AZ]at this;cases U:Nat.beq c.id j with|false=>rfl|true=>{have:=Dm U;rw[<- this]at M;rw[W]at M;cases M}};have g:lk (AZ [(c.id,0),(j,1)]) 0=some c.id:=rfl;have E:lk (AZ [(c.id,0),(j,1)]) 1=some j:=rfl;have f0:lk [(c.id,0),(j,1)] c.id=some 0:=A6 _ _ _;have f1:lk [(c.id,0),(j,1)] j=some 1:=by{have:c.id≠j:=λe=>by{rw[e]at D;simp at D};rw[AC _ _ this];exact A6 _ _ _};have g0:DW [(c.id,0),(j,1)] c.id=0:=by{simp[DW,f0]};refine⟨?_,?_,ab⟩;simp only[g,f0,W];exact⟨rfl,rfl,rfl⟩;simp only[E,f1,M];refine⟨rfl,?_,?_⟩;simp only[cJ,g0];simp only[KU,Er,f0,g];simp};have i:LD P (OE Q) c.all c.o env st (Gd [(c.id,0),(j,1)]) [j2] (Fl (AZ [(c.id,0),(j,1)]++[(2,j2)]) (R8 2 S')++CO (Gd [(c.id,0),(j,1)]))<|gD c.g<|.Kp<|.bool r:=by{intro I μ st2 k a w V H K;have A:=H8 t K;refine⟨λ_=>?_,λl=>by rw[A.2 y]at l;cases l⟩;let⟨b,xs,m1,m2,m3⟩:=z I μ a<|B3 K;have L:=HI V U;let⟨g1,g2,g3⟩:=Iq H L T.args m2;rw[m3];refine(o I _ w b xs (by simpa[JD,AZ,lk]using m1) g1 g2).mono (λu w' hu=>?_) λ_ _ h=>h.elim;obtain⟨I',μ',r1,r2,r3,r4⟩:=hu;let⟨ν,C,J,s3,m⟩:=O7 H L T r1 r2 r3 r4 g3;rw[<- Ot]at C m;refine⟨I',ν,C,?_,s3,m⟩;cases hg:c.g with|none=>exact J|some p=>{rw[hg]at y;exact .guard _ _ _ _ (λ_=>J) λR=>absurd y R}};have ew:Fl (AZ [(c.id,0),(j,1)]++[(2,j2)]) (R8 2 S')++CO (Gd [(c.id,0),(j,1)])=[(c.id,some .ig),(j2,some<|.hV c.id S'),(c.id,none),(j,none)]:=rfl;rw[ew]at i;exact Cc (fr:=[j2]) (wr:=[(c.id,some .ig),(j2,some<|.hV c.id S'),(c.id,none),(j,none)]) s i f x d
structure znl where
 g:Option (Bool×Bool)
 dst:Option Nat
 todo:List DI
def zm7 (n:Nat) (env:Env) (todo:L1 DI):Option znl :=
 match B4 todo ([],[])with
 |some (h,o,q)=>match CQ h env o,o.op,Cs n o.dst with
  |some g,.call _,true=>some ⟨g,o.dst,q⟩
  |_,_,_=>none
 |none=>none
def Oo {c:znl} (d:D) (h:zm7 n env todo=some c) (p:¬A1 c.g) (y:G P n F Q c.todo (Cn c.dst (gD c.g d) env) st aa):G P n F Q todo env st aa:=by unfold zm7 at h;split at h;rename_i A o q B;split at h;rename_i g K C H J;cases h;exact Cc (fr:=[]) (wr:=[]) B (zok C p) J (λx u=>by rw[H]at u;cases u) y;cases h;cases h
def znm (b0:Option Code) (io:St):DQ:=λx _ st _=>match x,b0 with
 |.norm,none=>Hh st io
 |.ret,some .ret=>Hh st io
 |.exit j,some (.exit h)=>j=h/\Hh st io
 |_,_=>False
structure Jj where
 fn:FuncId
 ps:Array Tmp
 m7:Code
 body:Code
 tmps:Array Value
 E:Env
 F:List Nat
 μ0:Mu
def zi1 (b0:Option Code) (r:Go.Loop):Prop:=r.state=(match b0 with|none=>.ready|some _=>.done)/\r.pending=b0
def zqt (L:Jj) (st:St) (b0:Option Code) (I:TA) (w:World) (b:Nat) (y:L1 Nat):Prop :=
 ∃(r:Go.Loop) (μ:Mu) (h:L1 Nat),y=b::h/\w.heap[b]?=some (.loop r)/\zi1 b0 r/\(r.fn=L.fn/\r.params=L.ps/\r.assign=L.m7/\r.body=L.body/\r.tmps=L.tmps) /\
  (∀t d,lk L.E t=some d->X I μ (L.tmps.getD t undef) d)/\(∀i p,A2 st i p->∃g,μ i=some g/\eb I μ w g p) /\
  (∀i j A B q u k,A2 st i A->A2 st j B->μ i=some q->μ j=some u->EY q k->EY u k->i=j)/\(∀k,k∈h↔Ba μ st k)/\b∉h/\l4 L.F L.μ0 μ
def Cl (L:Jj) (st:St) (b0:Option Code):jo where
 P:=zqt L st b0
 mono:=λ{I J w b bs} h hp=>by
  obtain⟨r,μ,mr,h1,h2,h3,h4,h5,h6,h7,h8,h9,h10⟩:=hp;exact⟨r,μ,mr,h1,h2,h3,h4,λt d hl=>(h5 t d hl).mono h<|Mu.le_refl μ,λi SB hl=>let⟨g,q1,q2⟩:=h6 i SB hl;⟨g,q1,q2.mono h<|Mu.le_refl μ⟩,h7,h8,h9,h10⟩
 loc:=λ{I w w' b bs} h hp=>by
  obtain⟨r,μ,mr,h1,h2,h3,h4,h5,h6,h7,h8,h9,h10⟩:=hp;subst h1;exact⟨r,μ,mr,rfl,(h b<|by simp).trans h2,h3,h4,h5,λi SB hl=>let⟨g,q1,q2⟩:=h6 i SB hl;⟨g,q1,q2.world λk hk=>h k<|by simp[(h8 k).2 ⟨i,SB,g,hl,q1,hk⟩]⟩,h7,h8,h9,h10⟩
def eU:Value->L1 Nat
 |.pointer (some a)=>[a.block]
 |.slice (some a) _ _=>[a.block]
 |.map (some c)=>[c]
 |.agg h=>h.toList.filterMap fun|.pointer (some a)=>some a.block|_=>none
 |.tuple ⟨[_,.agg h]⟩=>h.toList.filterMap fun|.pointer (some a)=>some a.block|_=>none
 |_=>[]
def Un {g:Value} {k:Nat}:k∈eU g↔EY g k:=by unfold eU EY;split<;>simp[fq];all_goals(constructor;rintro ⟨a,p,h⟩;split at h;cases h;exact⟨_,p,rfl⟩;cases h;rintro ⟨a,p,h⟩;exact⟨_,p,by rw[h]⟩)
open Classical in
theorem P2 (μ:Mu) (st:St):∃l:K1,∀k,k∈l↔Ba μ st k:=by refine⟨(CB st).flatMap λi=>if(∃b,A2 st i b)then(match μ i with|some g=>eU g|none=>[])else[],λk=>?_⟩;rw[List.mem_flatMap];constructor;rintro ⟨i,_,h⟩;split at h;rename_i p;obtain⟨b,p⟩:=p;cases q:μ i with|none=>rw[q]at h;cases h|some g=>{rw[q]at h;exact⟨i,b,g,p,q,Un.1 h⟩};cases h;rintro ⟨i,b,g,u,y,A⟩;refine⟨i,C9 u,?_⟩;rw[ae ⟨b,u⟩,y];exact Un.2 A
def SD (aa:L1 Nat) (E:Env) (st:St) (F:L1 Nat):Prop:=aa.Nodup/\∀i∈aa,i∉OS E/\i∉DB st/\i∉F
def zkj:∀{st:St} {i:Nat} {b:fp},A2 st i b->i∈DB st:=λh=>(Gr h).1
abbrev g8:=Option Code
def X2 {L:Jj} {b0:g8} {T:K1} (h:zqt L st b0 I w b T) (l:SD aa L.E st L.F) (m:I.ok w) (U:∀k∈T,I k=none/\k<w.heap.size) :
  ∃(r:Go.Loop) (ν:Mu) (q:K1),T=b::q/\w.heap[b]?=some (.loop r)/\zi1 b0 r/\(r.fn=L.fn/\r.params=L.ps/\r.assign=L.m7/\r.body=L.body/\r.tmps=L.tmps) /\
   (∀t d,lk L.E t=some d->X I ν (L.tmps.getD t undef) d)/\No I ν st aa w/\(∀k,k∈q↔Ba ν st k)/\b∉q/\l4 L.F L.μ0 ν:=by
 obtain⟨r,μ,q,e,n,o,s,v,x,z,f,E,V⟩:=h;obtain⟨W,a⟩:=l;obtain⟨ν,J⟩:∃ν:Mu,ν=λi=>if i∈aa then none else μ i:=⟨_,rfl⟩
 have K:∀i,i∉aa->ν i=μ i:=λi u=>by rw[J];exact ac u
 have B:∀i,i∈OS L.E\/i∈DB st\/i∈L.F->ν i=μ i:=λi u=>K i λF=>by
  let⟨C,G,R⟩:=a i F;rcases u with h|h|h
  ·exact C h
  ·exact G h
  ·exact R h
 have p:∀{i A},A2 st i A->ν i=μ i:=λy=>B _<|.inr<|.inl<|zkj y;have M:∀k,Ba ν st k↔Ba μ st k:=λk=>by
  constructor<;>rintro ⟨i,A,g,C,G,R⟩
  ·exact⟨i,A,g,C,by rw[<- p C];exact G,R⟩
  ·exact⟨i,A,g,C,by rw[p C];exact G,R⟩
 refine⟨r,ν,q,e,n,o,s,λt d y=>(v t d y).sub λj H g N=>by rw[B j<|.inl<|cV y j H];exact N,?_,λk=>by rw[M k];exact f k,E,λi u g N=>by rw[B i<|.inr<|.inr u];exact V i u g N⟩;exact
  {Kp:=m
   SB:=λi A y=>by
    let⟨g,C,G⟩:=x i A y;exact⟨g,by rw[p y];exact C,G.sub λj H g N=>by rw[B j<|.inr<|.inl<|(Gr y).2 j H];exact N⟩
   apart:=λi A g k y D P=>U k (by rw[e];exact H4 _<|(f k).2 ⟨i,A,g,y,by rw[<- p y];exact D,P⟩)
   inj:=λi j A Q S gj k u H D c=>z i j A Q S gj k u H (by rw[<- p u];exact D) (by rw[<- p H];exact c)
   nodup:=W
   PA:=λi u=>by rw[J];exact ae u }
def G9 (q:j≠0) {p:fp} (h:A2 (R8 j S) i p):(i=0/\p=.ig)\/(i=j/\p=.hV 0 S):=by rcases A7.1 h with h|⟨_,h⟩;exact .inl h;rcases A7.1 h with h|⟨_,h⟩;exact .inr h;simp[A2,lk]at h
def ch:=@or_false
def Rh {L:Jj} {p rid:Nat} {fc:Func} {io:St} {b0:g8} (hf:P.funcs[L.fn]?=some fc) (y9:L.ps = #[p]) (u9:L.m7=.region rid ⟨[o]⟩ false) (kq:L.tmps.size=n) (hd:GH d=[]) (ho:o.op=.assign (.tmp p)) (hog:o.guard=none) (hod:o.dst=some t) (hp:p<n) (ht:t<n) (m8:SD aa L.E st L.F) (h:ek P n (Ze::(L.F++OS L.E)) (znm b0 io) [.code L.body] ((t,d)::(p,d)::L.E) st aa):LB P [d] (Cl L st none) b0.isNone<|Cl L io b0:=by
 intro I μ w b xs hμ lz hx;have p8:A2 (R8 1<|Cl L st none) 0 .ig:=A7.2<|.inl ⟨rfl,rfl⟩;have mf:A2 (R8 1<|Cl L st none) 1<|.hV 0<|Cl L st none:=A7.2<|.inr ⟨by simp,A7.2<|.inl ⟨rfl,rfl⟩⟩;obtain⟨g1,ua,b',bs,E,rfl,hP⟩:=lz.SB 1 _ mf;rw[hμ]at E;cases E;have ya:∀k∈bs,I k=none/\k<w.heap.size:=λk hk=>lz.apart 1 _ _ k mf ua<|D1.2 hk;have hP0:=hP;let⟨r,ν,mr,e1,ub,⟨ye,hr3⟩,⟨vl,ru,vm,vn,vo⟩,yf,hS,J,hnb,hF⟩:=X2 hP m8 lz.Kp ya;subst e1;obtain⟨x,rfl⟩:∃x,xs = #[x]:=by
  obtain⟨l⟩:=xs;have:=hx.1
  match l,this with
  |[x],_=>exact⟨x,rfl⟩
 have hxd0:X I μ x d:=hx.2 0 x d O O;have ql:X I ν x d:=hxd0.sub λj hj=>by rw[hd]at hj;cases hj
 have uc:(#[x]:Array Value).size=r.params.size:=by rw[ru,y9];rfl
 unfold zpo;rw[run_yield ub uc];refine Lb (fc:=fc) (by rw[vl];exact hf) λfb cs hbf xm=>?_;rw[ru,y9,vm,u9,vn,vo];have p9:((#[p]:Array Nat).zip #[x]).foldl (λtmps (t,a)=>tmps.setIfInBounds t a) L.tmps=L.tmps.setIfInBounds p x:=by simp
 rw[p9];let⟨rv,hblt⟩:=ya b (by simp);have K:¬Ba ν st b:=λh=>hnb<|(J b).2 h;obtain⟨w1,y⟩:∃w1:World,w1=w.putObj b (.loop { r with state:=.busy }):=⟨_,rfl⟩
 have A:∀(w:World) (o:Obj),(w.putObj b o).heap=w.heap.setIfInBounds b o:=λw o=>by
  unfold World.putObj;by_cases hi:b<w.heap.size<;>simp[hi]
 have M:∀(w:World) (o:Obj) k,k≠b->(w.putObj b o).heap[k]?=w.heap[k]?:=λw o k hk=>by rw[A,H2<|b9 hk]
 have ud:=run_beginRound (P:=P) ub ye;refine LQ ?_;show Reach P fb cs _ (.inRegion #[o] [0]::[.beginRound,.code L.body]) _ w;refine GF (o:=o) O (AO hog) (λc hc=>by rw[ho]at hc;cases hc)<|hG.upon ?_;have hex:∀a:Act,(execOp a.eval o).run P w=.ok (.value<|a.eval<|.tmp p) w:=λa=>by simp[execOp,ho]
 rw[hex];show Reach P fb cs _ _ _ w;refine GN<|Reach.step (stepR_beginRound xm ud) ?_;rw[<- y];have hpx:(Act.eval { tmps:=L.tmps.setIfInBounds p x,defers:=[] }<|.tmp p)=x:=by
  have mc:p<L.tmps.size:=by omega
  simp[Act.eval,mc]
 rw[hpx,hod];let⟨e1,e2,e3⟩:=Iw (n:=n) (w:=w) (a:={ tmps:=L.tmps,defers:=[] }) (dst:=some p) yf kq (λt ht=>by cases ht;exact hp) ql;let⟨c1,c2,c3⟩:=Iw (n:=n) (w:=w) (dst:=some t) e1 e2 (λt' ht'=>by cases ht';exact ht) ql;have hc:ij n I ν ((t,d)::(p,d)::L.E) st aa ((Act.put { tmps:=L.tmps,defers:=[] } (some p) x).put (some t) x) w1 :=
  {hS.other (by rw[y,A];simp) (λk o hk=>by rw[y];exact M _ _ k (λe=>by rw[e,rv]at hk;cases hk)) (λk hk=>by rw[y];exact M _ _ k λe=>K<|e▸hk)with
   size:=c2
   env:=c1
   defers:=by rw[c3,e3];exact fz.nil _ _ _ _ }
 have hgo:=h ⟨fb,.inl<|by simp⟩ cs I ν _ w1 [.code L.body] AD hc;refine Reach.mono (λe a' w' pb=>?_) hgo;obtain⟨x',u,au,yh,I',C,p1,s,p3,p4,U,p6⟩:=pb;have E:w1.heap[b]?=some (.loop { r with state:=.busy }):=by rw[y,A];simp[hblt]
 have uc:w1.heap.size=w.heap.size:=by rw[y,A];simp
 have r8:w'.heap[b]?=some (.loop { r with state:=.busy }):=by rw[U.block b (by omega) K];exact E
 have ue:¬Ba C au b:=λho=>K<|U.fresh b (by omega) ho;have yj:I' b=none:=by rw[U.gz b (by omega) K];exact rv
 have pc:b<w'.heap.size:=(Ht.1 r8).1;have fin:Hh au io->∃v qe,(Instr.endRound b b0).run P w'=.ok v qe/\(∃I2 q,X I2 q v (.Kp<|.bool b0.isNone)/\No I2 q (R8 2<|Cl L io b0) [] qe /\
   l4 (CB<|R8 1<|Cl L st none) μ q/\fi I μ (R8 1<|Cl L st none) w I2 q (R8 2<|Cl L io b0) qe):=by
  intro pe;have hSB:No I' C io [] w':=p3.toNo.less (Cz pe) .nil (λ_ h=>by simp at h);have N:∀k,Ba C io k->Ba C au k:=λk ⟨i,z,g,F,D⟩=>⟨i,z,g,Cz pe i z F,D⟩
  have pf:¬Ba C io b:=λh=>ue<|N b h;obtain⟨Q,G⟩:∃Q:World,Q=w'.putObj b (.loop { r with state:=if b0.isNone then .ready else .done,pending:=b0 }):=⟨_,rfl⟩
  have ph:(Instr.endRound b b0).run P w'=.ok (.bool b0.isNone) Q:=by
   have:=run_endRound (P:=P) b0 r8;rw[G];exact this
  have hw2s:Q.heap.size=w'.heap.size:=by rw[G,A];simp
  have V:∀k,k≠b->Q.heap[k]?=w'.heap[k]?:=λk hk=>by rw[G];exact M _ _ k hk
  have R:No I' C io [] Q:=hSB.other (by omega) (λk o hk=>V k (λe=>by rw[e,yj]at hk;cases hk)) λk hk=>V k λe=>pf<|e▸hk;let⟨H,T⟩:=P2 C io;have hPN:(Cl L io b0).P I' Q b<|b::H:=by
   refine⟨{ r with state:=if b0.isNone then .ready else .done,pending:=b0 },C,H,rfl,by rw[G,A];simp[pc],⟨by cases b0<;>rfl,rfl⟩,⟨vl,ru,vm,vn,vo⟩,λt d hl=>?_,R.SB,R.inj,T,λhm=>pf<|(T b).1 hm,λi hi=>?_⟩
   ·exact((yf t d hl).mono U.Kp<|Mu.le_refl ν).sub λj hj g hg=>p4 j (by simp[cV hl j hj]) g hg
   ·exact λg yk=>p4 i (by simp[hi]) g<|hF i hi g yk
  obtain⟨q,W⟩:∃q:Mu,q=λi=>if i=2 then some (.agg<|VQ<|b::H)else μ i:=⟨_,rfl⟩
  have f:q 0=some (.func (.yield b) #[] #[]):=by rw[W];simpa using hμ
  have hm2:q 2=some (.agg<|VQ<|b::H):=by rw[W];simp
  have hold:∀k,k∈b::H->k<w.heap.size->k∈b::mr:=λk hk mc=>by
   rcases Cu.1 hk with rfl|hk
   ·simp
   ·exact H4 _<|(J k).2 (U.fresh k (by omega)<|N k<|(T k).1 hk)
  have pj:∀k∈b::H,I' k=none/\k<Q.heap.size:=λk hk=>by
   rcases Cu.1 hk with rfl|hk
   ·exact⟨yj,by omega⟩
   ·obtain⟨i,z,g,F,D,q3⟩:=(T k).1 hk;exact R.apart i z g k F D q3
  have B:∀k,Ba μ (R8 1<|Cl L st none) k↔k∈b::mr:=λk=>by
   constructor
   ·rintro ⟨i,z,g,F,D,q3⟩;rcases G9 (by simp) F with⟨rfl,rfl⟩|⟨rfl,rfl⟩
    ·rw[hμ]at D;cases D;exact q3.elim
    ·rw[ua]at D;cases D;exact D1.1 q3
   ·intro hk;exact⟨1,_,_,mf,ua,D1.2 hk⟩
  have m:∀k,Ba q (R8 2<|Cl L io b0) k->k∈b::H:=λk=>by
   rintro ⟨i,z,g,F,D,q3⟩;rcases G9 (by simp) F with⟨rfl,rfl⟩|⟨rfl,rfl⟩
   ·rw[f]at D;cases D;exact q3.elim
   ·rw[hm2]at D;cases D;exact D1.1 q3
  refine⟨_,Q,ph,I',q,.Kp _ _<|.bool _,?_,?_,?_⟩
  ·refine { Kp:=R.Kp,SB:=λi z hl=>?_,apart:=λi z g k hl S hk=>pj k<|m k ⟨i,z,g,hl,S,hk⟩,inj:=λi j z bj gi gj k hi hj S ls qf mw=>?_,nodup:=.nil,PA:=λ_ h=>by simp at h }
   ·rcases G9 (by simp) hl with⟨rfl,rfl⟩|⟨rfl,rfl⟩
    ·exact⟨_,f,b,rfl⟩
    ·exact⟨_,hm2,b,_,f,rfl,hPN⟩
   ·rcases G9 (by simp) hi with⟨rfl,rfl⟩|⟨rfl,rfl⟩<;>rcases G9 (by simp) hj with⟨rfl,rfl⟩|⟨rfl,rfl⟩
    ·rfl
    ·rw[f]at S;cases S;exact qf.elim
    ·rw[f]at ls;cases ls;exact mw.elim
    ·rfl
  ·intro i hi g hg;simp only[R8,CB,CK,KM,Cu,JK,ch]at hi;have:i≠2:=by omega
   rw[W];simp only[ac this];exact hg
  ·refine { Kp:=U.Kp,os:=?_,tape:=?_,output:=?_,size:=?_,block:=λk hk l7=>?_,fresh:=λk hk ho=>(B k).2 (hold k (m k ho) hk),gz:=λk hk l7=>U.gz k (by omega) (λh=>l7<|(B k).2 (H4 _<|(J k).2 h)) }
   ·have:=U.os;rw[y]at this;rw[G];unfold World.putObj at this ⊢;exact this
   ·have:=U.tape;rw[y]at this;rw[G];unfold World.putObj at this ⊢;exact this
   ·have:=U.output;rw[y]at this;rw[G];unfold World.putObj at this ⊢;exact this
   ·have:=U.size;omega
   ·have yl:k≠b:=λe=>l7<|(B k).2 (by simp[e]);rw[V k yl,U.block k (by omega) λh=>l7<|(B k).2 (H4 _<|(J k).2 h),y,M _ _ k yl]
 cases e with
 |normal=>
  cases x'<;>simp only[Mw]at p1;cases b0 with
  |none=>exact fin s
  |some c=>exact s.elim
 |ret=>
  cases x'<;>simp only[Mw]at p1;cases b0 with
  |none=>exact s.elim
  |some c=>cases c<;>first|exact s.elim|exact fin s
 |exit j=>
  cases x'<;>simp only[Mw]at p1;cases b0 with
  |none=>exact s.elim
  |some c=>
   cases c<;>first|exact s.elim|skip
   obtain⟨F,D⟩:=s;subst F;subst p1;exact fin D
 |goto l=>
  cases x'<;>simp only[Mw]at p1;cases b0<;>exact s.elim
 |panic chain=>
  cases x'<;>simp only[Mw]at p1;cases b0<;>exact s.elim
 |outgrown=>cases x'<;>simp only[Mw]at p1
def znc:Option Code->L1 DI
 |none=>[]
 |some c=>[.code c]
def E3 {g:Operand} {ps:Array Tmp} {m7 body c:Code} {f y:Nat} {fc:Func} {df dc:R1} {lp l5 jm io:St} {b0:g8} (hg:Fi env g=some (.fn (.func f) df dc)) (hf:P.funcs[f]?=some fc) (rz:(fc.name=="runtime.NumGoroutine")=false) (hb:fc.body=some c) (hF:Ze∉F) (hEE:zA env E) (hl:∀ i b, A2 (lp++jm) i b→A2 st i b) (hE:∀L:Jj,P.funcs[L.fn]?.isSome->L.tmps.size=n->L.ps=ps->L.m7=m7->L.body=body->L.E=E->L.F=F ->
   GL P f (df++.jv y::dc) ((y,some .ig)::(j,some (.hV y (Cl L jm none)))::lp) (.ret d ((y,some .ig)::(j2,some (.hV y (Cl L io b0)))::l5))) (ym:∀i∈CB lp,i∉CB jm) (hyj:y≠j/\y≠j2/\y∉CB lp/\j∉CB lp) (rT:∀i,i∈FO (df++dc)\/i∈DB lp->i∈CB lp) (m8:SD Kr E io F) (K:ek P n F Q (znc b0++k) E io Kr):ek P n F Q (.code (.rangeFunc g ps m7 body)::k) env st aa:=by
 intro b cs I μ a w x8 hd hc;obtain⟨is,rfl,V⟩:=L3 hd;rcases b.2 with yn|⟨yn,fcb,hfb⟩
 ·exact absurd yn hF
 have he:=run_enterLoop_outer (P:=P) (w:=w) b.1.fn a.tmps ps m7 body;obtain⟨ro,hro⟩:∃ro,ro=b.1.roundOf:=⟨_,rfl⟩
 have qk:(Instr.enterLoop b.1.fn a.tmps ps m7 body ro).run P w=(Instr.enterLoop b.1.fn a.tmps ps m7 body none).run P w:=by rw[hro,yn]
 rw[<- qk,hro]at he;clear qk;obtain⟨L,hL⟩:∃L:Jj,L=⟨b.1.fn,ps,m7,body,a.tmps,E,F,μ⟩:=⟨_,rfl⟩
 obtain⟨B,uf⟩:∃B:World,B=w.alloc (.deferred (some [])):=⟨_,rfl⟩
 rw[<- uf]at he;have hwas:B.heap.size=w.heap.size+1:=by rw[uf];simp
 obtain⟨R,hR⟩:∃R:Go.Loop,R={ state:=.ready,pending:=none,fn:=b.1.fn,tmps:=a.tmps,params:=ps,assign:=m7,body:=body,defers:=w.heap.size }:=⟨_,rfl⟩
 rw[<- hR,<- hwas]at he;obtain⟨U,s7⟩:∃U:World,U=B.alloc (.loop R):=⟨_,rfl⟩
 rw[<- s7]at he;have hw1s:U.heap.size=w.heap.size+2:=by rw[s7];simp;omega
 have qm:∀i,i<w.heap.size->U.heap[i]?=w.heap[i]?:=λi G=>by rw[s7,DO B _ (by omega),uf];exact DO w _ G
 have hw1m:U.heap[w.heap.size]?=some (.deferred (some [])):=by rw[s7,DO B _ (by omega),uf];exact FR w _
 have hw1r:U.heap[B.heap.size]?=some (.loop R):=by rw[s7];exact FR B _
 have s8:∀k,w.heap.size<=k->I k=none:=λk K=>by
  cases hI:I k with
  |none=>rfl
  |some o=>have:=C7 (hc.Kp k o hI);omega
 have W:No I μ st aa U:=hc.toNo.other (by omega) (λi o G=>qm i (C7 (hc.Kp i o G))) (λi G=>qm i (F3 hc.toNo G));have yq:∀i A,A2 jm i A->A2 st i A:=λi A h=>hl i A (ZC (λhm=>ym i hm (C9 h)) h);have H:∀i A,A2 lp i A->A2 st i A:=λi A h=>hl i A (ZD h);let⟨mr,ug⟩:=P2 μ jm;have s:∀k,k∈mr->Ba μ st k:=λk K=>let⟨i,A,g,M,J⟩:=(ug k).1 K;⟨i,A,g,yq i A M,J⟩
 have yr:∀k,k∈mr->k<w.heap.size:=λk K=>F3 hc.toNo (s k K);have tr:∀t d',lk E t=some d'->X I μ (a.tmps.getD t undef) d':=λt d' hl=>by
  let⟨d,M,J⟩:=RH hEE t d' hl;exact Vr J (hc.env t d M)
 have hB1:(Cl L jm none).P I U B.heap.size (B.heap.size::mr):=by
  refine⟨R,μ,mr,rfl,hw1r,⟨by rw[hR],by rw[hR]⟩,?_,?_,λi A h=>W.SB i A (yq i A h),λi j A bj gi gj k G hj=>W.inj i j A bj gi gj k (yq i A G) (yq j bj hj),ug,λhm=>by have:=yr _ hm;omega,?_⟩
  ·rw[hR,hL];exact⟨rfl,rfl,rfl,rfl,rfl⟩
  ·rw[hL];exact tr
  ·rw[hL];exact .refl _ _
 obtain⟨C,uh⟩:∃C:Mu,C=λi=>if i=y then some (.func (.yield B.heap.size) #[] #[])else if i=j then some (.agg (VQ (B.heap.size::mr)))else μ i:=⟨_,rfl⟩
 have z:C y=some (.func (.yield B.heap.size) #[] #[]):=by rw[uh];simp
 have hmj:C j=some (.agg (VQ (B.heap.size::mr))):=by rw[uh];simp[b9 hyj.1]
 have S:∀i∈CB lp,C i=μ i:=λi G=>by
  have M:i≠y:=λe=>hyj.2.2.1 (e▸G);have J:i≠j:=λe=>hyj.2.2.2 (e▸G);rw[uh];simp[M,J]
 obtain⟨bk,ne⟩:∃bk:St,bk=(y,some .ig)::(j,some (.hV y (Cl L jm none)))::lp:=⟨_,rfl⟩
 have p8:∀{i A},A2 bk i A->(i=y/\A=.ig)\/(i=j/\A=.hV y (Cl L jm none))\/(i≠y/\i≠j/\A2 lp i A):=λ{i A} h=>by
  rw[ne]at h;rcases A7.1 h with h|⟨M,h⟩
  ·exact .inl h
  ·rcases A7.1 h with h|⟨J,h⟩
   ·exact .inr (.inl h)
   ·exact .inr (.inr ⟨M,J,h⟩)
 have nu:∀k,Ba C bk k->k=B.heap.size\/k∈mr\/Ba μ lp k:=λk ⟨i,A,g,M,J,h3⟩=>by
  rcases p8 M with⟨rfl,rfl⟩|⟨rfl,rfl⟩|⟨_,_,h⟩
  ·rw[z]at J;cases J;exact h3.elim
  ·rw[hmj]at J;cases J;rcases Cu.1 (D1.1 h3)with h|h
   ·exact .inl h
   ·exact .inr (.inl h)
  ·exact .inr (.inr ⟨i,A,g,h,by rw[<- S i (C9 h)];exact J,h3⟩)
 have hcx:∀{i A g k},A2 lp i A->μ i=some g->EY g k->k∉mr:=λ{i A g k} M J h3 hm=>by
  obtain⟨i',ui,g',q1,q2,q3⟩:=(ug k).1 hm;have:=W.inj i i' A ui g g' k (H i A M) (yq i' ui q1) J q2 h3 q3;subst this;exact ym i (C9 M) (C9 q1)
 have hS0:No I C bk [] U:=by
  refine { Kp:=W.Kp,SB:=λi A h=>?_,apart:=λi A g k h N K=>?_,inj:=λi i' A bj gi gj k G hj N ls V mw=>?_,nodup:=.nil,PA:=λ_ h=>by simp at h }
  ·rcases p8 h with⟨rfl,rfl⟩|⟨rfl,rfl⟩|⟨_,_,h⟩
   ·exact⟨_,z,_,rfl⟩
   ·exact⟨_,hmj,_,_,z,rfl,hB1⟩
   ·let⟨g,q1,q2⟩:=W.SB i A (H i A h);exact⟨g,by rw[S i (C9 h)];exact q1,q2.sub λx hx g hg=>by rw[S x (rT x (.inr ((Gr h).2 x hx)))];exact hg⟩
  ·rcases nu k ⟨i,A,g,h,N,K⟩with h|h|⟨i',ui,g',q1,q2,q3⟩
   ·rw[h];exact⟨s8 _ (by omega),by omega⟩
   ·let⟨i',ui,g',q1,q2,q3⟩:=s k h;exact W.apart i' ui g' k q1 q2 q3
   ·exact W.apart i' ui g' k (H i' ui q1) q2 q3
  ·rcases p8 G with⟨rfl,rfl⟩|⟨rfl,rfl⟩|⟨_,_,G⟩<;>rcases p8 hj with⟨rfl,rfl⟩|⟨rfl,rfl⟩|⟨_,_,hj⟩
   ·rfl
   ·rw[z]at N;cases N;exact V.elim
   ·rw[z]at N;cases N;exact V.elim
   ·rw[z]at ls;cases ls;exact mw.elim
   ·rfl
   ·rw[hmj]at N;cases N;have q:=S i' (C9 hj);rw[ls]at q;rcases Cu.1 (D1.1 V)with h|h
    ·have:=(W.apart i' bj gj k (H _ _ hj) q.symm mw)
     have mc:=F3 hc.toNo ⟨i',bj,gj,H _ _ hj,q.symm,mw⟩;omega
    ·exact absurd h (hcx hj q.symm mw)
   ·rw[z]at ls;cases ls;exact mw.elim
   ·rw[hmj]at ls;cases ls;have q:=S i (C9 G);rw[N]at q;rcases Cu.1 (D1.1 mw)with h|h
    ·have mc:=F3 hc.toNo ⟨i,A,gi,H _ _ G,q.symm,V⟩;omega
    ·exact absurd h (hcx G q.symm V)
   ·have q1:=S i (C9 G);have q2:=S i' (C9 hj);rw[N]at q1;rw[ls]at q2;exact W.inj i i' A bj gi gj k (H _ _ G) (H _ _ hj) q1.symm q2.symm V mw
 have hvg:=eI (I:=I) (μ:=μ) (a:=a) hg λt _ d hl=>hc.env t d hl;generalize hve:a.eval g=vg at hvg;cases hvg with
 |fn _ first cap _ _ mf tu q1 q2=>
 have hnL:∀{l m:R1} {i},i∈FO l\/i∈FO m->i∈FO (l++m):=λ{l m i} h=>by
  have:∀(l m:R1),FO (l++m)=FO l++FO m:=λl m=>by
   induction l with
   |nil=>rfl
   |cons x r ih=>simp[FO,ih]
  rw[this];simpa using h
 have yt:TB I C (first++#[Value.func (.yield B.heap.size) #[] #[]]++cap).toList (df++.jv y::dc):=by
  have e:df++.jv y::dc=df++[.jv y]++dc:=by simp
  rw[e,Nl,Nl];have M:TB I μ first.toList df:=⟨by simpa using mf,λi v d p q=>q1 i v d (by simpa using p) q⟩
  have J:TB I μ cap.toList dc:=⟨by simpa using tu,λi v d p q=>q2 i v d (by simpa using p) q⟩
  refine TB.append (TB.append (M.sub λx hx g hg=>?_) (.mk (.jv _ _ z) .nil)) (J.sub λx hx g hg=>?_)
  ·rw[S x (rT x (.inl (hnL (.inl hx))))];exact hg
  ·rw[S x (rT x (.inl (hnL (.inr hx))))];exact hg
 have hEL:=hE L (by rw[hL];simp[hfb]) (by rw[hL];exact hc.size) (by rw[hL]) (by rw[hL]) (by rw[hL]) (by rw[hL]) (by rw[hL]);rw[<- ne]at hEL;have s9:=hEL I C U _ hS0 yt;rw[cn hf rz hb]at s9;have uj:∃dd,(resolve a.eval (rangeCall g B.heap.size) 0).run P U=.ok dd U/\(invoke dd.target dd.args).run P U=.ok (.enter f (first++#[Value.func (.yield B.heap.size) #[] #[]]++cap)) U:=by
  refine⟨⟨.fn (.func f) cap,first++#[Value.func (.yield B.heap.size) #[] #[]]⟩,?_,?_⟩
  ·have hcv:a.eval (.const (.func (.yield B.heap.size) #[] #[]))=.func (.yield B.heap.size) #[] #[]:=rfl;simp[rangeCall,resolve,Deferred.ofValue,hve,hcv]
  ·simpa[invoke]using cn (w:=U) hf rz hb (first++#[Value.func (.yield B.heap.size) #[] #[]]++cap)
 obtain⟨dd,ub,ye⟩:=uj;refine U2 he ub ye (bc s9 λen w3 hen=>?_);cases en with
 |panicked chain=>exact hen.elim
 |outgrown=>exact hen.elim
 |returned v=>
  obtain⟨I',μ',p1,p2,p3,p4⟩:=hen;have hly:A2 ((y,some .ig)::(j2,some (.hV y (Cl L io b0)))::l5) j2 (.hV y (Cl L io b0)):=A7.2 (.inr ⟨b9 hyj.2.1,A7.2 (.inl ⟨rfl,rfl⟩)⟩);obtain⟨g2,sa,b2,bs2,yu,rfl,yv⟩:=p2.SB j2 _ hly;have hyy:μ' y=some (.func (.yield B.heap.size) #[] #[]):=p3 y (by rw[ne];simp[CB]) _ z;rw[hyy]at yu;cases yu;have yw:∀k∈bs2,I' k=none/\k<w3.heap.size:=λk K=>p2.apart j2 _ _ k hly sa (D1.2 K);let⟨r,ν,bsN,e1,hrr,⟨hr2',hr3⟩,⟨vl,ru,vm,vn,vo⟩,hE3,hS3,mz,hnbN,hFN⟩:=X2 yv (aa:=Kr) (by rw[hL];exact m8) p2.Kp yw;subst e1;have ph:=run_endLoop (P:=P) hrr (by rw[hr2'];cases b0<;>simp)
  obtain⟨w4,vq⟩:∃w4:World,w4=w3.putObj B.heap.size (.loop { r with state:=.exhausted }):=⟨_,rfl⟩
  have yx:(Instr.endLoop B.heap.size).run P w3=.ok b0 w4:=by rw[vq,ph,hr3]
  refine⟨b0,w4,yx,?_⟩;have hlb:B.heap.size<w3.heap.size:=C7 hrr;have uk:∀i,i≠B.heap.size->w4.heap[i]?=w3.heap[i]?:=λi G=>by
   rw[vq];unfold World.putObj;simp[H2 (b9 G)]
  have hw4s:w4.heap.size=w3.heap.size:=by rw[vq];unfold World.putObj;simp
  let⟨rv,_⟩:=yw _ (Wv ..);have hS4:No I' ν io Kr w4:=hS3.other (by omega) (λi o G=>uk i (λe=>by rw[e,rv]at G;cases G)) (λi G=>uk i (λe=>hnbN ((mz _).2 (e▸G))));have hsz3:=p4.size;have ul:∀k,k<w.heap.size->¬Ba μ st k->¬Ba C bk k:=λk K T h=>by
   rcases nu k h with h|h|⟨i,A,g,q1,q2⟩
   ·omega
   ·exact T (s k h)
   ·exact T ⟨i,A,g,H i A q1,q2⟩
  have qb:∀k,k<U.heap.size->k≠B.heap.size->¬Ba C bk k->w4.heap[k]?=U.heap[k]?:=λk K od T=>(uk k od).trans (p4.block k K T);have sb:∀k,k<U.heap.size->Ba ν io k->Ba C bk k:=λk K ho=>p4.fresh k K ⟨j2,_,_,hly,sa,D1.2 (H4 _ ((mz k).2 ho))⟩;have hExt:fi I μ st w I' ν io w4 :=
   {Kp:=p4.Kp
    os:=by rw[vq];unfold World.putObj;exact p4.os.trans (by rw[s7,uf];rfl)
    tape:=by rw[vq];unfold World.putObj;exact p4.tape.trans (by rw[s7,uf];rfl)
    output:=by rw[vq];unfold World.putObj;exact p4.output.trans (by rw[s7,uf];rfl)
    size:=by omega
    block:=λk K T=>(qb k (by omega) (by omega) (ul k K T)).trans (qm k K)
    fresh:=λk K ho=>by
     rcases nu k (sb k (by omega) ho)with h|h|⟨i,A,g,q1,q2⟩
     ·omega
     ·exact s k h
     ·exact⟨i,A,g,H i A q1,q2⟩
    gz:=λk K T=>p4.gz k (by omega) (ul k K T) }
  have hMk:fz I' ν io w4 ([{ target:=.collected w.heap.size,args:=#[] }]++a.defers):=by
   obtain⟨rs,r1,r2,r3⟩:=hc.defers;refine⟨w.heap.size::rs,by rw[r1];rfl,GI.2 ⟨λhm=>?_,r2⟩,λr hr=>?_⟩
   ·have:=C7 (r3 _ hm).1;omega
   have T:¬Ba C bk r/\r<U.heap.size/\r≠B.heap.size/\U.heap[r]?=some (.deferred (some []))/\I r=none:=by
    rcases Cu.1 hr with rfl|hr
    ·refine⟨λh=>?_,by omega,by omega,hw1m,s8 _ (B6 _)⟩;rcases nu _ h with h|h|⟨i,A,g,q1,q2,q3⟩
     ·omega
     ·have:=yr _ h;omega
     ·have:=F3 hc.toNo ⟨i,A,g,H i A q1,q2,q3⟩;omega
    ·let⟨M,J,h3⟩:=r3 r hr;have mc:=C7 M;exact⟨ul r mc h3,by omega,by omega,(qm r mc).trans M,J⟩
   obtain⟨M,J,h3,h4,h5⟩:=T;exact⟨(qb r J h3 M).trans h4,(p4.gz r J M).trans h5,λho=>M (sb r J ho)⟩
  have hC:ij n I' ν E io Kr { a with defers:=[{ target:=.collected w.heap.size,args:=#[] }]++a.defers } w4 :=
   {hS4 with size:=hc.size,env:=λt d hl=>by have:=hE3 t d (by rw[hL];exact hl);rw[hL]at this;exact this,defers:=hMk }
  have hden:fD (znc b0++k) ((b0.map Item.code).toList++is):=by
   cases b0 with
   |none=>exact V
   |some c=>exact⟨rfl,V⟩
  refine Reach.mono (λe a' w' hp=>?_) (K b cs I' ν _ w4 _ hden hC);obtain⟨x',u,au,yh,I2,μ2,t1,t2,t3,t4,t5,t6⟩:=hp;have yy:l4 F μ ν:=by rw[hL]at hFN;exact hFN
  refine⟨x',u,au,yh,I2,μ2,t1,t2,t3,yy.trans t4,hExt.trans t5,λr hr=>?_⟩;rcases t6 r hr with h|h
  ·simp only[PG,Cu]at h;rcases h with h|h
   ·simp only[wy,Deferred.mk.injEq,Target.collected.injEq,be]at h;exact .inr (by omega)
   ·exact .inl h
  ·exact .inr (by omega)
def IK (t:Nat) {id:Nat} {H:TypeId} (he:lk env t=some (.ref id off)) (hl:lk st id=some (some<|.NA H sz xs)) (h:ek P n F Q todo ((t,.ip H xs off)::env) ((id,none)::st) aa) :
  ek P n F Q todo env st aa:=by
 intro b cs I μ a w K hd q;have p:A2 st id<|.NA H sz xs:=hl;obtain⟨g,c,hlen,C,f,rfl,L,y,T⟩:=q.SB id _ p;let⟨r,A⟩:=q.apart id _ _ C p c rfl;obtain⟨J,l⟩:∃J:TA,J=λk=>if k=C then some (.cells f H (0,0))else I k:=⟨_,rfl⟩
 have B:I.le J:=λk o h=>by
  have:k≠C:=λe=>by rw[e,r]at h;cases h
  rw[l];simp[this,h]
 have U:∀k o,J k=some o->I k=some o\/(k=C/\w.heap[k]?=some o):=λk o h=>by
  rw[l]at h;by_cases V:k=C
  ·subst V;simp at h;subst h;exact .inr ⟨rfl,L⟩
  ·simp[V]at h;exact .inl h
 have hE:fi I μ st w J μ ((id,none)::st) w :=
  {Kp:=B,os:=rfl,tape:=rfl,output:=rfl,size:=B6 _
   block:=λ_ _ _=>rfl
   fresh:=λk _ ⟨i,D,G,s,N,h3⟩=>⟨i,D,G,(BX.1 s).2,N,h3⟩
   gz:=λk _ ho=>by
    have:k≠C:=λe=>ho<|e▸⟨id,_,_,p,c,rfl⟩;rw[l];simp[this] }
 have hv:X I μ (a.tmps.getD t undef)<|.ref id off:=q.env t _ he;have W:a.tmps.getD t undef=.pointer (some ⟨C,off,none⟩):=by
  generalize a.tmps.getD t undef=v at hv;cases hv with
  |ref b' _ _ hm=>rw[c]at hm;cases hm;rfl
 have z:X J μ (a.tmps.getD t undef)<|.ip H xs off:=by
  rw[W];have:=X.ip (I:=J) (μ:=μ) C 0 H xs off (λj=>(f[j]?).getD undef) (λj x m=>?_) λj x m=>?_
  ·simpa using this
  ·have R:j<f.size:=by have:=y.1;have:=(A9.1 m).1;simp at *;omega
   rw[l];simp only[TA.cell,aw,BU,Si R,ID,ax];exact T _ (by simp)
  ·have R:j<f.size:=by have:=y.1;have:=(A9.1 m).1;simp at *;omega
   simp only[Si R,ID];exact(y.2 j _ x (by simp[R]) m).mono B
 have E:ij n J μ ((t,.ip H xs off)::env) ((id,none)::st) aa a w :=
  {Kp:=λk o h=>(U k o h).elim (λh=>q.Kp k o h) λh=>h.2
   SB:=λi D M=>by
    let⟨_,N⟩:=BX.1 M;let⟨G,u,hr⟩:=q.SB i D N;exact⟨G,u,hr.mono B<|Mu.le_refl μ⟩
   apart:=λi D G k M u V=>by
    let⟨s,N⟩:=BX.1 M;let⟨q1,q2⟩:=q.apart i D G k N u V;refine⟨?_,q2⟩;cases S:J k with
    |none=>rfl
    |some o=>
     rcases U k o S with h|⟨h,_⟩
     ·rw[q1]at h;cases h
     ·exact absurd (q.inj i id D _ G _ k N p u c V (by rw[h];rfl)) s
   inj:=λi j D bj G gj k hi R u ls qf mw=>q.inj i j D bj G gj k (BX.1 hi).2 (BX.1 R).2 u ls qf mw
   nodup:=q.nodup
   PA:=q.PA
   size:=q.size
   env:=λt' d A=>by
    by_cases ht:t=t'
    ·subst ht;rw[A6]at A;cases A;exact z
    ·rw[AC _ _ ht]at A;exact(q.env t' d A).mono B (Mu.le_refl μ)
   defers:=q.defers.ext hE }
 exact(h b cs J μ a w K hd E).mono λe' a' w' hp=>hp.back (.refl _ _) hE
def xV (t:Nat) {y:TypeId} (C:lk env t=some (.Kp<|.ip y xs off)) (h:ek P n F Q todo ((t,.ip y xs off)::env) st aa):ek P n F Q todo env st aa:=by intro b D I μ a w p G u;refine h b D I μ a w p G { u with env:=λA d q=>?_ };by_cases B:t=A;subst B;rw[A6]at q;cases q;exact((u.env t _ C).Ks).ipD;rw[AC _ _ B]at q;exact u.env A d q
def Ce (i j:Nat) {SB:fp} (hl:lk st i=some (some SB)) (hj:(F6 aa j&&LW Kr&&Pj Kr aa&&!F6 Kr j)=true) (h:ek P n F Q todo env ((j,some SB)::(i,none)::st) Kr):ek P n F Q todo env st aa:=by
 intro b cs I μ a w L hd D;simp only[Am,KN]at hj;obtain⟨⟨⟨yz,hj2⟩,hj3⟩,M⟩:=hj;have q:A2 st i SB:=hl;let⟨g,W,hr⟩:=D.SB i _ q;have f:μ j=none:=D.PA j<|BK.1 yz;have hij:i≠j:=λe=>by rw[e,f]at W;cases W
 obtain⟨J,l⟩:∃J:Mu,J=λk=>if k=j then some g else μ k:=⟨_,rfl⟩
 have u:J j=some g:=by rw[l];simp
 have p:∀k,k≠j->J k=μ k:=λk A=>by rw[l];simp[A]
 have G:μ.le J:=λk v A=>by
  have:k≠j:=λe=>by rw[e,f]at A;cases A
  rw[p k this];exact A
 have H:∀k B,A2 ((j,some SB)::(i,none)::st) k B->(k=j/\B=SB)\/(k≠j/\k≠i/\A2 st k B):=λk B h=>by
  rcases A7.1 h with h|⟨N,h⟩
  ·exact .inl h
  ·let⟨R,E⟩:=BX.1 h;exact .inr ⟨N,R,E⟩
 have hE:fi I μ st w I J ((j,some SB)::(i,none)::st) w :=
  {Kp:=TA.le_refl I,os:=rfl,tape:=rfl,output:=rfl,size:=B6 _,block:=λ_ _ _=>rfl
   fresh:=λk _ ⟨x,bx,gx,N,R,E⟩=>by
    rcases H x bx N with⟨rfl,rfl⟩|⟨T,_,K⟩
    ·rw[u]at R;cases R;exact⟨i,_,_,q,W,E⟩
    ·exact⟨x,bx,gx,K,by rw[<- p x T];exact R,E⟩
   gz:=λ_ _ _=>rfl }
 have xw:ij n I J env ((j,some SB)::(i,none)::st) Kr a w :=
  {Kp:=D.Kp
   SB:=λk B A=>by
    rcases H k B A with⟨rfl,rfl⟩|⟨T,_,K⟩
    ·exact⟨g,u,hr.mono (TA.le_refl I) G⟩
    ·let⟨g',N,R⟩:=D.SB k B K;exact⟨g',G _ _ N,R.mono (TA.le_refl I) G⟩
   apart:=λk B S m A y c=>by
    rcases H k B A with⟨rfl,rfl⟩|⟨T,_,K⟩
    ·rw[u]at y;cases y;exact D.apart i _ _ m q W c
    ·exact D.apart k B S m K (by rw[<- p k T];exact y) c
   inj:=λk o B U S r m A hk' y C c V=>by
    rcases H k B A with⟨rfl,rfl⟩|⟨T,p1,K⟩<;>rcases H o U hk' with⟨rfl,rfl⟩|⟨s,p1',z⟩
    ·rfl
    ·rw[u]at y;cases y;exact absurd (D.inj o i U _ r _ m z q (by rw[<- p o s];exact C) W V c) p1'
    ·rw[u]at C;cases C;exact absurd (D.inj k i B _ S _ m K q (by rw[<- p k T];exact y) W c V) p1
    ·exact D.inj k o B U S r m K z (by rw[<- p k T];exact y) (by rw[<- p o s];exact C) c V
   nodup:=Kq hj2
   PA:=λk A=>by
    have N:=D.PA k<|He hj3 k A;have:k≠j:=λe=>by rw[<- e]at M;rw[BK.2 A]at M;cases M
    rw[p k this];exact N
   size:=D.size
   env:=λt d mc=>(D.env t d mc).mono (TA.le_refl I) G
   defers:=D.defers.ext hE }
 exact(h b cs I J a w L hd xw).mono λe' a' w' hp=>hp.back (.of_le G) hE
inductive Yields (P:Program):List D->jo->Bool->jo->Prop where
 |nil (S:jo):Yields P [] S true S
 |cons {d:D} {l:List D} {S S1 S2:jo} {r:Bool} (h:LB P [d] S true S1) (h1:Yields P l S1 r S2):Yields P (d::l) S r S2
 |stop {d:D} {l:List D} {S S1:jo} (h:LB P [d] S false S1):Yields P (d::l) S false S1
def Yields.split {m:R1} (h:Yields P (l++m) S r S2):(∃S1,Yields P l S true S1/\Yields P m S1 r S2)\/(r=false/\Yields P l S false S2):=by induction l generalizing S with|nil=>exact .inl ⟨S,.nil S,h⟩|cons d l u=>{cases h with|cons h y=>rcases u y with⟨S1,p,q⟩|⟨p,q⟩;exact .inl ⟨S1,.cons h p,q⟩;exact .inr ⟨p,.cons h q⟩|stop h=>{exact .inr ⟨rfl,.stop h⟩}}
def Yields.m9 (h:Yields P [] S r S2):r=true/\S2=S:=by cases h;exact⟨rfl,rfl⟩
def Yields.all (S:Nat->jo) (h:∀i d,l[i]?=some d->LB P [d] (S i) true (S<|i+1)):Yields P l (S 0) true<|S l.length:=by have:∀(l:R1) (k:Nat),(∀i d,l[i]?=some d->LB P [d] (S<|k+i) true (S<|k+i+1))->Yields P l (S k) true (S<|k+l.length):=by{intro l;induction l with|nil=>intro k _;exact .nil _|cons d l q=>{intro k h;have:=q (k+1) λi d p=>by{have:=h (i+1) d (by simpa using p);rwa [show k+1+i=k+(i+1) by omega]};rw[show k+1+l.length=k+(d::l).length by simp;omega]at this;exact .cons (h 0 d O) this}};have:=this l 0 λi d p=>by{simpa using h i d p};simpa using this
def uK:TT:=oe++[
 (270,⟨.ptr 182,false,1,8,[.Kp .jc]⟩),
 (235,⟨.ptr 9,false,1,8,[.Kp .jc]⟩),
 (233,⟨.func,false,1,8,[.Kp .dn]⟩),
 (232,⟨.func,false,1,8,[.Kp .dn]⟩),
 (268,⟨.func,false,1,8,[.Kp .dn]⟩),
 (312,⟨.func,false,1,8,[.Kp .dn]⟩),
 (230,⟨.ptr 49,false,1,8,[.Kp .jc]⟩)]
def Cp:dv prog uK:=.of_eq (l:=[4,3,9,49,25,182,45,47,5,23,22,73,46,180,71,43,178,40,41,113,111,28,293,195,1,139,296,190,183,185,187,26,246,191,270,235,233,232,268,312,230]) (by kernel_rfl)
def nd (p:S0) (h:run uK n 300 p todo env st aa []=.at k u au Kr ob) (q:A8 ob) (y:cx n F Q k u au Kr):ia n F Q todo env st aa:=JS Cp mixed 300 p h q y
def vt (h:run uK n 300 [] todo env st aa []=.at k u au Kr ob) (q:cx n F Q k u au Kr) (p:A8 ob:=by simp):ia n F Q todo env st aa:=nd [] h p q
def DM (h:run uK n 300 [] todo env st aa []=.at k u au Kr ob) (q:cx n F Q k u au Kr) (p:A8 ob:=by simp[A1]):ia n F Q todo env st aa:=nd [] h p q
def ng (p:S0) (h:run uK n 300 p todo env st aa []=.at k u au Kr ob) (q:A8 ob) (y:cx n F Q k u au Kr):cx n F Q todo env st aa:=Jf Cp mixed 300 p h q y
def Fa (h:run uK n 300 [] todo env st aa []=.at k u au Kr ob) (q:cx n F Q k u au Kr) (p:A8 ob:=by simp[A1]):cx n F Q todo env st aa:=ng [] h p q
def ni (h:FY uK n env todo=some ⟨es,m,sz,e,g,ob,some t,q⟩) (u:A1 g->0<=m/\es[m.toNat]?=some c/\c.length=sz) (p:A8 ob) (y:cx n F Q q ((t,gD g<|.ip e c 0)::env) st aa):cx n F Q todo env st aa:=H9 Cp h u p y
def niz (h:FY uK n env todo=some ⟨es,(i:Int),sz,e,g,ob,some t,q⟩) (u:es[i]?=some c) (y:cx n F Q q ((t,gD g<|.ip e c 0)::env) st aa) (A:c.length=sz:=by simp) (p:A8 ob:=by simp):cx n F Q todo env st aa:=ni h (λ_=>⟨by omega,by simpa using u,A⟩) p y
def nizc (h:FY uK n env todo=some ⟨es,(i:Int),sz,e,g,ob,some t,q⟩) (u:es[i]?=some c) (y:cx n F Q q ((t,gD g<|.ip e c 0)::env) st aa) (A:c.length=sz:=by simp) (p:A8 ob:=by simp[A1]):cx n F Q todo env st aa:=ni h (λ_=>⟨by omega,by simpa using u,A⟩) p y
mutual
def IT:Y->L1 D
 |.mk s n x h=>(if s=2 then[.ip 182 (As<|.mk s n x h) 2]else[])++Ob h
def Ob:L1 Y->L1 D
 |[]=>[]
 |t::r=>IT t++Ob r
end
def KO (r:St):St:=(1,some<|.cells 268 1 [.jv 3])::(2,some<|.cells 312 1 [.fn (.func 274) [] [.ref 1 0,.ref 2 0]])::r
def zhi (t:Y) (b:Bool) (S S':jo):Prop:=GL prog 274 [.ip 182 (As t) 0,.ref 1 0,.ref 2 0]
 (KO [(3,some .ig),(4,some<|.hV 3 S)]) (.ret (.Kp<|.bool b)<|KO [(3,some .ig),(5,some<|.hV 3 S')])
abbrev j4:List (Nat×Nat):=[(1,1),(2,2),(3,3),(6,4)]
def ZV (s n:Int) (x:Z) (ps:E1) (D:∀t∈ps,∀{b:Bool} {S S':jo},Yields prog (IT t) S b S'->zhi t b S S') {b:Bool} (H:Yields prog (Ob ps) S b S'):ia Tryz.f274.ntmps [1,2,3,4] (IZ uK Tryz.f274.results.toList<|.ret (.Kp<|.bool b)<|KO [(3,some .ig),(5,some<|.hV 3 S')]) [.code<|Ek Tryz.f274 2] [(0,.ip 182 (As<|.mk s n x ps) 0),(1,.ref 1 0),(2,.ref 2 0)] (KO [(3,some .ig),(6,some<|.hV 3 S)]) [7,8,5]:=by refine DM O<|GK (t:=22) O λJ=>?_;have G:ps.length<=9223372036854775807:=by{simp[GA,maxLen]at J;omega};refine Ak (λy:Nat×jo=>[(24,i7 y.1),(23,i7 ps.length),(0,.ip 182 (As<|.mk s n x ps) 0),(1,.ref 1 0),(2,.ref 2 0)]) (λy=>KO [(3,some .ig),(6,some<|.hV 3 y.2)]) [7,8,5] (λy=>ps.length-y.1) (λy=>y.1<=ps.length/\Yields prog (Ob<|ps.drop y.1) y.2 b S') (0,S) ⟨AK _,H⟩ ⟨rfl,B2<|by simp,AB⟩ B9 O λy K L=>?_;obtain⟨i,M⟩:=y;obtain⟨u,p⟩:=K;simp only at u p;refine DM O<|Aa O (λh=>?_) λh=>?_;simp at h;let⟨t,q⟩:=Aq h;have A:ps.drop i=t::ps.drop (i+1):=Av q;rw[A]at p;refine DM O<|niz O (AS q)<|Fa O ?_;rcases Yields.split p with⟨S1,B,C⟩|⟨B,C⟩;exact Ao [7] j4 [(5,7)] O (D t (AE q) B) IR O O<|ng [] O (by simp[A1];rfl)<|Ag O λh=>vt O<|AV 6 7 O<|Ad (L (i+1,S1) (by simp only;omega) ⟨by simp only;omega,C⟩) ⟨B2<|Gi (by simp only;omega) (by simp only;omega),B9⟩ B9 O;subst B;exact Ao [7] j4 [(5,7)] O (D t (AE q) C) IR O O<|ng [] O (by simp[A1];rfl)<|Ap O λh=>vt O<|Ce (Kr:=[]) 7 5 O O<|Ah ⟨_,rfl,tV O,B9⟩;simp at h;have A:ps.drop i=[]:=Bt (by omega);rw[A]at p;obtain⟨rfl,rfl⟩:=p.m9;exact Aw O<|vt O<|Ce (Kr:=[]) 6 5 O O<|Ah ⟨_,rfl,tV O,B9⟩
def cz:=@List.sizeOf_lt_of_mem
def xP:∀(t:Y) {b:Bool} {S S':jo},Yields prog (IT t) S b S'->zhi t b S S'
 |.mk s n x u,b,S,S',q=>by have y:∀t∈u,∀{b:Bool} {S S':jo},Yields prog (IT t) S b S'->zhi t b S S':=λt A {b S S'} h=>xP t h;refine Oz Cp func274 (by decide +kernel) O [6,7,8,5] O O ?_;refine Fa O ?_;simp only[IT]at q;by_cases p:s=2;rw[ae p]at q;cases q with|cons h B=>refine I0 (j:=4) (j2:=6) O (by simp[A1]) (by simp[A1,p]) h O O O O O ?_;refine ng [] O (by simp[A1];rfl) ?_;refine Aa O (λh=>by simp[p]at h) λh=>?_;refine Fe ?_;exact Ad (ZV s n x u y B) ⟨rfl,rfl,rfl,ab⟩ ⟨rfl,rfl,rfl,rfl,ab⟩ O|stop h=>{refine I0 (j:=4) (j2:=6) O (by simp[A1]) (by simp[A1,p]) h O O O O O ?_;refine ng [] O (by simp[A1];rfl) ?_;refine Aa O (λh=>?_) (λh=>by simp[p]at h);refine vt O ?_;refine Ce (Kr:=[]) 6 5 O O ?_;exact Ah ⟨_,rfl,tV O,rfl,rfl,rfl,rfl,ab⟩};rw[ac p]at q;refine Oo (.Kp<|.bool true) O (by simp[A1,p]) ?_;refine ng [] O (by simp[A1];rfl) ?_;refine Aa O (λh=>by simp[p]at h) λh=>?_;refine Fe ?_;refine Ce (Kr:=[7,8,5]) 4 6 O O ?_;exact Ad (ZV s n x u y q) ⟨rfl,rfl,rfl,ab⟩ ⟨rfl,rfl,rfl,rfl,ab⟩ O
termination_by t=>SizeOf.sizeOf t
decreasing_by all_goals(have:=cz A;simp_wf;omega)
def Rz (t:Y):St:=[(6,some<|.cells 270 1 [.ip 182 (As t) 0])]
abbrev j6:List (Nat×Nat):=[(1,1),(2,2),(3,3),(4,4)]
def Z0 (t:Y) {b:Bool} (h:Yields prog (IT t) S b S'):ed 273 [.jv 3,.ref 6 0] ((3,some .ig)::(4,some<|.hV 3 S)::Rz t)<|.ret (.cg [])<|(3,some .ig)::(5,some<|.hV 3 S')::Rz t:=by exact Ae Cp func273 O [1,2,7,5]<|Fa O<|Ao [7] j6 [(5,7)] O (xP t h) IR O O<|Fa O<|Ce (Kr:=[]) 7 5 O O<|Bq ⟨[],BA⟩
def zfh (t:Y):ed 232 [.ip 182 (As t) 0] []<|.ret (.fn (.func 273) [] [.ref 6 0])<|Rz t:=by exact Ae Cp func232 O [6]<|Fa O<|Ah ⟨_,AB⟩
mutual
def DH:Y->L1 Y
 |.mk s n x h=>(if s=2 then[.mk s n x h]else[])++CJ h
def CJ:L1 Y->L1 Y
 |[]=>[]
 |t::r=>DH t++CJ r
end
mutual
def Lf:∀t:Y,IT t=(DH t).map λu=>.ip 182 (As u) 2
 |.mk s n x p=>by simp only[IT,DH,CG,VV p];by_cases h:s=2<;>simp[h]
def VV:∀ts:E1,Ob ts=(CJ ts).map λu=>.ip 182 (As u) 2
 |[]=>rfl
 |t::r=>by simp only[Ob,CJ,CG,Lf t,VV r]
end
def Fk:Y->Z
 |.mk _ _ x _=>x
def BM (t:Y):L1 Z:=(DH t).map Fk
def z7:Code->Option (Code×Code)
 |.rangeFunc _ _ a b=>some (a,b)
 |.seq x y=>match z7 x with
  |some r=>some r
  |none=>z7 y
 |.block _ c=>z7 c
 |_=>none
def zmt (f:Func):Code:=match z7 (Ek f 0)with
 |some (a,_)=>a
 |none=>.skip
def zed (f:Func):Code:=match z7 (Ek f 0)with
 |some (_,b)=>b
 |none=>.skip
def pz:TT:=[
 (3,⟨.int .i64,false,1,8,[.Kp<|.int .i64 0]⟩),
 (9,⟨.str,false,1,16,[.Kp<|.str []]⟩),
 (4,⟨.bool,false,1,1,[.Kp<|.bool false]⟩),
 (139,⟨.map 9 4,false,1,8,[.Kp .gu]⟩),
 (313,⟨.func,false,1,8,[.Kp .dn]⟩),
 (2,⟨.int .i64,false,1,8,[.Kp<|.int .i64 0]⟩),
 (272,⟨.func,false,1,8,[.Kp .dn]⟩),
 (69,⟨.func,false,1,8,[.Kp .dn]⟩),
 (21,⟨.int .i32,false,1,4,[.Kp<|.int .i32 0]⟩),
 (73,⟨.sl 9,false,1,24,[.NB]⟩),
 (271,⟨.func,false,1,8,[.Kp .dn]⟩)]
def JB:dv prog pz:=.of_eq (l:=[3,9,4,139,313,2,272,69,21,73,271]) (by kernel_rfl)
def ld (p:S0) (h:run pz n 300 p todo env st aa []=.at k u au Kr ob) (q:A8 ob) (y:cx n F Q k u au Kr):ia n F Q todo env st aa:=JS JB mixed 300 p h q y
def rG (h:run pz n 300 [] todo env st aa []=.at k u au Kr ob) (q:cx n F Q k u au Kr) (p:A8 ob:=by simp):ia n F Q todo env st aa:=ld [] h p q
def dL (h:run pz n 300 [] todo env st aa []=.at k u au Kr ob) (q:cx n F Q k u au Kr) (p:A8 ob:=by simp[A1]):ia n F Q todo env st aa:=ld [] h p q
def lg (p:S0) (h:run pz n 300 p todo env st aa []=.at k u au Kr ob) (q:A8 ob) (y:cx n F Q k u au Kr):cx n F Q todo env st aa:=Jf JB mixed 300 p h q y
def zqd (h:run pz n 300 [] todo env st aa []=.at k u au Kr ob) (q:cx n F Q k u au Kr) (p:A8 ob:=by simp):cx n F Q todo env st aa:=lg [] h p q
def Ns (h:run pz n 300 [] todo env st aa []=.at k u au Kr ob) (q:cx n F Q k u au Kr) (p:A8 ob:=by simp[A1]):cx n F Q todo env st aa:=lg [] h p q
def li (h:FY pz n env todo=some ⟨es,m,sz,e,g,ob,some t,q⟩) (u:A1 g->0<=m/\es[m.toNat]?=some c/\c.length=sz) (p:A8 ob) (y:cx n F Q q ((t,gD g<|.ip e c 0)::env) st aa):cx n F Q todo env st aa:=H9 JB h u p y
def liz (h:FY pz n env todo=some ⟨es,(i:Int),sz,e,g,ob,some t,q⟩) (u:es[i]?=some c) (y:cx n F Q q ((t,gD g<|.ip e c 0)::env) st aa) (A:c.length=sz:=by simp) (p:A8 ob:=by simp):cx n F Q todo env st aa:=li h (λ_=>⟨by omega,by simpa using u,A⟩) p y
def lizc (h:FY pz n env todo=some ⟨es,(i:Int),sz,e,g,ob,some t,q⟩) (u:es[i]?=some c) (y:cx n F Q q ((t,gD g<|.ip e c 0)::env) st aa) (A:c.length=sz:=by simp) (p:A8 ob:=by simp[A1]):cx n F Q todo env st aa:=li h (λ_=>⟨by omega,by simpa using u,A⟩) p y
def z8 (f:Nat->L1 Z):Nat->Nat->L1 Z
 |_,0=>[]
 |k,n+1=>f k++z8 f (k+1) n
def H6:Nat->Z->L1 Z
 |0,b=>[b]
 |m+1,b=>z8 (λk=>H6 m<|b++[UInt8.ofNat<|97+k]) 0 26
def dS (l:L1 Z):L1 D:=l.map λs=>.Kp<|.str s
def vN (r:St):St:=(1,some<|.cells 69 1 [.jv 3])::(2,some<|.cells 313 1 [.fn (.func 276) [] [.ref 1 0,.ref 2 0]])::r
def zn9 (b:Z) (m:Int) (r:Bool) (S S':jo):Prop:=GL prog 276 [.Kp<|.str b,.Kp<|.int .i64 m,.ref 1 0,.ref 2 0]
 (vN [(3,some .ig),(4,some<|.hV 3 S)]) (.ret (.Kp<|.bool r)<|vN [(3,some .ig),(5,some<|.hV 3 S')])
def zN (f:Nat->E2) (k n:Nat):z8 f k (n+1)=f k++z8 f (k+1) n:=rfl
def tO (a b:E2):dS (a++b)=dS a++dS b:=by simp[dS]
def zel:∀(m:Nat) (b:Z) {r:Bool} {S S':jo},m<=1000->b.length+m<=1000000->Yields prog (dS<|H6 m b) S r S'->zn9 b m r S S'
 |0,b,r,S,S',_,N,u=>by refine Oz JB func276 (by decide +kernel) O [6,7,8,5] O O ?_;refine Ns O ?_;refine Ap O λh=>?_;refine dL O ?_;cases u with|cons h R=>obtain⟨rfl,rfl⟩:=R.m9;refine I0 (j:=4) (j2:=6) O (by simp[A1]) ab h O O O O O ?_;refine Ns O ?_;refine Ce (Kr:=[]) 6 5 O O ?_;exact Ah ⟨_,rfl,tV O,rfl,rfl,rfl,rfl,ab⟩|stop h=>{refine I0 (j:=4) (j2:=6) O (by simp[A1]) ab h O O O O O ?_;refine Ns O ?_;refine Ce (Kr:=[]) 6 5 O O ?_;exact Ah ⟨_,rfl,tV O,rfl,rfl,rfl,rfl,ab⟩}
 |m+1,b,r,S,S',a,N,u=>by refine Oz JB func276 (by decide +kernel) O [6,7,8,5] O O ?_;refine Ns O ?_;refine Aa O (λh=>by simp at h;omega) λh=>?_;refine dL O ?_;refine Ce (Kr:=[7,8,5]) 4 6 O O ?_;refine Ak (λy:Nat×jo=>[(13,i7 y.1),(0,.Kp<|.str b),(1,i7<|((m+1:Nat):Int)),(2,.ref 1 0),(3,.ref 2 0)]) (λy=>vN [(3,some .ig),(6,some<|.hV 3 y.2)]) [7,8,5] (λy=>26-y.1) (λy=>y.1<=26/\Yields prog (dS<|z8 (λk=>H6 m<|b++[UInt8.ofNat<|97+k]) y.1<|26-y.1) y.2 r S') (0,S) ⟨Nat.zero_le _,u⟩ ⟨rfl,rfl,rfl,rfl,rfl,ab⟩ ⟨rfl,rfl,rfl,rfl,ab⟩ O λy T U=>?_;obtain⟨k,K⟩:=y;obtain⟨A,p⟩:=T;simp only at A p;refine dL O ?_;refine Aa O (λh=>?_) λh=>?_;simp at h;have B:26-k=(26-(k+1))+1:=by{omega};rw[B,zN,tO]at p;have C:IntKind.i64.wrap (97+(k:Int))=97+k:=Gi (by omega) (by omega);have D:IntKind.i32.wrap (97+(k:Int))=97+k:=by{simp only[IntKind.wrap,IntKind.bits,IntKind.signed];simp;omega};have L:(97+(k:Int)).toNat=97+k:=by{omega};have M:IntKind.i64.wrap (((m+1:Nat):Int)-1)=m:=by{rw[Gi (by omega)<|by omega];omega};refine ld [] O (by simp only[C,D];simp[A1];omega) ?_;have q:∀(x:Z) (y:Int) (G:Bool) (S1:jo),x=b++[UInt8.ofNat<|97+k]->y=m->Yields prog (dS<|H6 m<|b++[UInt8.ofNat<|97+k]) K G S1->zn9 x y G K S1:=λx y G S1 V W h=>by{rw[V,W];exact zel m _ (by omega) (by simp;omega) h};rcases Yields.split p with⟨S1,H,J⟩|⟨H,J⟩;refine FJ (fr:=[7]) j4 [(5,7)] O (by simp) (q _ _ true S1 (by rw[C,D,L]) (by rw[M]) H) ⟨⟨rfl,rfl,rfl⟩,⟨rfl,rfl,rfl⟩,⟨rfl,rfl,rfl⟩,⟨rfl,rfl,rfl⟩,ab⟩ O O O O ?_;refine Ns O ?_;refine Ag O λh=>?_;refine rG O ?_;refine AV 6 7 O ?_;exact Ad (U (k+1,S1) (by simp only;omega) ⟨by simp only;omega,J⟩) ⟨B2<|Gi (by simp only;omega) (by simp only;omega),rfl,rfl,rfl,rfl,ab⟩ ⟨rfl,rfl,rfl,rfl,ab⟩ O;subst H;refine FJ (fr:=[7]) j4 [(5,7)] O (by simp) (q _ _ false S' (by rw[C,D,L]) (by rw[M]) J) ⟨⟨rfl,rfl,rfl⟩,⟨rfl,rfl,rfl⟩,⟨rfl,rfl,rfl⟩,⟨rfl,rfl,rfl⟩,ab⟩ O O O O ?_;refine Ns O ?_;refine Ap O λh=>?_;refine rG O ?_;refine Ce (Kr:=[]) 7 5 O O ?_;exact Ah ⟨_,rfl,tV O,rfl,rfl,rfl,rfl,ab⟩;simp at h;have B:26-k=0:=by{omega};rw[B]at p;obtain⟨rfl,rfl⟩:=p.m9;refine Aw O ?_;refine rG O ?_;refine Ce (Kr:=[]) 6 5 O O ?_;exact Ah ⟨_,rfl,tV O,rfl,rfl,rfl,rfl,ab⟩
def fU (D:Yields prog (dS<|H6 1 []++H6 2 []) S false S'):ed 275 [.jv 3] [(3,some .ig),(4,some<|.hV 3 S)]<|.ret (.cg []) [(3,some .ig),(5,some<|.hV 3 S')]:=by refine Ae JB func275 O [1,2,6,7,8,5]<|Ns O<|Ce (Kr:=[7,8,5]) 4 6 O O<|Ak (λy:Nat×jo=>[(3,i7 y.1),(1,.ref 1 0),(2,.ref 2 0)]) (λy=>vN [(3,some .ig),(6,some<|.hV 3 y.2)]) [7,8,5] (λy=>3-y.1) (λy=>(y.1=1/\Yields prog (dS<|H6 1 []++H6 2 []) y.2 false S')\/(y.1=2/\Yields prog (dS<|H6 2 []) y.2 false S')) (1,S) (.inl ⟨rfl,D⟩) AB B9 O λy q G=>?_;obtain⟨k,C⟩:=y;simp only at q;refine dL O ?_;have p:∀(n:Nat) (y:Int) (A:Bool) (S1:jo),n<=2->y=n->Yields prog (dS<|H6 n []) C A S1->zn9 [] y A C S1:=λn y A S1 K H h=>by{rw[H];exact zel n _ (by omega) (by simp;omega) h};rcases q with⟨u,q⟩|⟨u,q⟩;rw[tO]at q;rcases Yields.split q with⟨S1,J,B⟩|⟨_,B⟩;exact Ao [7] j4 [(5,7)] O (p 1 _ true S1 (by omega) (by rw[u]) J) IR O O<|Ns O<|Ap O λh=>rG O<|AV 6 7 O<|Ad (G (k+1,S1) (by simp only;omega)<|.inr ⟨by simp only;omega,B⟩) ⟨B2<|Gi (by simp only;omega) (by simp only;omega),AL⟩ B9 O;exact Ao [7] j4 [(5,7)] O (p 1 _ false S' (by omega) (by rw[u]) B) IR O O<|Ns O<|Ag O λh=>Aw O<|Ce (Kr:=[]) 7 5 O O<|Bq ⟨[],B9⟩;exact Ao [7] j4 [(5,7)] O (p 2 _ false S' (by omega) (by rw[u]) q) IR O O<|Ns O<|Ag O λh=>Aw O<|Ce (Kr:=[]) 7 5 O O<|Bq ⟨[],B9⟩
def oB:ca 234 []<|.fn<|.func 275:=by exact Ae JB func234 O []<|Ns O<|Ab O O O
def HM (l:L1 Z) (s:Z):L1 Z:=if AR l s then l else l++[s]
def MR (l:E2) (s:Z):GE (Dp l) (.str s) (.bool true)=Dp (HM l s):=by unfold HM;by_cases h:AR l s=true;rw[ae h];induction l with|nil=>simp[AR]at h|cons x r q=>{simp only[AR,EJ]at h;simp only[Dp,CK,GE,nz];by_cases p:s=x;subst p;simp;have u:AR r s=true:=by{rcases h with h|h;exact absurd (by simpa using h) λe:x=s=>p e.symm;exact h};have:=q u;simp only[Dp]at this;simp[p,this]};rw[ac h];exact Qn l s (by simpa using h)
def WV (l m:E2) (x:Z):AR (l++m) x=(AR l x||AR m x):=by induction l with|nil=>simp[AR]|cons y r h=>{simp[AR,h,cZ]}
def lA (l:E2) (s x:Z):AR (HM l s) x=AR (l++[s]) x:=by unfold HM;by_cases h:AR l s=true;rw[ae h,WV];by_cases p:s=x;subst p;rw[h];rfl;simp[AR,p];rw[ac h]
def UT (t:Nat) {f:Fn} (B:lk env t=some (.Kp<|.fn f)) (h:ek P n F Q todo ((t,.fn f [] [])::env) st aa):ek P n F Q todo env st aa:=by intro b C I μ a w p D u;refine h b C I μ a w p D { u with env:=λy d q=>?_ };by_cases A:t=y;subst A;rw[A6]at q;cases q;rw[(u.env t _ B).Ks.nq];exact .fn _ #[] #[] [] [] O O (λi v d h=>by simp at h) (λi v d h=>by simp at h);rw[AC _ _ A]at q;exact u.env y d q
def Yields.pre {m:R1} (h:∀x∈l,LB P [x] S true S) (p:LB P [d] S false S'):Yields P (l++d::m) S false S':=by induction l with|nil=>exact .stop p|cons x r q=>{exact .cons (h x<|by simp)<|q λy u=>h y<|by simp[u]}
def oh (h:L1 Z) (s:Z):St:=[(1,some<|.NA 9 1 [.str s]),(2,some<|.map<|Dp h),(3,some<|.cells 139 1 [.cf 2])]
def hZ:Code->Option (Code×Code)
 |.rangeFunc _ _ a b=>some (a,b)
 |.seq x y=>match hZ x with
  |some r=>some r
  |none=>hZ y
 |.block _ c=>hZ c
 |_=>none
def zee (f:Func):Code:=match hZ (Ek f 0)with
 |some (a,_)=>a
 |none=>.skip
def vH (f:Func):Code:=match hZ (Ek f 0)with
 |some (_,b)=>b
 |none=>.skip
def Ep (l:L1 Z) (s:Z):Bool:=BW s&&!AR l s
def zja (p:E2) (u:Z) (B:Ep p u=false) {L:Jj} (C:prog.funcs[L.fn]?.isSome) (D:L.tmps.size=Tryz.f167.ntmps) (G:L.ps = #[18]) (H:L.m7=zee Tryz.f167) (J:L.body=vH Tryz.f167) (y:L.E=[(2,.ref 1 0),(3,.ref 3 0)]) (A:L.F=[]):LB prog [.Kp<|.str u] (Cl L (oh p []) none) true<|Cl L (oh p []) none:=by let⟨R,K⟩:=Nj.1 C;refine Rh (b0:=none) (d:=.Kp<|.str u) (aa:=[7,8]) (t:=6) (p:=18) K G (H.trans O) D O O O O (by decide) (by decide) ?_ ?_;rw[y,A];refine⟨by decide,?_⟩;simp[oh,OS,GH,DB,KU,FO];rw[J,y,A];refine dL O<|Al O (FU u)<|Ns O<|CR JB 2 O O O (Da p) (by simp[A1]) (z:=.bool false) O (λ_=>.bool _) (Hi p u)<|Ns O ?_;have q:(BW u&&!AR p u)=false:=B;refine Aa O (λh=>?_) λh=>?_;exfalso;cases M:BW u<;>cases N:AR p u<;>simp[M,N]at h q;refine dL O<|Bq (?_:Hh _<|oh p []);exact AB
def uG (p:E2) (u:Z) (B:Ep p u=true) {L:Jj} (C:prog.funcs[L.fn]?.isSome) (D:L.tmps.size=Tryz.f167.ntmps) (G:L.ps = #[18]) (H:L.m7=zee Tryz.f167) (J:L.body=vH Tryz.f167) (y:L.E=[(2,.ref 1 0),(3,.ref 3 0)]) (A:L.F=[]):LB prog [.Kp<|.str u] (Cl L (oh p []) none) false<|Cl L (oh p u)<|some .ret:=by let⟨R,K⟩:=Nj.1 C;refine Rh (b0:=some .ret) (d:=.Kp<|.str u) (aa:=[7,8]) (t:=6) (p:=18) K G (H.trans O) D O O O O (by decide) (by decide) ?_ ?_;rw[y,A];refine⟨by decide,?_⟩;simp[oh,OS,GH,DB,KU,FO];rw[J,y,A];refine dL O<|Al O (FU u)<|Ns O<|CR JB 2 O O O (Da p) (by simp[A1]) (z:=.bool false) O (λ_=>.bool _) (Hi p u)<|Ns O ?_;have q:(BW u&&!AR p u)=true:=B;refine Aa O (λh=>?_) λh=>?_;refine dL O<|Ah (?_:Hh _<|oh p u);exact AB;exfalso;cases M:BW u<;>cases N:AR p u<;>simp[M,N]at h q
def zjb (l:E2) (s:Z) (A B:E2) (f:l.length<=1000000) (K:H6 1 []++H6 2 []=A++s::B) (C:∀x∈A,Ep l x=false) (b:Ep l s=true):ca 167 [.sl<|BP l]<|.str s:=by refine Ae JB func167 O [1,2,3,4,7,8]<|Ns O<|Es O<|Ns O<|Ak (λy:Nat×E2=>[(10,i7 y.1),(9,i7 l.length),(8,.Kp<|.sl<|BP l),(2,.ref 1 0),(3,.ref 3 0)]) (λy=>oh y.2 []) [7,8] (λy=>l.length-y.1) (λy=>y.1<=l.length/\∀x,AR y.2 x=AR (l.take y.1) x) (0,[]) ⟨AK _,λ_=>rfl⟩ ⟨rfl,B2<|by simp,AB⟩ AB O λy H c=>?_;obtain⟨i,p⟩:=y;obtain⟨M,q⟩:=H;simp only at M q;refine dL O<|Aa O (λh=>?_) λh=>?_;simp at h;let⟨x,J⟩:=Aq h;refine rG O<|li O (c:=[.str x]) (λ_=>⟨by simp,by simpa using Gf J,rfl⟩) (by simp)<|zqd O<|Ey JB O O O (Da p)<|zqd O ?_;rw[MR];exact Ad (c (i+1,HM p x) (by simp only;omega) ⟨by simp only;omega,λy=>by simp only;rw[lA,WV,q y,Bm J,WV]⟩) ⟨B2<|Gi (by simp only;omega) (by simp only;omega),B9⟩ AB O;simp at h;have G:∀x,Ep p x=Ep l x:=λx=>by{have:=q x;rw[Df<|by omega]at this;simp only[Ep,this]};refine Aw O<|rG O<|Ac O oB<|rG O<|UT 17 O<|E3 (y:=3) (j:=4) (j2:=5) (lp:=[]) (l5:=[]) (jm:=oh p []) (io:=oh p s) (b0:=some .ret) (E:=[(2,.ref 1 0),(3,.ref 3 0)]) (Kr:=[7,8,9]) (d:=.cg []) O func275 (by decide +kernel) O (by decide) AL (Cz AB) (λL N R T U V W a=>fU ?_) ?_ ?_ ?_ ?_ ?_;rw[K,tO];refine Yields.pre (λx J=>?_)<|uG p s (by rw[G];exact b) N R T U V W a;obtain⟨u,d,rfl⟩:=CC.1 J;exact zja p u (by rw[G];exact C u d) N R T U V W a;simp[CB];simp[CB];intro i H;have e:FO (([]:R1)++[])=[]:=rfl;rw[e]at H;simp[DB]at H;refine⟨by decide,?_⟩;simp[oh,OS,GH,DB,KU,FO,CB];exact Ab O O O
def SQ (t:Tm):St:=[(6,some<|.cells 230 1 [.ip 49 (dTmc t) 0])]
def Bv (op h:Int):Bool:=op==5||op==27||(op==7&&h==1)
def X5 (op n:Int) (x:Z) (ks:G1) (ps:E1) (p:Int) (h:Bv op p=true):ed 166 [.ip 49 (dTmc<|.mk op n x ks ps) 0,i7 p] []<|.ret (.fn (.func 231) [] [.ref 6 0])<|SQ<|.mk op n x ks ps:=by refine Ae Cp func166 O [6]<|Fa O ?_;have A:(op==5||op==27||(op==7&&p==1))=true:=h;refine Aa rfl (λy=>?_) λy=>?_;refine DM O<|Aa O (λ_=>?_) (λq=>by rw[y]at q;cases q);exact DM O<|Ah ⟨_,AB⟩;refine DM O<|Aa O (λq=>?_) λq=>?_;refine DM O<|Aa O (λ_=>?_) (λu=>by rw[q]at u;cases u);exact DM O<|Ah ⟨_,AB⟩;refine DM O<|Aa O (λ_=>?_) λu=>?_;exact DM O<|Ah ⟨_,AB⟩;exfalso;rw[y,q]at A;cases B:(op==7)<;>cases C:(p==1)<;>simp[B,C]at A u
def Ca (op h:Int):Bool:=op==15&&decide (0<h)
def aV (op n:Int) (x:Z) (ks:G1) (ps:E1) (q:Int) (h:Bv op q=false) (D:Ca op q=true) (p:Y) (G:ps[(q-1).toNat]?=some p) (N:q<=1000000):ed 166 [.ip 49 (dTmc<|.mk op n x ks ps) 0,i7 q] []<|.ret (.fn (.func 273) [] [.ref 6 0])<|Rz p:=by refine Ae Cp func166 O [7,6]<|Fa O ?_;have A:(op==5||op==27||(op==7&&q==1))=false:=h;have u:(op==15&&decide (0<q))=true:=D;simp only[Mb]at A;obtain⟨⟨H,J⟩,K⟩:=A;simp only[Am,am]at u;refine Aa rfl (λy=>by rw[H]at y;cases y) λy=>?_;refine DM O<|Aa O (λy=>by rw[J]at y;cases y) λy=>?_;refine DM O<|Aa O (λB=>?_) λB=>?_;exfalso;cases L:(op==7)<;>cases M:(q==1)<;>simp[L,M]at K B;refine DM O<|Aa O (λC=>?_) (λC=>by simp[u.1,u.2]at C);exact DM O<|ni O (c:=As p) (λ_=>⟨by rw[Gi (by omega)<|by omega];omega,by rw[Gi (by omega)<|by omega];exact AS G,by simp⟩) (by simp)<|Fa O<|FJ (bk:=[]) (fr:=[6]) [] [(6,6)] O (by simp) (zfh p) ab O O O O<|Fa O<|Ah ⟨_,AB⟩
def X6 (op n:Int) (x:Z) (ks:G1) (ps:E1) (p:Int) (h:Bv op p=false) (G:Ca op p=false):ed 166 [.ip 49 (dTmc<|.mk op n x ks ps) 0,i7 p] []<|.ret (.Kp<|.fn<|.func 233) []:=by refine Ae Cp func166 O [7,6]<|Fa O ?_;have B:(op==5||op==27||(op==7&&p==1))=false:=h;have u:(op==15&&decide (0<p))=false:=G;simp only[Mb]at B;obtain⟨⟨H,J⟩,K⟩:=B;refine Aa rfl (λq=>by rw[H]at q;cases q) λq=>?_;refine DM O<|Aa O (λq=>by rw[J]at q;cases q) λq=>?_;refine DM O<|Aa O (λC=>?_) λC=>?_;exfalso;cases y:(op==7)<;>cases A:(p==1)<;>simp[y,A]at K C;refine DM O<|Aa O (λD=>?_) λD=>?_;{exfalso;cases y:(op==15)<;>cases A:decide (0<p)<;>simp[y,A]at u D<;>simp_all};exact DM O<|Ab O O O
def aW (t:Tm) (p:Yields prog [.ip 49 (dTmc t) 2] S r S'):ed 231 [.jv 3,.ref 6 0] ((3,some .ig)::(4,some<|.hV 3 S)::SQ t)<|.ret (.cg [])<|(3,some .ig)::(5,some<|.hV 3 S')::SQ t:=by obtain⟨u,n,x,y,A⟩:=t;refine Ae Cp func231 O [7,5]<|Fa O ?_;cases p with|cons h q=>{obtain⟨rfl,rfl⟩:=q.m9;exact I0 (j:=4) (j2:=7) O (by simp[A1]) ab h O O O O O<|Fa O<|Ce (Kr:=[]) 7 5 O O<|Bq ⟨[],BA⟩}|stop h=>{exact I0 (j:=4) (j2:=7) O (by simp[A1]) ab h O O O O O<|Fa O<|Ce (Kr:=[]) 7 5 O O<|Bq ⟨[],BA⟩}
def SR:ed 233 [.jv 3] [(3,some .ig),(4,some<|.hV 3 S)]<|.ret (.cg []) [(3,some .ig),(5,some<|.hV 3 S)]:=by exact Ae Cp func233 O [7,5]<|Fa O<|Ce (Kr:=[]) 4 5 O O<|Bq ⟨[],B9⟩
def gh (l:L1 Z):Nat->St
 |0=>[(1,some<|.cells 73 1 [.NB])]
 |k+1=>[(1,some<|.cells 73 1 [.own 4 (BP<|l.take<|k+1).length]),(4,some<|.row 9 1<|BP<|l.take<|k+1)]
def TN (l:E2) (p:l.length<=1000000) (i:Nat) (u:Tm) (h:l[i]?=some (match u with|.mk _ _ x _ _=>x)) {L:Jj} (A:prog.funcs[L.fn]?.isSome) (B:L.tmps.size=Tryz.f164.ntmps) (C:L.ps = #[10]) (D:L.m7=zmt Tryz.f164) (G:L.body=zed Tryz.f164) (q:L.E=[(5,.ref 1 0)]) (y:L.F=[]):LB prog [.ip 49 (dTmc u) 2] (Cl L (gh l i) none) true<|Cl L (gh l<|i+1) none:=by let⟨T,H⟩:=Nj.1 A;obtain⟨J,K,x,M,N⟩:=u;have R:i<l.length:=(A9.1 h).1;refine Rh (b0:=none) (d:=.ip 49 (dTmc<|.mk J K x M N) 2) (aa:=[7,8]) (t:=6) (p:=10) H C (D.trans O) B O O O O (by decide) (by decide) ?_ ?_;rw[q,y];cases i<;>refine⟨by decide,?_⟩<;>simp[gh,OS,GH,DB,KU,FO];rw[G,q,y];cases i with|zero=>refine DM O<|B1 Cp O ⟨by simp,by simp[maxLen],by simp,ab⟩<|ng [] O (by simp[A1];rfl)<|AV 4 7 O<|Bq (?_:Hh _<|gh l<|0+1);have e:BP (l.take<|0+1)=[]++[[.str x]]:=by{rw[Bm h];rfl};simp only[gh,e];exact AL|succ i=>{refine DM O<|B1 Cp O ⟨by simp,by simp[maxLen];omega,by simp;omega,ab⟩<|ng [] O (by simp[A1];rfl)<|AV 4 7 O<|Bq (?_:Hh _<|gh l<|i+1+1);have e:BP (l.take<|i+1+1)=BP (l.take<|i+1)++[[.str x]]:=by{rw[Bm h,Hp];rfl};simp only[gh,e];exact⟨by simp only[Bo];rfl,AD⟩}
def TO (l:E2) (p:l.length<=1000000) (i:Nat) (u:Y) (h:l[i]?=some (Fk u)) {L:Jj} (A:prog.funcs[L.fn]?.isSome) (B:L.tmps.size=Tryz.f164.ntmps) (C:L.ps = #[10]) (D:L.m7=zmt Tryz.f164) (G:L.body=zed Tryz.f164) (q:L.E=[(5,.ref 1 0)]) (y:L.F=[]):LB prog [.ip 182 (As u) 2] (Cl L (gh l i) none) true<|Cl L (gh l<|i+1) none:=by let⟨R,H⟩:=Nj.1 A;obtain⟨J,K,x,M⟩:=u;have N:i<l.length:=(A9.1 h).1;refine Rh (b0:=none) (d:=.ip 182 (As<|.mk J K x M) 2) (aa:=[7,8]) (t:=6) (p:=10) H C (D.trans O) B O O O O (by decide) (by decide) ?_ ?_;rw[q,y];cases i<;>refine⟨by decide,?_⟩<;>simp[gh,OS,GH,DB,KU,FO];rw[G,q,y];cases i with|zero=>refine DM O<|B1 Cp O ⟨by simp,by simp[maxLen],by simp,ab⟩<|ng [] O (by simp[A1];rfl)<|AV 4 7 O<|Bq (?_:Hh _<|gh l<|0+1);have e:BP (l.take<|0+1)=[]++[[.str x]]:=by{rw[Bm h];rfl};simp only[gh,e];exact AL|succ i=>{refine DM O<|B1 Cp O ⟨by simp,by simp[maxLen];omega,by simp;omega,ab⟩<|ng [] O (by simp[A1];rfl)<|AV 4 7 O<|Bq (?_:Hh _<|gh l<|i+1+1);have e:BP (l.take<|i+1+1)=BP (l.take<|i+1)++[[.str x]]:=by{rw[Bm h,Hp];rfl};simp only[gh,e];exact⟨by simp only[Bo];rfl,AD⟩}
def Sl (l:E2):ia Tryz.f164.ntmps [] (IZ uK Tryz.f164.results.toList<|.ret (.Kp<|.sl<|BP l) []) [.inBlock 0,.code<|Ek Tryz.f164 3] [(5,.ref 1 0)] (gh l l.length) [7,8,9]:=by cases l with|nil=>{exact DM O<|Ab O O O}|cons x r=>{have e:BP ((x::r).take<|(x::r).length)=BP (x::r):=by{rw[Df<|B6 _]};have h:gh (x::r) (x::r).length=[(1,some<|.cells 73 1 [.own 4 (BP<|x::r).length]),(4,some<|.row 9 1<|BP<|x::r)]:=by{simp only[C1,gh]at e ⊢;rw[e]};rw[h];exact BR 4 O<|DM O<|Ab O O O}
def Ai:Tm->Int->L1 Z
 |.mk q _ x _ u,h=>if Bv q h then[x]else if Ca q h then(match u[(h-1).toNat]? with|some p=>BM p|none=>[])else[]
def wT (op n:Int) (x:Z) (ks:G1) (ps:E1) (q:Int) (T:q<=1000000) (U:Bv op q=false->Ca op q=true->∃p,ps[(q-1).toNat]?=some p/\(BM p).length<=1000000):ca 164 [.ip 49 (dTmc<|.mk op n x ks ps) 0,.int .i64 q]<|.sl<|BP<|Ai (.mk op n x ks ps) q:=by refine Ae Cp func164 O [1,6,7,8,9]<|xV 0 O<|DM O ?_;cases h:Bv op q with|true=>have e:Ai (.mk op n x ks ps) q=[x]:=by{simp[Ai,h]};rw[e];refine FJ (bk:=[]) (fr:=[6]) [] [(6,6)] O (by simp) (X5 op n x ks ps q h) ab O O O O<|DM O<|E3 (y:=3) (j:=4) (j2:=5) (lp:=SQ<|.mk op n x ks ps) (l5:=SQ<|.mk op n x ks ps) (jm:=gh [x] 0) (io:=gh [x] 1) (b0:=none) (E:=[(5,.ref 1 0)]) (Kr:=[7,8,9]) (d:=.cg []) O func231 (by decide +kernel) O (by decide) AD (Cz AL) (λL C A G H J K M=>aW (r:=true) (.mk op n x ks ps)<|.cons (TN [x] (by simp) 0 (.mk op n x ks ps) O C A G H J K M)<|.nil _) ?_ ?_ ?_ ?_ (Sl [x]);simp[SQ,gh,CB];simp[SQ,CB];intro i y;have e:FO (EX (DW<|AZ []++[(6,6)]) []++EX (DW<|AZ []++[(6,6)]) [.ref 6 0])=[6]:=rfl;rw[e]at y;simpa[SQ,CB,DB,KU,FO,GH]using y;refine⟨by decide,?_⟩;simp[gh,OS,GH,DB,KU,FO,CB]|false=>{cases A:Ca op q with|true=>let⟨p,B,N⟩:=U h A;have e:Ai (.mk op n x ks ps) q=BM p:=by{show(if Bv op q then[x]else if Ca op q then(match ps[(q-1).toNat]? with|some p=>BM p|none=>[])else[])=BM p;rw[h,A,B];rfl};rw[e];refine FJ (bk:=[]) (fr:=[6]) [] [(6,6)] O (by simp) (aV op n x ks ps q h A p B T) ab O O O O<|DM O<|E3 (y:=3) (j:=4) (j2:=5) (lp:=Rz p) (l5:=Rz p) (jm:=gh (BM p) 0) (io:=gh (BM p) (BM p).length) (b0:=none) (E:=[(5,.ref 1 0)]) (Kr:=[7,8,9]) (d:=.cg []) O func273 (by decide +kernel) O (by decide) AD (Cz AL) (λL C A G H J K M=>Z0 (b:=true) p ?_) ?_ ?_ ?_ ?_ (Sl<|BM p);have:=Yields.all (P:=prog) (l:=IT p) (λi=>Cl L (gh (BM p) i) none) λi d y=>by{rw[Lf,Cx]at y;cases R:(DH p)[i]? with|none=>rw[R]at y;cases y|some u=>{rw[R]at y;cases y;exact TO (BM p) N i u (by simp[BM,R]) C A G H J K M}};have V:(IT p).length=(BM p).length:=by{simp[Lf,BM]};rw[V]at this;exact this;cases(BM p).length<;>simp[Rz,gh,CB];simp[Rz,CB];intro i y;have e:FO (EX (DW<|AZ []++[(6,6)]) []++EX (DW<|AZ []++[(6,6)]) [.ref 6 0])=[6]:=rfl;rw[e]at y;simpa[Rz,CB,DB,KU,FO,GH]using y;refine⟨by decide,?_⟩;cases(BM p).length<;>simp[gh,OS,GH,DB,KU,FO,CB]|false=>{have e:Ai (.mk op n x ks ps) q=[]:=by{simp[Ai,h,A]};rw[e];refine FJ (bk:=[]) (fr:=[]) [] [] O (by simp) (X6 op n x ks ps q h A) ab O O O O<|DM O<|UT 9 O<|E3 (y:=3) (j:=4) (j2:=5) (lp:=[]) (l5:=[]) (jm:=gh [] 0) (io:=gh [] 0) (b0:=none) (E:=[(5,.ref 1 0)]) (Kr:=[7,8,9]) (d:=.cg []) O func233 (by decide +kernel) O (by decide) AD (Cz AD) (λL C A G H J K M=>SR) ?_ ?_ ?_ ?_ (Sl []);simp[CB];simp[CB];intro i y;have e:FO (([]:R1)++[])=[]:=rfl;rw[e]at y;simp[DB]at y;refine⟨by decide,?_⟩;simp[gh,OS,GH,DB,KU,FO,CB]}}
def nW:TT:=uK++[
 (225,⟨.ptr 264,false,1,8,[.Kp .jc]⟩),
 (262,⟨.struct [(0,9),(1,9)],true,2,32,[.Kp<|.str [],.Kp<|.str []]⟩),
 (264,⟨.struct [(0,262),(2,225)],true,3,40,[.Kp<|.str [],.Kp<|.str [],.Kp .jc]⟩)]
def BC:dv prog nW:=.of_eq (l:=[4,3,9,49,25,182,45,47,5,23,22,73,46,180,71,43,178,40,41,113,111,28,293,195,1,139,296,190,183,185,187,26,246,191,270,235,233,232,268,312,230,225,262,264]) (by kernel_rfl)
def fd_ (p:S0) (h:run nW n 300 p todo env st aa []=.at k u au Kr ob) (q:A8 ob) (y:cx n F Q k u au Kr):ia n F Q todo env st aa:=JS BC mixed 300 p h q y
def Mp (p:S0) (h:run nW n 300 p todo env st aa []=.at k u au Kr ob) (y:cx n F Q k u au Kr) (q:A8 ob:=by simp):ia n F Q todo env st aa:=fd_ p h q y
def BD (h:run nW n 300 [] todo env st aa []=.at k u au Kr ob) (q:cx n F Q k u au Kr) (p:A8 ob:=by simp):ia n F Q todo env st aa:=fd_ [] h p q
def pk (p:S0) (h:run nW n 300 p todo env st aa []=.at k u au Kr ob) (q:A8 ob) (y:cx n F Q k u au Kr):cx n F Q todo env st aa:=Jf BC mixed 300 p h q y
def Cb (h:run nW n 300 [] todo env st aa []=.at k u au Kr ob) (q:cx n F Q k u au Kr) (p:A8 ob:=by simp):cx n F Q todo env st aa:=pk [] h p q
def lO (h:run nW n 300 [] todo env st aa []=.at k u au Kr ob) (q:cx n F Q k u au Kr) (p:A8 ob:=by simp[A1]):cx n F Q todo env st aa:=pk [] h p q
def o0 (h:FY nW n env todo=some ⟨es,m,sz,e,g,ob,some t,q⟩) (u:A1 g->0<=m/\es[m.toNat]?=some c/\c.length=sz) (p:A8 ob) (y:cx n F Q q ((t,gD g<|.ip e c 0)::env) st aa):cx n F Q todo env st aa:=H9 BC h u p y
def zqk (h:FY nW n env todo=some ⟨es,(i:Int),sz,e,g,ob,some t,q⟩) (u:es[i]?=some c) (y:cx n F Q q ((t,gD g<|.ip e c 0)::env) st aa) (A:c.length=sz:=by simp) (p:A8 ob:=by simp):cx n F Q todo env st aa:=o0 h (λ_=>⟨by omega,by simpa using u,A⟩) p y
def fi_zc (h:FY nW n env todo=some ⟨es,(i:Int),sz,e,g,ob,some t,q⟩) (u:es[i]?=some c) (y:cx n F Q q ((t,gD g<|.ip e c 0)::env) st aa) (A:c.length=sz:=by simp) (p:A8 ob:=by simp[A1]):cx n F Q todo env st aa:=o0 h (λ_=>⟨by omega,by simpa using u,A⟩) p y
def MS:L1 Z->V
 |[]=>.jc
 |x::r=>.ip 264 [.str x,.str x,MS r] 0
def zkt (l:E2) (s:Z):ca 162 [MS l,.str s]<|.cg [.str (if AR l s then s else[]),.bool<|AR l s]:=by refine Ae BC func162 O [1]<|Cb O<|Ak (λr:E2=>[(0,.Kp<|MS r),(1,.Kp<|.str s)]) (λ_=>[]) [1] (λr=>r.length) (λr=>AR l s=AR r s) l O AL ab O λr p u=>?_;cases r with|nil=>refine BD O<|Ag O λh=>Aw O<|BD O<|Ab O O (af _ ?_);rw[p];rfl|cons x r=>{refine xV 0 O<|BD O<|Ap O λh=>BD O<|Aa O (λq=>?_) λq=>?_;refine BD O<|Ab O O (af _ ?_);have e:x=s:=by{simpa using q};subst e;have:AR l x=true:=by{rw[p];simp[AR]};rw[this];rfl;refine BD O ?_;have e:AR (x::r) s=AR r s:=by{simp[AR,q]};exact Ad (u r (by simp)<|by rw[p,e]) AL ab O}
def zji (l q:E2):ca 163 [MS l,.sl<|BP q]<|MS<|q.reverse++l:=by refine BJ λG=>?_;have B:q.length<=9223372036854775807:=by{simp[DF,GA,maxLen]at G;omega};refine Ae BC func163 O [1]<|Cb O<|Ak (λy:Nat×E2=>[(9,i7 y.1),(8,i7 q.length),(7,.Kp<|.sl<|BP q),(0,.Kp<|MS y.2)]) (λ_=>[]) [1] (λy=>q.length-y.1) (λy=>y.1<=q.length/\y.2=(q.take y.1).reverse++l) (0,l) ⟨AK _,rfl⟩ ⟨rfl,B2<|by simp,AL⟩ ab O λy H C=>?_;obtain⟨i,r⟩:=y;obtain⟨A,u⟩:=H;simp only at A u;refine BD O<|Aa O (λh=>?_) λh=>?_;simp at h;let⟨x,D⟩:=Aq h;have p:x::r=(q.take<|i+1).reverse++l:=by{rw[Bm D,List.reverse_append,u];rfl};refine BD O<|o0 O (c:=[.str x]) (λ_=>⟨by simp,by simpa using Gf D,rfl⟩) (by simp) ?_;cases r with|nil=>{exact Cb O<|IK 0 O O<|Ad (C (i+1,[x]) (by simp only;omega) ⟨by simp only;omega,p⟩) ⟨B2<|Gi (by simp only;omega) (by simp only;omega),AB⟩ ab O}|cons y r=>{exact Cb O<|IK 0 O O<|Ad (C (i+1,x::y::r) (by simp only;omega) ⟨by simp only;omega,p⟩) ⟨B2<|Gi (by simp only;omega) (by simp only;omega),AB⟩ ab O};simp at h;refine Aw O<|BD O<|Ab O O ?_;rw[u,Df<|by omega]
mutual
def EA:Tm->L1 Z->L1 Z->L1 Z
 |.mk h n x p q,s,m=>if h=4 then(if AR s x then m else HM m x)else HC (.mk h n x p q) 0 p s m
def HC (t:Tm):Nat->L1 Tm->L1 Z->L1 Z->L1 Z
 |_,[],_,m=>m
 |i,k::r,s,m=>HC t (i+1) r s<|EA k ((Ai t i).reverse++s) m
end
mutual
def Ig:Tm->Prop
 |.mk q _ _ h u=>h.length<=1000000/\(∀i:Nat,i<h.length->Bv q i=false->Ca q i=true->∃p,u[((i:Int)-1).toNat]?=some p/\(BM p).length<=1000000)/\LT h
def LT:L1 Tm->Prop
 |[]=>True
 |k::r=>Ig k/\LT r
end
def Kn:∀{l:G1} {t:Tm},LT l->t∈l->Ig t
 |[],_,_,h=>by simp at h
 |k::r,t,h,hm=>by rcases Cu.1 hm with rfl|hm;exact h.1;exact Kn h.2 hm
def zqh (t:Tm) (s m:L1 Z):Prop:=GL prog 108 [.Kp<|.agg<|dTmc t,.Kp<|MS s,.cf 1] [(1,some<|.map<|Dp m)]<|.ret (.cg []) [(1,some<|.map<|Dp<|EA t s m)]
def eh:=@List.mem_of_getElem?
def eG:∀(t:Tm) (s m:E2),Ig t->zqh t s m
 |.mk q n x p A,s,m,G=>by obtain⟨M,H,J⟩:=G;refine Oz BC func108 (by decide +kernel) O [2,3,4,5] O O ?_;refine Cb O ?_;refine Aa O (λh=>?_) λh=>?_;have e:q=4:=by{simpa using h};refine BD O ?_;refine Ac O (zkt s x) ?_;refine Cb O ?_;refine Aa O (λB=>?_) λB=>?_;refine BD O ?_;refine Ey BC O O O (Da m) ?_;refine Cb O ?_;rw[MR];have C:EA (.mk q n x p A) s m=HM m x:=by{simp at B;simp[EA,e,B]};rw[C];exact Ah ⟨[],rfl,rfl,rfl,ab⟩;refine BD O ?_;have C:EA (.mk q n x p A) s m=m:=by{simp at B;simp[EA,e,B]};rw[C];exact Ah ⟨[],rfl,rfl,rfl,ab⟩;have e:¬q=4:=by{simpa using h};have C:EA (.mk q n x p A) s m=HC (.mk q n x p A) 0 p s m:=by{simp[EA,e]};rw[C];refine BD O ?_;refine IK 3 O O ?_;refine Ak (λy:Nat×E2=>[(28,i7 y.1),(27,i7 p.length),(26,.Kp<|.sl<|Ci p),(1,.Kp<|MS s),(2,.cf 1),(3,.ip 49 (dTmc<|.mk q n x p A) 0)]) (λy=>[(1,some<|.map<|Dp y.2)]) [3,4,5] (λy=>p.length-y.1) (λy=>y.1<=p.length/\HC (.mk q n x p A) 0 p s m=HC (.mk q n x p A) y.1 (p.drop y.1) s y.2) (0,m) ⟨Nat.zero_le _,rfl⟩ ⟨rfl,B2<|by simp,rfl,rfl,rfl,rfl,ab⟩ ⟨rfl,ab⟩ O λy N R=>?_;obtain⟨i,L⟩:=y;obtain⟨K,u⟩:=N;simp only at K u;refine BD O ?_;refine Aa O (λh=>?_) λh=>?_;simp at h;let⟨k,D⟩:=Aq h;rw[Av D]at u;refine BD O ?_;refine o0 O (c:=dTmc k) (λ_=>⟨by simp,by simpa using Ec D,by simp⟩) (by simp) ?_;refine Cb O ?_;refine Ac O (wT q n x p A i (by omega)<|H i h) ?_;refine Cb O ?_;refine Ac O (zji s _) ?_;refine Cb O ?_;refine FJ (fr:=[]) [(1,1)] [] O (by simp) (eG k _ L<|Kn J<|eh D) ⟨⟨rfl,rfl,rfl⟩,ab⟩ O O O O ?_;refine pk [] O (by simp;rfl) ?_;exact Ad (R (i+1,EA k ((Ai (.mk q n x p A) i).reverse++s) L) (by simp only;omega) ⟨by simp only;omega,u⟩) ⟨B2<|Gi (by simp only;omega) (by simp only;omega),rfl,rfl,rfl,rfl,rfl,ab⟩ ⟨rfl,ab⟩ O;simp at h;rw[List.drop_eq_nil_of_le<|by omega]at u;refine Aw O ?_;refine BD O ?_;rw[u];exact Bq ⟨[],rfl,rfl,rfl,ab⟩
termination_by t=>SizeOf.sizeOf t
decreasing_by all_goals(have:=cz<|eh D;simp_wf;omega)
def AX:Tm->Int->L1 Z
 |.mk q _ x _ u,h=>if Bv q h then[x]else if Ca q h then(match u[(h-1).toNat]? with|some p=>AN p|none=>[])else[]
def zjf (op n:Int) (x:Z) (ks:G1) (ps:E1) (q:Int) (L:q<=1000000) (K:Bv op q=false->Ca op q=true->∃p,ps[(q-1).toNat]?=some p/\Bn p<=1000000):ca 103 [.agg<|dTmc<|.mk op n x ks ps,.int .i64 q]<|.sl<|BP<|AX (.mk op n x ks ps) q:=by refine Ae BC func103 O [1,2,3]<|Cb O ?_;by_cases A:op=5;have e:AX (.mk op n x ks ps) q=[x]:=by{simp[AX,Bv,A]};rw[e];refine Aa O (λh=>?_) (λh=>by simp[A]at h);refine BD O<|Aa O (λh=>?_) (λh=>by simp[A]at h);exact BD O<|Ab O O O;refine Aa O (λh=>by simp at h;exact absurd h A) λh=>?_;refine BD O ?_;by_cases u:op=27;have e:AX (.mk op n x ks ps) q=[x]:=by{simp[AX,Bv,u]};rw[e];refine Aa O (λh=>?_) (λh=>by simp[u]at h);exact BD O<|Ab O O O;refine Aa O (λh=>by simp at h;exact absurd h u) λh=>?_;refine BD O ?_;by_cases B:op=7;refine Aa O (λh=>?_) (λh=>by simp[B]at h);refine BD O ?_;by_cases D:q=1;have e:AX (.mk op n x ks ps) q=[x]:=by{simp[AX,Bv,B,D]};rw[e];refine Aa O (λh=>?_) (λh=>by simp[D]at h);exact BD O<|Ab O O O;have e:AX (.mk op n x ks ps) q=[]:=by{simp[AX,Bv,Ca,B,D]};rw[e];refine Aa O (λh=>by simp at h;exact absurd h D) λh=>?_;exact BD O<|Ab O O O;refine Aa O (λh=>by simp at h;exact absurd h B) λh=>?_;refine BD O ?_;have o:Bv op q=false:=by{simp[Bv,A,u,B]};by_cases y:op=15;refine Aa O (λh=>?_) (λh=>by simp[y]at h);refine BD O ?_;by_cases H:0<q;have J:Ca op q=true:=by{simp[Ca,y,H]};let⟨p,C,G⟩:=K o J;have e:AX (.mk op n x ks ps) q=AN p:=by{show(if Bv op q then[x]else if Ca op q then(match ps[(q-1).toNat]? with|some p=>AN p|none=>[])else[])=AN p;rw[o,J,C];rfl};rw[e];refine Aa O (λh=>?_) (λh=>by simp at h;omega);exact BD O<|o0 O (c:=As p) (λ_=>⟨by rw[Gi (by omega)<|by omega];omega,by rw[Gi (by omega)<|by omega];exact AS C,by simp⟩) (by simp)<|Cb O<|Ac O (KH p G)<|Cb O<|Ab O O O;have e:AX (.mk op n x ks ps) q=[]:=by{simp[AX,o,Ca,H]};rw[e];refine Aa O (λh=>by simp at h;omega) λh=>?_;exact BD O<|Ab O O O;have e:AX (.mk op n x ks ps) q=[]:=by{simp[AX,o,Ca,y]};rw[e];refine Aa O (λh=>by simp at h;exact absurd h y) λh=>?_;exact BD O<|Ab O O O
def OD:L1 Z->Z->L1 Z
 |[],s=>[s]
 |x::r,s=>if Op.bytesLess x s then x::OD r s else if x==s then x::r else s::x::r
def vO (s:Z):∀(l:E2) (i:Nat),i<=l.length->(∀x∈l.take i,Op.bytesLess x s=true)->(∀x,l[i]?=some x->Op.bytesLess x s=false)->OD l s=if l[i]?=some s then l else l.take i++[s]++l.drop i
 |[],i,h,_,_=>by have:i=0:=by{simpa using h};subst this;rfl
 |x::r,0,_,_,p=>by have:=p x O;simp only[OD,this];by_cases e:x=s;subst e;simp;simp[e]
 |x::r,i+1,h,u,p=>by have A:Op.bytesLess x s=true:=u x (by simp);have:=vO s r i (by simpa using h) (λy q=>u y<|by simp[q]) λy q=>p y (by simpa using q);simp only[OD,A,aw,this,Nm];by_cases e:r[i]?=some s;rw[ae e,ae e];rw[ac e,ac e];simp
def pJ (l:E2) (s:Z) (J:l.length<=1000000):ca 104 [.sl<|BP l,.str s]<|.sl<|BP<|OD l s:=by refine Ae BC func104 O [1,2,3,4]<|Cb O<|Ak (λi:Nat=>[(5,i7 i),(0,.Kp<|.sl<|BP l),(1,.Kp<|.str s)]) (λ_=>[]) [1,2,3,4] (λi=>l.length-i) (λi=>i<=l.length/\∀x∈l.take i,Op.bytesLess x s=true) 0 ⟨AK _,λx u=>by simp at u⟩ AB ab O λi K L=>?_;obtain⟨G,B⟩:=K;have C:(∀x,l[i]?=some x->Op.bytesLess x s=false)->ia Tryz.f104.ntmps (CB []) (IZ nW Tryz.f104.results.toList<|.ret (.Kp<|.sl<|BP<|OD l s) []) [.code<|Ek Tryz.f104 3] [(5,i7 i),(0,.Kp<|.sl<|BP l),(1,.Kp<|.str s)] [] [1,2,3,4]:=λM=>by{rw[vO s l i G B M];have one:∀c∈BP l,c.length=1:=Rp l;refine BD O ?_;have D:¬l[i]?=some s->ia Tryz.f104.ntmps (CB []) (IZ nW Tryz.f104.results.toList<|.ret (.Kp<|.sl<|BP<|l.take i++[s]++l.drop i) []) [.code<|Ek Tryz.f104 4] [(5,i7 i),(0,.Kp<|.sl<|BP l),(1,.Kp<|.str s)] [] [1,2,3,4]:=λq=>by{refine fd_ [] O ⟨λ_=>⟨by omega,by simp;omega⟩,one,ab⟩<|B1 BC O ⟨λc H=>one c<|OV H,by simp[maxLen];omega,by simp;omega,ab⟩ ?_;have N:(BP l).take ((i:Int)).toNat=BP (l.take i):=by{rw[aN];rfl};have R:(BP l).drop ((i:Int)).toNat=BP (l.drop i):=by{simp[BP,List.map_drop]};refine Cb O<|B1 BC O ⟨by simp,by simp[maxLen];omega,by simp;omega,ab⟩<|pk [] O ⟨λ_=>⟨by omega,by simp;omega⟩,one,ab⟩<|B1 BC O ⟨λc H=>one c<|TK H,by simp[maxLen];omega,by simp;omega,ab⟩<|pk [] O AD<|BR 3 O<|Ab O O (af _ ?_);rw[Hp,Hp,<- N,<- R];rfl};by_cases p:i<l.length;let⟨x,u⟩:=Aq p;refine o0 O (c:=[.str x]) (λ_=>⟨by simp,by simpa using Gf u,rfl⟩) (by simp[A1])<|lO O<|Aa O (λh=>?_) λh=>?_;have A:x=s:=by{simpa[p]using h};subst A;rw[ae u];exact BD O<|Ab O O O;have A:¬x=s:=by{simpa[p]using h};have q:¬l[i]?=some s:=λe=>by{rw[u]at e;cases e;exact A O};rw[ac q];exact Fe<|Ad (D q) AB ab O;have q:¬l[i]?=some s:=λe=>by{rw[M4<|by omega]at e;cases e};rw[ac q];refine o0 O (c:=[.str []]) (λh=>by simp[A1]at h;omega) (by simp[A1])<|lO O<|Aa O (λh=>by simp[p]at h) λh=>?_;exact Fe<|Ad (D q) AB ab O};refine BD O ?_;by_cases p:i<l.length;let⟨x,u⟩:=Aq p;refine o0 O (c:=[.str x]) (λ_=>⟨by simp,by simpa using Gf u,rfl⟩) (by simp[A1])<|lO O<|Aa O (λh=>?_) λh=>?_;have A:Op.bytesLess x s=true:=by{simpa[p]using h};refine BD O<|Ad (L (i+1) (by omega) ⟨by omega,λy hy=>?_⟩) ⟨Bc,AL⟩ ab O;rw[Bm u]at hy;rcases AT.1 hy with hy|hy;exact B y hy;simp at hy;subst hy;exact A;have A:Op.bytesLess x s=false:=by{simpa[p]using h};exact Aw O<|Ad (C λy hy=>by rw[u]at hy;cases hy;exact A) AB ab O;refine o0 O (c:=[.str []]) (λh=>by simp[A1]at h;omega) (by simp[A1])<|lO O<|Aa O (λh=>by simp[p]at h) λh=>?_;exact Aw O<|Ad (C λy hy=>by rw[M4<|by omega]at hy;cases hy) AB ab rfl
def It (b:L1 Z):L1 Z->L1 Z->L1 Z
 |[],h=>h
 |x::r,h=>It b r (if AR b x then h else OD h x)
mutual
def FX:Tm->L1 Z
 |.mk h n x p q=>if h=4 then[x]else GM (.mk h n x p q) 0 p []
def GM (t:Tm):Nat->L1 Tm->L1 Z->L1 Z
 |_,[],h=>h
 |i,k::r,h=>GM t (i+1) r<|It (AX t i) (FX k) h
end
mutual
def DK:Tm->Nat
 |.mk _ _ _ h _=>1+Ff h
def Ff:L1 Tm->Nat
 |[]=>0
 |k::r=>DK k+Ff r
end
mutual
def Qy:Tm->Prop
 |.mk q _ _ h u=>h.length<=1000000/\(∀i:Nat,i<h.length->Bv q i=false->Ca q i=true->∃p,u[((i:Int)-1).toNat]?=some p/\Bn p<=1000000)/\Qx h
def Qx:L1 Tm->Prop
 |[]=>True
 |k::r=>Qy k/\Qx r
end
def Qw:∀{l:G1} {t:Tm},Qx l->t∈l->Qy t
 |[],_,_,h=>by simp at h
 |k::r,t,h,hm=>by rcases Cu.1 hm with rfl|hm;exact h.1;exact Qw h.2 hm
def VO:∀(l:E2) (s:Z),(OD l s).length<=l.length+1
 |[],s=>by simp[OD]
 |x::r,s=>by have:=VO r s;simp only[OD];split;simp only[C1];omega;split<;>simp
def XH (b:E2):∀(l h:E2),(It b l h).length<=h.length+l.length
 |[],h=>by simp[It]
 |x::r,h=>by simp only[It];have p:=XH b r (if AR b x then h else OD h x);have q:=VO h x;have u:(if AR b x then h else OD h x).length<=h.length+1:=by{split<;>omega};simp only[C1];omega
mutual
def Zf:∀t:Tm,(FX t).length<=DK t
 |.mk p n x h q=>by simp only[FX,DK];split;simp;have:=Tv (.mk p n x h q) 0 h [];simp at this;omega
def Tv (t:Tm):∀(i:Nat) (ks:G1) (h:E2),(GM t i ks h).length<=h.length+Ff ks
 |_,[],h=>by simp[GM,Ff]
 |i,k::r,h=>by simp only[GM,Ff];have p:=Tv t (i+1) r<|It (AX t i) (FX k) h;have q:=XH (AX t i) (FX k) h;have u:=Zf k;omega
end
def iE:∀(t:Tm),Qy t->DK t<=1000000->ca 39 [.agg<|dTmc t] (.sl<|BP<|FX t)
 |.mk u n x q A,K,c=>by obtain⟨d,L,M⟩:=K;refine Ae BC func39 O [1,2,3]<|Cb O<|Aa O (λh=>?_) λh=>?_;have e:u=4:=by{simpa using h};have N:FX (.mk u n x q A)=[x]:=by{simp[FX,e]};rw[N];exact BD O<|Ab O O O;have e:¬u=4:=by{simpa using h};have N:FX (.mk u n x q A)=GM (.mk u n x q A) 0 q []:=by{simp[FX,e]};rw[N];refine BD O<|Ak (λy:Nat×E2=>[(4,i7 y.1),(3,.Kp<|.sl<|BP y.2),(1,.ref 1 0)]) (λ_=>[(1,some<|.NA 49 5<|dTmc<|.mk u n x q A)]) [2,3] (λy=>q.length-y.1) (λy=>y.1<=q.length/\GM (.mk u n x q A) 0 q []=GM (.mk u n x q A) y.1 (q.drop y.1) y.2/\y.2.length+Ff (q.drop y.1)<=1000000) (0,[]) ⟨AK _,rfl,by simp only[DK]at c;simp;omega⟩ AB AD O λy f g=>?_;obtain⟨i,B⟩:=y;obtain⟨R,C,D⟩:=f;simp only at R C D;refine BD O<|Aa O (λh=>?_) λh=>?_;simp at h;let⟨k,H⟩:=Aq h;rw[Av H]at C D;simp only[Ff]at D;have l:=Zf k;refine BD O<|zqk O (Ec H)<|Cb O<|CL O (λ_=>iE k (Qw M<|AE H)<|by omega) (by simp)<|Cb O<|Ac O (zjf u n x q A i (by omega)<|L i h)<|pk [] O (by simp;rfl) ?_;have b:B.length+(FX k).length<=1000000:=by{omega};refine Ak (λz:Nat×E2=>[(7,i7 z.1),(6,.Kp<|.sl<|BP<|AX (.mk u n x q A) i),(5,.Kp<|.sl<|BP<|FX k),(3,.Kp<|.sl<|BP z.2),(4,i7 i),(1,.ref 1 0)]) (λ_=>[(1,some<|.NA 49 5<|dTmc<|.mk u n x q A)]) [2,3] (λz=>(FX k).length-z.1) (λz=>z.1<=(FX k).length/\It (AX (.mk u n x q A) i) (FX k) B=It (AX (.mk u n x q A) i) ((FX k).drop z.1) z.2/\z.2.length<=B.length+z.1) (0,B) ⟨AK _,rfl,by simp⟩ GW AD O λz m G=>?_;obtain⟨j,o⟩:=z;obtain⟨T,p,U⟩:=m;simp only at T p U;refine BD O<|Aa O (λJ=>?_) λJ=>?_;simp at J;let⟨s,V⟩:=Aq J;rw[Av V]at p;simp only[It]at p;refine BD O<|o0 O (c:=[.str s]) (λ_=>⟨by simp,by simpa using Gf V,rfl⟩) (by simp)<|Cb O<|Ac O (fA (AX (.mk u n x q A) i) s)<|Cb O<|Aa O (λW=>?_) λW=>?_;have a:AR (AX (.mk u n x q A) i) s=false:=by{simpa using W};rw[a]at p;refine BD O<|o0 O (c:=[.str s]) (λ_=>⟨by simp,by simpa using Gf V,rfl⟩) (by simp)<|Cb O<|Ac O (pJ o s<|by omega)<|Cb O ?_;have:=VO o s;exact Ad (G (j+1,OD o s) (by simp only;omega) ⟨by simp only;omega,p,by simp only;omega⟩) ⟨B2<|Gi (by simp only;omega) (by simp only;omega),BA⟩ AD O;have a:AR (AX (.mk u n x q A) i) s=true:=by{simpa using W};rw[a]at p;exact BD O<|Ad (G (j+1,o) (by simp only;omega) ⟨by simp only;omega,p,by simp only;omega⟩) ⟨B2<|Gi (by simp only;omega) (by simp only;omega),BA⟩ AD O;simp at J;rw[Bt<|by omega]at p;have p:It (AX (.mk u n x q A) i) (FX k) B=o:=p;exact Aw O<|BD O<|Ad (g (i+1,o) (by simp only;omega) ⟨by simp only;omega,by simp only;rw[C];simp only[GM];rw[p],by simp only;omega⟩) ⟨Bc,AL⟩ AD O;simp at h;rw[Bt<|by omega]at C;refine Aw O<|BD O<|Ab O O ?_;rw[C];rfl
termination_by t=>SizeOf.sizeOf t
decreasing_by all_goals(have:=C8<|AE H;simp_wf;omega)
end Go.Hk
