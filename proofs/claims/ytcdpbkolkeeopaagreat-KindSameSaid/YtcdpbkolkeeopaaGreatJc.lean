/- Free names, plainly. -/
import Derived.Test.YtcdpbkolkeeopaaGreatJb
import Derived.WalkKit
set_option linter.all false
set_option maxRecDepth 100000
set_option maxHeartbeats 4000000
namespace Go.Hk
open Go.Proofs.Tryz
open Go.Proofs
open Go.MapKept
variable {ob:L1 Prop} {st au bl a8:St} {aa F ids':L1 Nat} {q todo k:L1 DI} {n t sz i B b j A j2 off:Nat} {Q:DQ} {env u E:Env} {g:Option (Bool×Bool)} {es:G1} {e:TypeId} {c xs:L1 V} {P:Program} {I:U} {μ:Mu} {d:D} {w w':World} {L:TT} {v z:Value} {Pn:V->Prop} {S S' S2:Bun} {f:FuncId} {m:Int} {a:Act} {W:Prop} {d0:Option Nat} {α β:Type} {o:Oper} {x:V} {t1 t2: TypeId} {C J: Nat} {K R x2: L1 V} {das l:L1 D} {r:Bool} {y:L1 UInt8} {s:Z}
def G3 {f:α->β} {l:L1 α} {t:α} (h:l[i]?=some t):(l.map f)[i]?=some (f t):=by simp[h]
@[simp] theorem dCdc_length (c:Cd):(FW c).length=2:=rfl
@[simp] theorem dDtc_length (c:Dt):(D2 c).length=2:=rfl
@[simp] theorem dMdc_length (m:Md):(dMdc m).length=3:=rfl
@[simp] theorem dFdc_length (c:Fd):(DJ c).length=15:=by simp[DJ]
def Pc (c:Cd):Bool:=CW c.name&&decide ((c.args.length:Int)<=3)&&c.args.all G6
def Jt (d:Dt):Bool:=CW d.name&&DP d.cons.length 1 5&&d.cons.all Pc
def FO (c:Cd):Bool:=decide ((c.name.length:Int)<=30)&&decide ((c.args.length:Int)<=6)&&c.args.all BW
def Fb (d:Dt):Bool:=decide ((d.name.length:Int)<=30)&&decide ((d.cons.length:Int)<=8)&&d.cons.all FO
def Qm (f:Fd):Bool:=BV f.name&&BV f.param&&G6 f.from_&&G6 f.to_&&Cs f.body
def DA (m:Md):Bool:=BV m.name&&decide ((m.datas.length:Int)<=4)&&DP m.funs.length 1 5&&m.datas.all Jt&&m.funs.all Qm
def FN (f:Fd):Bool:=decide ((f.name.length:Int)<=30)&&decide ((f.param.length:Int)<=30)&&BW f.from_&&BW f.to_&&DU f.body
def DL (m:Md):Bool:=decide ((m.name.length:Int)<=30)&&decide ((m.datas.length:Int)<=6)&&decide ((m.funs.length:Int)<=8)&&m.datas.all Fb&&m.funs.all FN
def zkx (d:Dt):Tq3 84 [.agg (D2 d)] (.bool (Jt d)):=by obtain⟨u,p⟩:=d;refine BH λJ=>?_;simp[D8,Gy,D2,maxLen]at J;refine Ac Bp func84 O [1,2,3]<|AU O<|Ah O (Nb u)<|AU O<|Ai O (v:=.bool (DP p.length 1 5)) (λ_=>by have:=Qi p.length 1 5;simpa using this) (by simp[Ap])<|AU O<|Aa O (λh=>?_) (λh=>?_);{refine Bj O<|Ab O O (af _ ?_);simp at h;simp[Jt];grind};have K:(CW u&&DP p.length 1 5)=true:=by{simp at h ⊢;grind};clear h;refine Bj O<|Al (λi:Nat=>[(3,i7 i),(1,.ref 1 0)]) (λ_=>[(1,some (.immb 113 2 (D2 ⟨u,p⟩)))]) [2,3] (λi=>p.length-i) (λi=>i<=p.length/\p.all Pc=(p.drop i).all Pc) 0 ⟨AK _,rfl⟩ AP AG O λi B L=>?_;refine Bj O<|Aa O (λh=>?_) (λh=>?_);{simp at h;let⟨c,C⟩:=At h;have e:=B.2;rw[Au C]at e;refine Bj O<|WX O (G3 C) ?_;obtain⟨q,ag⟩:=c;refine AU O<|Ah O (Nb q)<|AU O<|Aa O (λh=>?_) (λh=>?_);{refine Bj O<|Ab O O (af _ ?_);simp at h;have:Pc ⟨q,ag⟩=false:=by{simp[Pc];grind};simp[Jt,e,this]};have D:(CW q&&decide ((ag.length:Int)<=3))=true:=by{simp at h ⊢;grind};have N:ag.length<=6:=by{simp at D;omega};clear h;refine Bj O<|Al (λj:Nat=>[(5,i7 j),(4,.ref 2 0),(3,i7 i),(1,.ref 1 0)]) (λ_=>[(2,some (.immb 178 2 (FW ⟨q,ag⟩))),(1,some (.immb 113 2 (D2 ⟨u,p⟩)))]) [3] (λj=>ag.length-j) (λj=>j<=ag.length/\ag.all G6=(ag.drop j).all G6) 0 ⟨AK _,rfl⟩ B0 AP O λj G y=>?_;refine Bj O<|Aa O (λh=>?_) (λh=>?_);simp at h;let⟨t,H⟩:=At h;have A:=G.2;rw[Au H]at A;refine Bj O<|WX O (AQ H)<|AU O<|Ah O (W6 t)<|AU O<|Aa O (λh=>?_) (λh=>?_);refine Bj O<|Ab O O (af _ ?_);simp at h;have:Pc ⟨q,ag⟩=false:=by{simp only[Pc];rw[A];simp[h]};simp[Jt,e,this];refine Bj O ?_;simp at h;exact Ad (y (j+1) (by omega) ⟨by omega,by rw[A];simp[h]⟩) ⟨Bf,AC⟩ AP O;simp at h;refine Bj O ?_;have:Pc ⟨q,ag⟩=true:=by{simp only[Pc];rw[G.2,Bu (by omega)];simpa using D};exact Ad (L (i+1) (by omega) ⟨by omega,by rw[e];simp[this]⟩) ⟨Bf,AG⟩ AG O};refine Bj O<|Ab O O (af _ ?_);simp at h;simp only[Jt];rw[B.2,Bu (by omega)];simpa using K.symm
def Zt (d:Dt):Tq3 67 [.agg (D2 d)] (.bool (Fb d)):=by obtain⟨u,p⟩:=d;refine BH λJ=>?_;simp[D8,Gy,D2,maxLen]at J;refine Ac Bp func67 O [1,2,3]<|AU O<|Aa O (λh=>?_) (λh=>?_);{refine Bj O<|Ab O O (af _ ?_);simp at h;simp[Fb];grind};have K:(decide ((u.length:Int)<=30)&&decide ((p.length:Int)<=8))=true:=by{simp at h ⊢;grind};clear h;refine Bj O<|Al (λi:Nat=>[(3,i7 i),(1,.ref 1 0)]) (λ_=>[(1,some (.immb 113 2 (D2 ⟨u,p⟩)))]) [2,3] (λi=>p.length-i) (λi=>i<=p.length/\p.all FO=(p.drop i).all FO) 0 ⟨AK _,rfl⟩ AP AG O λi B L=>?_;refine Bj O<|Aa O (λh=>?_) (λh=>?_);{simp at h;let⟨c,C⟩:=At h;have e:=B.2;rw[Au C]at e;refine Bj O<|WX O (G3 C) ?_;obtain⟨q,ag⟩:=c;refine AU O<|Aa O (λh=>?_) (λh=>?_);{refine Bj O<|Ab O O (af _ ?_);simp at h;have:FO ⟨q,ag⟩=false:=by{simp[FO];grind};simp[Fb,e,this]};have D:(decide ((q.length:Int)<=30)&&decide ((ag.length:Int)<=6))=true:=by{simp at h ⊢;grind};have N:ag.length<=6:=by{simp at D;omega};clear h;refine Bj O<|Al (λj:Nat=>[(5,i7 j),(4,.ref 2 0),(3,i7 i),(1,.ref 1 0)]) (λ_=>[(2,some (.immb 178 2 (FW ⟨q,ag⟩))),(1,some (.immb 113 2 (D2 ⟨u,p⟩)))]) [3] (λj=>ag.length-j) (λj=>j<=ag.length/\ag.all BW=(ag.drop j).all BW) 0 ⟨AK _,rfl⟩ B0 AP O λj G y=>?_;refine Bj O<|Aa O (λh=>?_) (λh=>?_);simp at h;let⟨t,H⟩:=At h;have A:=G.2;rw[Au H]at A;refine Bj O<|WX O (AQ H)<|AU O<|Ah O (IF t)<|AU O<|Aa O (λh=>?_) (λh=>?_);refine Bj O<|Ab O O (af _ ?_);simp at h;have:FO ⟨q,ag⟩=false:=by{simp only[FO];rw[A];simp[h]};simp[Fb,e,this];refine Bj O ?_;simp at h;exact Ad (y (j+1) (by omega) ⟨by omega,by rw[A];simp[h]⟩) ⟨Bf,AC⟩ AP O;simp at h;refine Bj O ?_;have:FO ⟨q,ag⟩=true:=by{simp only[FO];rw[G.2,Bu (by omega)];simpa using D};exact Ad (L (i+1) (by omega) ⟨by omega,by rw[e];simp[this]⟩) ⟨Bf,AG⟩ AG O};refine Bj O<|Ab O O (af _ ?_);simp at h;simp only[Fb];rw[B.2,Bu (by omega)];simpa using K.symm
def Za (m:Md):Tq3 27 [.agg (dMdc m)] (.bool (DA m)):=by obtain⟨D,q,p⟩:=m;refine BH λf=>?_;simp[D8,Gy,dMdc,maxLen]at f;refine Ac Bp func27 O [1,2,3]<|AU O<|Ah O (II D)<|AU O<|Ai O (v:=.bool (DP p.length 1 5)) (λ_=>by have:=Qi p.length 1 5;simpa using this) (by simp[Ap])<|AU O<|Aa O (λh=>?_) (λh=>?_);{refine Bj O<|Ab O O (af _ ?_);simp at h;simp[DA];grind};have g:(BV D&&decide ((q.length:Int)<=4)&&DP p.length 1 5)=true:=by{simp at h ⊢;grind};clear h;refine Bj O<|Al (λi:Nat=>[(3,i7 i),(1,.ref 1 0)]) (λ_=>[(1,some (.immb 43 3 (dMdc ⟨D,q,p⟩)))]) [2,3] (λi=>q.length-i) (λi=>i<=q.length/\q.all Jt=(q.drop i).all Jt) 0 ⟨AK _,rfl⟩ AP AG O λi A G=>?_;refine Bj O<|Aa O (λh=>?_) (λh=>?_);simp at h;let⟨c,B⟩:=At h;have e:=A.2;rw[Au B]at e;refine Bj O<|WX O (G3 B)<|AU O<|Ah O (zkx c)<|AU O<|Aa O (λh=>?_) (λh=>?_);refine Bj O<|Ab O O (af _ ?_);simp at h;simp[DA,e,h];refine Bj O ?_;simp at h;exact Ad (G (i+1) (by omega) ⟨by omega,by rw[e];simp[h]⟩) ⟨Bf,AG⟩ AG O;simp at h;have H:q.all Jt=true:=by{rw[A.2,Bu (by omega)];rfl};clear G A h;refine Bj O<|Al (λi:Nat=>[(4,i7 i),(1,.ref 1 0)]) (λ_=>[(1,some (.immb 43 3 (dMdc ⟨D,q,p⟩)))]) [2,3] (λi=>p.length-i) (λi=>i<=p.length/\p.all Qm=(p.drop i).all Qm) 0 ⟨AK _,rfl⟩ AP AG O λi A G=>?_;refine Bj O<|Aa O (λh=>?_) (λh=>?_);{simp at h;let⟨c,B⟩:=At h;have e:=A.2;rw[Au B]at e;refine Bj O<|WX O (G3 B) ?_;obtain⟨u,y,⟨C,L,K,N⟩,⟨J,R,x2,T⟩,⟨V,W,a,b,d⟩⟩:=c;refine AU O<|Bt O (II u)<|AU O<|Bt O (II y)<|AU O<|Bt O (W6 (.mk C L K N))<|AU O<|Bt O (W6 (.mk J R x2 T))<|AU O<|Bt O (Ub (.mk V W a b d))<|AU O<|Aa O (λh=>?_) (λh=>?_);{refine Bj O<|Ab O O (af _ ?_);simp at h;have:Qm ⟨u,y,.mk C L K N,.mk J R x2 T,.mk V W a b d⟩=false:=by{simp[Qm];grind};simp[DA,e,this]};{refine Bj O ?_;simp at h;have:Qm ⟨u,y,.mk C L K N,.mk J R x2 T,.mk V W a b d⟩=true:=by{simp[Qm];grind};exact Ad (G (i+1) (by omega) ⟨by omega,by rw[e];simp[this]⟩) ⟨Bf,AG⟩ AG O}};refine Bj O<|Ab O O (af _ ?_);simp at h;simp only[DA];rw[H,A.2,Bu (by omega)];simpa using g.symm
def W8 (m:Md):Tq3 23 [.agg (dMdc m)] (.bool (DL m)):=by obtain⟨G,p,q⟩:=m;refine BH λf=>?_;simp[D8,Gy,dMdc,maxLen]at f;refine Ac Bp func23 O [1,2,3]<|AU O<|Aa O (λh=>?_) (λh=>?_);{refine Bj O<|Ab O O (af _ ?_);simp at h;simp[DL];grind};have g:(decide ((G.length:Int)<=30)&&decide ((p.length:Int)<=6)&&decide ((q.length:Int)<=8))=true:=by{simp at h ⊢;grind};clear h;refine Bj O<|Al (λi:Nat=>[(3,i7 i),(1,.ref 1 0)]) (λ_=>[(1,some (.immb 43 3 (dMdc ⟨G,p,q⟩)))]) [2,3] (λi=>p.length-i) (λi=>i<=p.length/\p.all Fb=(p.drop i).all Fb) 0 ⟨AK _,rfl⟩ AP AG O λi u D=>?_;refine Bj O<|Aa O (λh=>?_) (λh=>?_);simp at h;let⟨c,y⟩:=At h;have e:=u.2;rw[Au y]at e;refine Bj O<|WX O (G3 y)<|AU O<|Ah O (Zt c)<|AU O<|Aa O (λh=>?_) (λh=>?_);refine Bj O<|Ab O O (af _ ?_);simp at h;simp[DL,e,h];refine Bj O ?_;simp at h;exact Ad (D (i+1) (by omega) ⟨by omega,by rw[e];simp[h]⟩) ⟨Bf,AG⟩ AG O;simp at h;have H:p.all Fb=true:=by{rw[u.2,Bu (by omega)];rfl};clear D u h;refine Bj O<|Al (λi:Nat=>[(4,i7 i),(1,.ref 1 0)]) (λ_=>[(1,some (.immb 43 3 (dMdc ⟨G,p,q⟩)))]) [2,3] (λi=>q.length-i) (λi=>i<=q.length/\q.all FN=(q.drop i).all FN) 0 ⟨AK _,rfl⟩ AP AG O λi u D=>?_;refine Bj O<|Aa O (λh=>?_) (λh=>?_);{simp at h;let⟨c,y⟩:=At h;have e:=u.2;rw[Au y]at e;refine Bj O<|WX O (G3 y) ?_;obtain⟨A,B,⟨C,L,K,N⟩,⟨J,R,x2,T⟩,⟨V,W,a,b,d⟩⟩:=c;refine AU O<|Bt O (IF (.mk C L K N))<|AU O<|Bt O (IF (.mk J R x2 T))<|AU O<|Bt O (IG (.mk V W a b d))<|AU O<|Aa O (λh=>?_) (λh=>?_);{refine Bj O<|Ab O O (af _ ?_);simp at h;have:FN ⟨A,B,.mk C L K N,.mk J R x2 T,.mk V W a b d⟩=false:=by{simp[FN];grind};simp[DL,e,this]};{refine Bj O ?_;simp at h;have:FN ⟨A,B,.mk C L K N,.mk J R x2 T,.mk V W a b d⟩=true:=by{simp[FN];grind};exact Ad (D (i+1) (by omega) ⟨by omega,by rw[e];simp[this]⟩) ⟨Bf,AG⟩ AG O}};refine Bj O<|Ab O O (af _ ?_);simp at h;simp only[DL];rw[H,u.2,Bu (by omega)];simpa using g.symm
def NN (P:Program) (f:FuncId) (t p:TypeId):Prop:=∀(g:FuncId) (u y:Array Value) (w:World) (K A:World->Prop),
 (callFunc g (u++y)).run P (w.alloc (.cells #[.bool false] p))=.ok (.enter g (u++y)) (w.alloc (.cells #[.bool false] p)) ->
 Calls P g (u++y) (w.alloc (.cells #[.bool false] p)) (λe w'=>match e with
  |.returned _=>K w'
  |.panicked h=>h=[{ v:=.iface t (.agg #[]),recovered:=false }]/\A w'
  |.outgrown=>False) ->
 (∀w',K w'->w'.heap[w.heap.size]?=some (.cells #[.bool false] p (0,0)))->(∀w',A w'->w'.heap[w.heap.size]?=some (.cells #[.bool false] p (0,0))) ->
 Calls P f #[.func (.func g) u y] w λe w'=>(e=.returned (.bool true)/\∃q,K q/\w'=q.setCell ⟨w.heap.size,0,none⟩ (.bool true)) \/
  (e=.returned (.bool false)/\∃q,A q/\w'=(q.setCell ⟨w.heap.size,0,none⟩ (.bool false)).alloc (.cells #[] t))
def Fx {x:Value} {t:TypeId} (h:w.heap[b]?=some (.cells #[x] t (0,0))):w.setCell ⟨b,0,none⟩ v={ w with heap:=w.heap.setIfInBounds b (.cells #[v] t (0,0)) }:=by have:∀(A:Array Obj) (f:Obj->Obj),A[b]?=some (.cells #[x] t (0,0))->A.modify b f=A.setIfInBounds b (f (.cells #[x] t (0,0))):=by{intro A f q;apply nS;intro i;rw[ZY,Array.getElem?_setIfInBounds];by_cases p:b=i;subst p;rw[ae O,ae O,q];simp[(GS.1 q).1];rw[ac p,ac p]};unfold World.setCell;rw[this _ _ h];rfl
def Fo (p:StRep I μ st aa w) (h:AX μ st b):b<w.heap.size:=by obtain⟨id,q,g,u,y,A⟩:=h;exact(p.apart id q g b u y A).2
def StRep.other (p:StRep I μ st aa w) (B:w.heap.size<=w'.heap.size) (C:∀b o,I b=some o->w'.heap[b]?=w.heap[b]?) (D:∀b,AX μ st b->w'.heap[b]?=w.heap[b]?):StRep I μ st aa w':={imm:=λb o h=>(C b o h).trans (p.imm b o h),blk:=λid blk y=>let⟨g,q,u⟩:=p.blk id blk y;⟨g,q,u.world λb G=>D b ⟨id,blk,g,y,q,G⟩⟩,apart:=λid blk g b q u A=>⟨(p.apart id blk g b q u A).1,ZM (p.apart id blk g b q u A).2 B⟩,inj:=p.inj,nodup:=p.nodup,idsFree:=p.idsFree }
def X.fnD {f:Fn} {df dc:L1 D} (h:X I μ v (.fn f df dc)):∃first cap:Array Value,v=.func f first cap/\RepL I μ (first++cap).toList (df++dc):=by cases h with|fn _ first cap _ _ y A B C=>{refine⟨first,cap,rfl,?_⟩;rw[M1];refine⟨by simp[y,A],λi v d p q=>?_⟩;rw[OV]at p q;have G:first.toList.length=df.length:=by{simpa using y};rw[G]at p;split at p;rename_i u;rw[ae u]at q;exact B i v d (by simpa using p) q;rename_i u;rw[ac u]at q;exact C _ v d (by simpa using p) q}
section
variable {g:FuncId} {t p:TypeId} {fn H:Func} {T N:Code} {df dc:L1 D}
def VK {xs:Array Value} (p:RepL I μ xs.toList [.fn (.func g) df dc]):∃first cap:Array Value,xs = #[.func (.func g) first cap]/\RepL I μ (first++cap).toList (df++dc):=by obtain⟨l,rfl⟩:∃l:L1 Value,xs=l.toArray:=⟨xs.toList,by simp⟩;rw[Mt]at p;match l,p with|[v],p=>{obtain⟨first,cap,rfl,h⟩:=(p.2 0 v _ rfl rfl).fnD;exact⟨first,cap,rfl,h⟩}|[],p=>exact absurd p.1 (by simp)|_::_::_,p=>{exact absurd p.1 (by simp)}
def KO (hf:P.funcs[f]? = some fn) (hn:(fn.name=="runtime.NumGoroutine")=false) (V:fn.body=some T) (hs:NN P f t p)
  (hg:P.funcs[g]? = some H) (m:(H.name=="runtime.NumGoroutine")=false) (n:H.body=some N) (hE:Ht P g (df++dc) bl (.ret d a8)):Ht P f [.fn (.func g) df dc] bl (.ret (.imm (.bool true)) a8):=by
 intro I μ w xs J s;obtain⟨first,K,rfl,v⟩:=VK s;rw[run_callFunc_body hf hn V];have B:(w.alloc (.cells #[.bool false] p)).heap=w.heap.push (.cells #[.bool false] p (0,0)):=rfl;have C:∀r,r<w.heap.size->(w.alloc (.cells #[.bool false] p)).heap[r]?=w.heap[r]?:=λr hr=>by rw[B];simp[Vq,Nat.ne_of_lt hr]
 have W:(w.alloc (.cells #[.bool false] p)).heap[w.heap.size]?=some (.cells #[.bool false] p (0,0)):=by rw[B];simp
 have x:(w.alloc (.cells #[.bool false] p)).heap.size=w.heap.size+1:=by rw[B];simp
 have i:∀b o,I b=some o->b<w.heap.size:=λb o h=>(GS.1 (J.imm b o h)).1;have j:StRep I μ bl [] (w.alloc (.cells #[.bool false] p)):=J.other (by omega) (λb o h=>C b (i b o h)) (λb h=>C b (Fo J h));have a:¬AX μ bl w.heap.size:=λh=>absurd (Fo J h) (ZX _);have z:I w.heap.size=none:=by
  cases h:I w.heap.size with
  |none=>rfl
  |some o=>exact absurd (i _ o h) (ZX _)
 have y:=hE I μ _ (first++K) j v;have L:=run_callFunc_body (w:=w.alloc (.cells #[.bool false] p)) hg m n (first++K);rw[L]at y;have y:Calls P g (first++K) (w.alloc (.cells #[.bool false] p)) (λe w'=>match e with
  |.returned u=>∃A q,X A q u d/\StRep A q a8 [] w'/\Pin (CT bl) μ q/\Ext I μ bl (w.alloc (.cells #[.bool false] p)) A q a8 w'
  |.panicked _=>False
  |.outgrown=>False):=y
 have R:∀w' A q,Ext I μ bl (w.alloc (.cells #[.bool false] p)) A q a8 w'->w'.heap[w.heap.size]?=some (.cells #[.bool false] p (0,0)):=λw' A q c=>(c.block _ (by omega) a).trans W;show Calls P f _ w _;refine bc (hs g first K w (λw'=>∃A q,StRep A q a8 [] w'/\Pin (CT bl) μ q/\Ext I μ bl (w.alloc (.cells #[.bool false] p)) A q a8 w') (λ_=>False) L (bc y ?_) (λw' ⟨A,q,_,_,c⟩=>R w' A q c) (λ_ h=>h.elim)) ?_
 ·intro e w' c;cases e with
  |returned u=>obtain⟨A,q,_,E,F,G⟩:=c;exact⟨A,q,E,F,G⟩
  |panicked=>exact c.elim
  |outgrown=>exact c.elim
 ·rintro e w2 (⟨rfl,Q,⟨A,q,E,F,G⟩,rfl⟩|⟨_,_,v,_⟩)
  ·have hc:=R Q A q G;rw[Fx hc];have S:A w.heap.size=none:=(G.old _ (by omega) a).trans z;have k:¬AX q a8 w.heap.size:=λh=>a (G.fresh _ (by omega) h);have D:∀b,b≠w.heap.size->(Q.heap.setIfInBounds w.heap.size (.cells #[.bool true] p (0,0)))[b]?=Q.heap[b]?:=λb V=>Hd (b7 V);refine⟨A,q,.imm _ _ (.bool true),?_,F,?_⟩
   ·exact E.other (by simp) (λb o h=>D b λe=>by rw[e,S]at h;cases h) (λb h=>D b λe=>k (e▸h))
   ·have hsz:=G.size
    exact { imm:=G.imm,os:=G.os,tape:=G.tape,output:=G.output,size:=by simp;omega,
            block:=λb V l=>(D b (by omega)).trans ((G.block b (by omega) l).trans (C b V)),fresh:=λb V l=>G.fresh b (by omega) l,old:=λb V l=>G.old b (by omega) l }
  ·exact v.elim
def MF (hf:P.funcs[f]? = some fn) (hn:(fn.name=="runtime.NumGoroutine")=false) (V:fn.body=some T) (hs:NN P f t p)
  (hg:P.funcs[g]? = some H) (z:(H.name=="runtime.NumGoroutine")=false) (E:H.body=some N) (hE:Ht P g (df++dc) bl (.pan (.iface t (.agg [])))):Ht P f [.fn (.func g) df dc] bl (.ret (.imm (.bool false)) []):=by
 intro I μ w xs J F;obtain⟨first,K,rfl,Q⟩:=VK F;rw[run_callFunc_body hf hn V];have y:(w.alloc (.cells #[.bool false] p)).heap=w.heap.push (.cells #[.bool false] p (0,0)):=rfl;have A:∀r,r<w.heap.size->(w.alloc (.cells #[.bool false] p)).heap[r]?=w.heap[r]?:=λr hr=>by rw[y];simp[Vq,Nat.ne_of_lt hr]
 have W:(w.alloc (.cells #[.bool false] p)).heap[w.heap.size]?=some (.cells #[.bool false] p (0,0)):=by rw[y];simp
 have S:(w.alloc (.cells #[.bool false] p)).heap.size=w.heap.size+1:=by rw[y];simp
 have a:∀b o,I b=some o->b<w.heap.size:=λb o h=>(GS.1 (J.imm b o h)).1;have l:StRep I μ bl [] (w.alloc (.cells #[.bool false] p)):=J.other (by omega) (λb o h=>A b (a b o h)) (λb h=>A b (Fo J h));have m:¬AX μ bl w.heap.size:=λh=>absurd (Fo J h) (ZX _);have hIn:I w.heap.size=none:=by
  cases h:I w.heap.size with
  |none=>rfl
  |some o=>exact absurd (a _ o h) (ZX _)
 have q:=hE I μ _ (first++K) l Q;have L:=run_callFunc_body (w:=w.alloc (.cells #[.bool false] p)) hg z E (first++K);rw[L]at q;have q:Calls P g (first++K) (w.alloc (.cells #[.bool false] p)) (λe w'=>match e with
  |.returned _=>False
  |.panicked D=>NS (· = .iface t (.agg [])) I μ bl (w.alloc (.cells #[.bool false] p)) D w'
  |.outgrown=>False):=q
 have R:∀w' B,Ext I μ bl (w.alloc (.cells #[.bool false] p)) B μ [] w'->w'.heap[w.heap.size]?=some (.cells #[.bool false] p (0,0)):=λw' B c=>(c.block _ (by omega) m).trans W;show Calls P f _ w _;refine bc (hs g first K w (λ_=>False) (λw'=>∃B,B.ok w'/\Ext I μ bl (w.alloc (.cells #[.bool false] p)) B μ [] w') L (bc q ?_) (λ_ h=>h.elim) (λw' ⟨B,_,c⟩=>R w' B c)) ?_
 ·intro e w' c;cases e with
  |returned u=>exact c.elim
  |panicked D=>
   obtain⟨v,x,B,h1,s,h3,C,h5⟩:=c;subst s;cases h3 with
   |iface _ v' _ hv=>
    cases hv with
    |agg cs _ d _ _=>
     have:cs = #[]:=nR (by simpa using d);subst this;exact⟨h1,B,C,h5⟩
  |outgrown=>exact c.elim
 ·rintro e w2 (⟨_,_,Q,_⟩|⟨rfl,k,⟨B,s,C⟩,rfl⟩)
  ·exact Q.elim
  ·have hc:=R k B C;rw[Fx hc];have hI':B w.heap.size=none:=(C.old _ (by omega) m).trans hIn;have hsz:=C.size;have G:∀b,b≠w.heap.size->b<k.heap.size->(({ k with heap:=k.heap.setIfInBounds w.heap.size (.cells #[.bool false] p (0,0)) }:World).alloc (.cells #[] t)).heap[b]?=k.heap[b]?:=λb V a=>by
    show((k.heap.setIfInBounds w.heap.size _).push _)[b]?=_;rw[Vq,ac (by simp;omega)];exact Hd (b7 V)
   refine⟨B,μ,.imm _ _ (.bool false),?_,Pin.refl _ _,?_⟩
   ·exact { imm:=λb o h=>(G b (λe=>by rw[e,hI']at h;cases h) (GS.1 (s b o h)).1).trans (s b o h),blk:=λid blk d=>(by cases d),apart:=λid blk g b d=>(by cases d),inj:=λi j bi bj gi gj b d=>(by cases d),nodup:=.nil,idsFree:=λid hi=>(by cases hi) }
   ·exact { imm:=C.imm,os:=C.os,tape:=C.tape,output:=C.output,size:=by show w.heap.size<=((k.heap.setIfInBounds w.heap.size _).push _).size;simp;omega,
            block:=λb V n=>(G b (by omega) (by omega)).trans ((C.block b (by omega) n).trans (A b V)),fresh:=λb V n=>C.fresh b (by omega) n,old:=λb V n=>C.old b (by omega) n }
end
def KR {all rest:L1 Oper} {x:Operand} {t:TypeId} {v:V} (K:o.guard=none) (C:o.op=.panic x) (L:EM env x=some (.imm (.iface t v))) (N:NR Q (.iface t v)):DGo P n F Q (.ops all (o::rest)::k) env st aa:=by intro b m I μ a w D R p;obtain⟨j,r,rfl,T,s⟩:=JX R;let⟨W,_⟩:=EW T;have q:(o::rest).length=rest.length+1:=rfl;rw[q,Ms];refine Gq W (AJ K) (λc p=>by rw[C]at p;cases p) ?_;have G:LR (o.looksAt all.toArray) I μ env a:=λt _ d e=>p.env t d e;have H:=Bx G x (by rw[C];simp[Op.operands]) _ L;obtain⟨u,f,J⟩:∃u,a.eval x=.iface t u/\M I (.iface t u) (.iface t v):=by{have:=H.immInv;generalize a.eval x=y at this;cases this with|iface _ u _ h=>{exact⟨u,rfl,.iface t u v h⟩}};have A:(execOp a.eval o).run P w=.halt (.panic (.iface t u)) w:=by{simp[execOp,C,f,Instr.panic,goPanic]};rw[A];have B:Ext I μ st w I μ [] w:={ imm:=U.le_refl I,os:=rfl,tape:=rfl,output:=rfl,size:=BO _,block:=λ_ _ _=>rfl,fresh:=λb z ⟨i,E,g,l,_⟩=>by simp[Aw,lk]at l,old:=λ_ _ _=>rfl };exact⟨.panic (.iface t v),[],[],[],I,μ,⟨_,rfl,J⟩,N,MS p.imm p.size (p.defers.ext B),.refl _ _,B,.refl _ _⟩
def FT {ds:L1 D} {p:Out} (j:Nat) (A:ds[j]?=some (.imm x)) (h:Gy x->Ht P f ds st p):Ht P f ds st p:=by intro I μ w xs q u;have y:j<xs.toList.length:=by{rw[u.1];exact(A9.1 A).1};exact h (u.2 j _ (.imm x) (Bq y) A).immInv.ok I μ w xs q u
def Hx:V:=.iface 293 (.agg [])
def wI:TT:=kQ++[
 (293,⟨.struct [],true,0,0,[]⟩),
 (195,⟨.struct [(0,3),(1,3)],true,2,16,[.imm (.int .i64 0),.imm (.int .i64 0)]⟩),
 (1,⟨.func,false,1,8,[.imm .nilfn]⟩)]
def Bv:TTok prog wI:=.of_eq (l:=[4,3,9,49,25,182,45,47,5,23,22,73,46,180,71,43,178,40,41,113,111,28,293,195,1]) (by kernel_rfl)
def td (p:L1 Pt) (h:run wI n 300 p todo env st aa []=.at k u au ids' ob) (q:A8 ob) (y:Tq1 n F Q k u au ids'):Tq2 n F Q todo env st aa:=JY Bv mixed 300 p h q y
def I3 (h:run wI n 300 [] todo env st aa []=.at k u au ids' ob) (q:Tq1 n F Q k u au ids') (p:A8 ob:=by simp):Tq2 n F Q todo env st aa:=td [] h p q
def tg (p:L1 Pt) (h:run wI n 300 p todo env st aa []=.at k u au ids' ob) (q:A8 ob) (y:Tq1 n F Q k u au ids'):Tq1 n F Q todo env st aa:=Iw Bv mixed 300 p h q y
def Mr (p:L1 Pt) (h:run wI n 300 p todo env st aa []=.at k u au ids' ob) (y:Tq1 n F Q k u au ids') (q:A8 ob:=by simp):Tq1 n F Q todo env st aa:=tg p h q y
def CZ (h:run wI n 300 [] todo env st aa []=.at k u au ids' ob) (q:Tq1 n F Q k u au ids') (p:A8 ob:=by simp):Tq1 n F Q todo env st aa:=tg [] h p q
def rN (p:L1 Pt) (h:run wI n 300 p todo env st aa []=.at k u au ids' ob) (y:Tq1 n F Q k u au ids') (q:A8 ob:=by simp[Ap]):Tq1 n F Q todo env st aa:=tg p h q y
def ti (h:Fm wI n env todo=some ⟨es,m,sz,e,g,ob,some t,q⟩) (u:Ap g->0<=m/\es[m.toNat]?=some c/\c.length=sz) (p:A8 ob) (y:Tq1 n F Q q ((t,gD g (.ip e c 0))::env) st aa):Tq1 n F Q todo env st aa:=G4 Bv h u p y
def tiz (h:Fm wI n env todo=some ⟨es,(i:Int),sz,e,g,ob,some t,q⟩) (u:es[i]?=some c) (y:Tq1 n F Q q ((t,gD g (.ip e c 0))::env) st aa) (A:c.length=sz:=by simp) (p:A8 ob:=by simp):Tq1 n F Q todo env st aa:=ti h (λ_=>⟨by omega,by simpa using u,A⟩) p y
def tizc (h:Fm wI n env todo=some ⟨es,(i:Int),sz,e,g,ob,some t,q⟩) (u:es[i]?=some c) (y:Tq1 n F Q q ((t,gD g (.ip e c 0))::env) st aa) (A:c.length=sz:=by simp) (p:A8 ob:=by simp[Ap]):Tq1 n F Q todo env st aa:=ti h (λ_=>⟨by omega,by simpa using u,A⟩) p y
def zbt:Tq3 254 [.bool true] (.tup []):=by exact Ac Bv func254 O [1,2]<|Mr [.a] O<|Bw ⟨_,AP⟩
abbrev Tq4:=Ht prog
def zif:Tq4 254 [.imm (.bool false)] [] (.pan Hx):=by exact Ac Bv func254 O [1,2]<|Mr [.a] O<|KR O O O O
def Cf (b:Bool) (h:b=true):Tq3 254 [.bool b] (.tup []):=by subst h;exact zbt
def CM (b:Bool) (h:b=false):Tq4 254 [.imm (.bool b)] [] (.pan Hx):=by subst h;exact zif
def D6 (a b:Int):Blk:=.immb 195 2 [.int .i64 a,.int .i64 b]
def IL (n d x:Int) (p:1<=n) (q:n<=4611686018427387904) (u:x<=d):Tq4 190 [.ref 1 0,i7 x] [(1,some (D6 n d))] (.ret (.imm (.tup [])) [(1,some (D6 (n-1) d))]):=by have h:IntKind.i64.wrap (n-1)=n-1:=Gx (by omega) (by omega);refine Ac Bv func190 O [2,3]<|CZ O<|Ah O (Cf _ (by simp[h];omega))<|CZ O<|Bw ⟨_,rfl,rfl,?_⟩;simp only[h];exact AG
def Uz (n d x:Int) (p : -1<=n) (q:n<=4611686018427387904) (u:n<1\/d<x):Tq4 190 [.ref 1 0,i7 x] [(1,some (D6 n d))] (.pan Hx):=by have h:IntKind.i64.wrap (n-1)=n-1:=Gx (by omega) (by omega);exact Ac Bv func190 O [2,3]<|CZ O<|AM [] O (by simp) (CM _ (by simp[h];omega)) ab O O
def HO {ps:L1 Y} {t:Y} (h:ps[i]?=some t):A6 (ps.drop i)=Bn t+A6 (ps.drop (i+1)):=by rw[Au h];rfl
def Nx:∀(t:Y) (n:Int),(Bn t:Int)<=n->n<=4611686018427387904->Tq4 247 [.ref 1 0,.imm (.agg (As t))] [(1,some (D6 n 0))] (.ret (.imm (.tup [])) [(1,some (D6 (n-Bn t) 0))])
 |.mk s m x p,n,y,A=>by refine FT 1 O λq=>?_;have H:p.length<=9223372036854775807:=by{simp[D8,Gy,As,maxLen]at q;have:=q.1;omega};refine Ac Bv func247 O [2,3,4] ?_;have J:(1:Int)+A6 p<=n:=by{simp only[Bn]at y;omega};refine CZ O<|Ae O (IL n 0 0 (by omega) A (by decide)) A2 O<|CZ O<|Al (λi:Nat=>[(11,i7 i),(10,i7 p.length),(9,.imm (.sl (A4 p))),(0,.ref 1 0)]) (λi=>[(1,some (D6 (n-1-A6 (p.take i)) 0))]) [2,3,4] (λi=>p.length-i) (λi=>i<=p.length) 0 (AK _) ⟨rfl,B8 (by simp),AP⟩ ⟨by simp[A6];rfl,ab⟩ O λi K B=>?_;refine I3 O<|Aa O (λh=>?_) (λh=>?_);simp at h;let⟨t,u⟩:=At h;have C:=FP u;have D:=HO u;have G:(A6 (p.take (i+1)):Int)=A6 (p.take i)+Bn t:=by{rw[Ba u,Fp];simp[A6]};exact I3 O<|tiz O (AQ u)<|CZ O<|Ae O (Nx t (n-1-A6 (p.take i)) (by omega) (by omega)) A2 O<|CZ O<|Ad (B (i+1) (by omega) (by omega)) ⟨Bf,AC⟩ ⟨af (λz=>D6 z 0) (by omega),ab⟩ O;refine I3 O ?_;simp at h;refine Bw ⟨_,rfl,rfl,⟨?_,ab⟩⟩;rw[CA (by omega)];simp only[Bn];exact af (λz=>some (some (D6 z 0))) (by omega)
termination_by t=>SizeOf.sizeOf t
decreasing_by all_goals(have:=Cr (AF u);simp_wf;omega)
def iD:∀(t:Y) (n:Int),n<Bn t->-1<=n->n<=4611686018427387904->Tq4 247 [.ref 1 0,.imm (.agg (As t))] [(1,some (D6 n 0))] (.pan Hx)
 |.mk s m x p,n,A,B,y=>by refine FT 1 O λq=>?_;have N:p.length<=9223372036854775807:=by{simp[D8,Gy,As,maxLen]at q;have:=q.1;omega};refine Ac Bv func247 O [2,3,4] ?_;have R:n<(1:Int)+A6 p:=by{simp only[Bn]at A;omega};refine CZ O ?_;by_cases C:n<1;exact AM [(1,1)] O (by simp) (Uz n 0 0 (by omega) y (.inl C)) A2 O O;refine Ae O (IL n 0 0 (by omega) y (by decide)) A2 O<|CZ O<|Al (λi:Nat=>[(11,i7 i),(10,i7 p.length),(9,.imm (.sl (A4 p))),(0,.ref 1 0)]) (λi=>[(1,some (D6 (n-1-A6 (p.take i)) 0))]) [2,3,4] (λi=>p.length-i) (λi=>i<=p.length/\(A6 (p.take i):Int)<=n-1/\n-1<A6 (p.take i)+A6 (p.drop i)) 0 ⟨AK _,by simp[A6];omega,by simp[A6];omega⟩ ⟨rfl,B8 (by simp),AP⟩ ⟨by simp[A6];rfl,ab⟩ O λi D G=>?_;refine I3 O<|Aa O (λh=>?_) (λh=>?_);simp at h;let⟨t,u⟩:=At h;have H:=FP u;have J:=HO u;have K:(A6 (p.take (i+1)):Int)=A6 (p.take i)+Bn t:=by{rw[Ba u,Fp];simp[A6]};refine I3 O<|tiz O (AQ u)<|CZ O ?_;by_cases L:(Bn t:Int)<=n-1-A6 (p.take i);exact Ae O (Nx t (n-1-A6 (p.take i)) (by omega) (by omega)) A2 O<|CZ O<|Ad (G (i+1) (by omega) ⟨by omega,by omega,by omega⟩) ⟨Bf,AC⟩ ⟨af (λz=>D6 z 0) (by omega),ab⟩ O;exact AM [(1,1)] O (by simp) (iD t (n-1-A6 (p.take i)) (by omega) (by omega) (by omega)) A2 O O;exfalso;simp at h;have:=D.2;rw[CA (by omega),Bu (by omega)]at this;simp[A6]at this;omega
termination_by t=>SizeOf.sizeOf t
decreasing_by all_goals(have:=Cr (AF u);simp_wf;omega)
def Qk:∀(t:Y) (n:Int),(Bn t:Int)<=n->n<=4611686018427387904->Tq4 284 [.ref 1 0,.imm (.agg (As t))] [(1,some (D6 n 0))] (.ret (.imm (.tup [])) [(1,some (D6 (n-Bn t) 0))])
 |.mk s m x p,n,y,A=>by refine FT 1 O λq=>?_;have H:p.length<=9223372036854775807:=by{simp[D8,Gy,As,maxLen]at q;have:=q.1;omega};refine Ac Bv func284 O [2,3,4] ?_;have J:(1:Int)+A6 p<=n:=by{simp only[Bn]at y;omega};refine CZ O<|Ae O (IL n 0 0 (by omega) A (by decide)) A2 O<|CZ O<|Al (λi:Nat=>[(11,i7 i),(10,i7 p.length),(9,.imm (.sl (A4 p))),(0,.ref 1 0)]) (λi=>[(1,some (D6 (n-1-A6 (p.take i)) 0))]) [2,3,4] (λi=>p.length-i) (λi=>i<=p.length) 0 (AK _) ⟨rfl,B8 (by simp),AP⟩ ⟨by simp[A6];rfl,ab⟩ O λi K B=>?_;refine I3 O<|Aa O (λh=>?_) (λh=>?_);simp at h;let⟨t,u⟩:=At h;have C:=FP u;have D:=HO u;have G:(A6 (p.take (i+1)):Int)=A6 (p.take i)+Bn t:=by{rw[Ba u,Fp];simp[A6]};exact I3 O<|tiz O (AQ u)<|CZ O<|Ae O (Qk t (n-1-A6 (p.take i)) (by omega) (by omega)) A2 O<|CZ O<|Ad (B (i+1) (by omega) (by omega)) ⟨Bf,AC⟩ ⟨af (λz=>D6 z 0) (by omega),ab⟩ O;refine I3 O ?_;simp at h;refine Bw ⟨_,rfl,rfl,⟨?_,ab⟩⟩;rw[CA (by omega)];simp only[Bn];exact af (λz=>some (some (D6 z 0))) (by omega)
termination_by t=>SizeOf.sizeOf t
decreasing_by all_goals(have:=Cr (AF u);simp_wf;omega)
def uH:∀(t:Y) (n:Int),n<Bn t->-1<=n->n<=4611686018427387904->Tq4 284 [.ref 1 0,.imm (.agg (As t))] [(1,some (D6 n 0))] (.pan Hx)
 |.mk s m x p,n,A,B,y=>by refine FT 1 O λq=>?_;have N:p.length<=9223372036854775807:=by{simp[D8,Gy,As,maxLen]at q;have:=q.1;omega};refine Ac Bv func284 O [2,3,4] ?_;have R:n<(1:Int)+A6 p:=by{simp only[Bn]at A;omega};refine CZ O ?_;by_cases C:n<1;exact AM [(1,1)] O (by simp) (Uz n 0 0 (by omega) y (.inl C)) A2 O O;refine Ae O (IL n 0 0 (by omega) y (by decide)) A2 O<|CZ O<|Al (λi:Nat=>[(11,i7 i),(10,i7 p.length),(9,.imm (.sl (A4 p))),(0,.ref 1 0)]) (λi=>[(1,some (D6 (n-1-A6 (p.take i)) 0))]) [2,3,4] (λi=>p.length-i) (λi=>i<=p.length/\(A6 (p.take i):Int)<=n-1/\n-1<A6 (p.take i)+A6 (p.drop i)) 0 ⟨AK _,by simp[A6];omega,by simp[A6];omega⟩ ⟨rfl,B8 (by simp),AP⟩ ⟨by simp[A6];rfl,ab⟩ O λi D G=>?_;refine I3 O<|Aa O (λh=>?_) (λh=>?_);simp at h;let⟨t,u⟩:=At h;have H:=FP u;have J:=HO u;have K:(A6 (p.take (i+1)):Int)=A6 (p.take i)+Bn t:=by{rw[Ba u,Fp];simp[A6]};refine I3 O<|tiz O (AQ u)<|CZ O ?_;by_cases L:(Bn t:Int)<=n-1-A6 (p.take i);exact Ae O (Qk t (n-1-A6 (p.take i)) (by omega) (by omega)) A2 O<|CZ O<|Ad (G (i+1) (by omega) ⟨by omega,by omega,by omega⟩) ⟨Bf,AC⟩ ⟨af (λz=>D6 z 0) (by omega),ab⟩ O;exact AM [(1,1)] O (by simp) (uH t (n-1-A6 (p.take i)) (by omega) (by omega) (by omega)) A2 O O;exfalso;simp at h;have:=D.2;rw[CA (by omega),Bu (by omega)]at this;simp[A6]at this;omega
termination_by t=>SizeOf.sizeOf t
decreasing_by all_goals(have:=Cr (AF u);simp_wf;omega)
def Zg:∀(p:L1 Tm) (l d:Int),l<0->B7 p l d<0
 |[],l,d,h=>h
 |t::r,l,d,h=>by simp only[B7];rw[ac (by omega)];exact h
def Nw:∀(t:Tm) (n p x:Int),0<=n->n<=4611686018427387904->0<=p->p<=1000000->0<=x->x<=1000001->0<=Be t n (p-x+1)->Tq4 135 [.ref 1 0,.imm (.agg (dTmc t)),i7 x] [(1,some (D6 n p))] (.ret (.imm (.tup [])) [(1,some (D6 (Be t n (p-x+1)) p))])
 |.mk R T V u W,n,p,x,l,d,D,G,e,f,H=>by refine FT 1 O λB=>?_;have o:u.length<=9223372036854775807:=by{simp[D8,Gy,dTmc,maxLen]at B;have:=B.1;omega};refine Ac Bv func135 O [2,3,4] ?_;have J:¬(n<1\/p-x+1<1)->Be (.mk R T V u W) n (p-x+1)=B7 u (n-1) (p-x):=λh=>by{simp only[Be];rw[ac h];congr 1;omega};refine CZ O ?_;by_cases a:n<1\/p-x+1<1;exfalso;simp only[Be]at H;rw[ae a]at H;omega;have g:1<=n/\x<=p:=by{omega};refine Ae O (IL n p x (by omega) d (by omega)) A2 O<|CZ O<|Al (λy:Nat×Int=>[(14,i7 y.1),(13,i7 u.length),(12,.imm (.sl (Cz u))),(0,.ref 1 0),(2,i7 x)]) (λy=>[(1,some (D6 y.2 p))]) [2,3,4] (λy=>u.length-y.1) (λy=>y.1<=u.length/\Be (.mk R T V u W) n (p-x+1)=B7 (u.drop y.1) y.2 (p-x)/\0<=y.2/\y.2<=n) (0,n-1) ⟨AK _,by simp only[Yn];exact J a,by simp only;omega,by simp only;omega⟩ ⟨rfl,B8 (by simp),AC⟩ AG O λy j k=>?_;obtain⟨i,m⟩:=y;obtain⟨K,q,A,L⟩:=j;simp only at K q A L;refine I3 O<|Aa O (λh=>?_) (λh=>?_);simp at h;let⟨t,N⟩:=At h;rw[Au N]at q;simp only[B7]at q;rw[ae A]at q;have r:=Hz t m (p-x);have b:IntKind.i64.wrap (x+1)=x+1:=Gx (by omega) (by omega);refine I3 O<|tiz O (Et N)<|CZ O ?_;have C:p-(x+1)+1=p-x:=by{omega};have c:0<=Be t m (p-x):=by{rw[q]at H;rcases Int.lt_or_le (Be t m (p-x)) 0 with hl|hl;exfalso;have:=Zg (u.drop (i+1)) (Be t m (p-x)) (p-x) hl;omega;exact hl};exact Ae O (Nw t m p (IntKind.i64.wrap (x+1)) A (by omega) D G (by omega) (by omega) (by rw[b,C];exact c)) A2 O<|CZ O<|Ad (k (i+1,Be t m (p-x)) (by simp only;omega) ⟨by simp only;omega,q,by simp only;exact c,by simp only;omega⟩) ⟨Bf,B0⟩ ⟨af (λz=>D6 z p) (by simp only[b,C]),ab⟩ O;refine I3 O ?_;simp at h;refine Bw ⟨_,rfl,rfl,⟨?_,ab⟩⟩;rw[Bu (by omega)]at q;simp only[B7]at q;rw[q];rfl
termination_by t=>SizeOf.sizeOf t
decreasing_by all_goals(have:=Cr (AF N);simp_wf;omega)
def iC:∀(t:Tm) (n p x:Int),0<=n->n<=4611686018427387904->0<=p->p<=1000000->0<=x->x<=1000001->Be t n (p-x+1)<0->Tq4 135 [.ref 1 0,.imm (.agg (dTmc t)),i7 x] [(1,some (D6 n p))] (.pan Hx)
 |.mk R T V u W,n,p,x,k,a,C,D,c,d,l=>by refine FT 1 O λG=>?_;have o:u.length<=9223372036854775807:=by{simp[D8,Gy,dTmc,maxLen]at G;have:=G.1;omega};refine Ac Bv func135 O [2,3,4] ?_;have H:¬(n<1\/p-x+1<1)->Be (.mk R T V u W) n (p-x+1)=B7 u (n-1) (p-x):=λh=>by{simp only[Be];rw[ac h];congr 1;omega};refine CZ O ?_;by_cases e:n<1\/p-x+1<1;exact AM [(1,1)] O (by simp) (Uz n p x (by omega) a (by omega)) A2 O O;have f:1<=n/\x<=p:=by{omega};refine Ae O (IL n p x (by omega) a (by omega)) A2 O<|CZ O<|Al (λy:Nat×Int=>[(14,i7 y.1),(13,i7 u.length),(12,.imm (.sl (Cz u))),(0,.ref 1 0),(2,i7 x)]) (λy=>[(1,some (D6 y.2 p))]) [2,3,4] (λy=>u.length-y.1) (λy=>y.1<=u.length/\Be (.mk R T V u W) n (p-x+1)=B7 (u.drop y.1) y.2 (p-x)/\0<=y.2/\y.2<=n) (0,n-1) ⟨AK _,by simp only[Yn];exact H e,by simp only;omega,by simp only;omega⟩ ⟨rfl,B8 (by simp),AC⟩ AG O λy g j=>?_;obtain⟨i,m⟩:=y;obtain⟨J,q,A,K⟩:=g;simp only at J q A K;refine I3 O<|Aa O (λh=>?_) (λh=>?_);simp at h;let⟨t,L⟩:=At h;rw[Au L]at q;simp only[B7]at q;rw[ae A]at q;have r:=Hz t m (p-x);have N:IntKind.i64.wrap (x+1)=x+1:=Gx (by omega) (by omega);refine I3 O<|tiz O (Et L)<|CZ O ?_;have B:p-(x+1)+1=p-x:=by{omega};by_cases b:0<=Be t m (p-x);exact Ae O (Nw t m p (IntKind.i64.wrap (x+1)) A (by omega) C D (by omega) (by omega) (by rw[N,B];exact b)) A2 O<|CZ O<|Ad (j (i+1,Be t m (p-x)) (by simp only;omega) ⟨by simp only;omega,q,by simp only;exact b,by simp only;omega⟩) ⟨Bf,B0⟩ ⟨af (λz=>D6 z p) (by simp only[N,B]),ab⟩ O;exact AM [(1,1)] O (by simp) (iC t m p (IntKind.i64.wrap (x+1)) A (by omega) C D (by omega) (by omega) (by rw[N,B];omega)) A2 O O;exfalso;simp at h;rw[Bu (by omega)]at q;simp only[B7]at q;omega
termination_by t=>SizeOf.sizeOf t
decreasing_by all_goals(have:=Cr (AF L);simp_wf;omega)
structure PRng where
 s:List UInt8
 id':Nat
 ids':List Nat
 dst:Option Nat
 todo:List DI
def zo4 (L:TT) (n:Nat) (env:Env) (aa:L1 Nat) (todo:L1 DI):Option PRng :=
 match OK todo,aa with
 |some o,h::ids'=>match o.guard,o.op with
  |none,.range t x=>match lk L t,EM env x,Ce n o.dst,B1 todo ([],[h])with
   |some { sh:=.str,.. },some (.imm (.str s)),true,some (_,_,q)=>some ⟨s,h,ids',o.dst,q⟩
   |_,_,_,_=>none
  |_,_=>none
 |_,_=>none
structure PNxt where
 s:List UInt8
 pos:Nat
 id:Nat
 dst:Option Nat
 todo:List DI
def zi6 (n:Nat) (env:Env) (st:St) (wr:Bool) (todo:L1 DI):Option PNxt :=
 match OK todo with
 |some o=>match o.guard,o.op with
  |none,.next x true=>match EM env x,Ce n o.dst with
   |some (.iter id),true=>match lk st id,B1 todo ([id],bif wr then[id]else[])with
    |some (some (.siter s h)),some (_,_,q)=>some ⟨s,h,id,o.dst,q⟩
    |_,_=>none
   |_,_=>none
  |_,_=>none
 |none=>none
def FV (s:L1 UInt8) (h:Nat):Nat×Nat:=Utf8.decode ⟨s.toArray⟩ h
def Fe {s:Sem Value} (h:s.run P w=.ok v w'):(do pure (.value (<- s)):Sem Next).run P w=.ok (.value v) w':=by simp[h]
def X.iterInv {id:Nat} (h:X I μ v (.iter id)):∃b,v=.pointer (some ⟨b,0,none⟩)/\μ id=some v:=by cases h with|iter _ b h=>{exact⟨b,rfl,h⟩}
def zf9 (J:TTok P L) {u:L1 Nat} {p:L1 DI} (h:zo4 L n env aa todo=some ⟨y,B,u,d0,p⟩) (f:G P n F Q p (Ca d0 (.iter B) env) ((B,some (.siter y 0))::st) u):G P n F Q todo env st aa:=by unfold zo4 at h;split at h;rename_i o g ids' i;split at h;rename_i t x j C;split at h;rename_i _ _ _ _ s k V q l m r W;cases h;have K:V=o:=Dp i W;subst K;refine BQ (fr:=[B]) (wr:=[(B,some (.siter y 0))]) (rd:=[]) W ?_ r (λc b=>by rw[C]at b;cases b) f;intro I μ a8 d a w v N R;refine⟨λ_=>?_,λe=>by rw[AJ j]at e;cases e⟩;have A:=Bx R;rw[C]at A;obtain⟨T,z,E⟩:=(A x (by simp[Op.operands]) _ m).immInv.strInv;have S:P.underlying t=some .string:=J.sh l;have D:(execOp a.eval V).run P w=.ok (.value (.pointer (some ⟨w.heap.size,0,none⟩))) (w.alloc (.stringIter T 0)):=by{simp only[execOp,C,z];refine Fe ?_;simp only[Instr.range,aj,ak S,ah,am,dh];rfl};rw[D];let⟨H,q1,q2,q3,q4⟩:=N.allocO (.stringIter T 0) (.pointer (some ⟨w.heap.size,0,none⟩)) (λ_ h=>cw h) (.siter y 0) (λH _=>⟨w.heap.size,T,rfl,Fi w _,E⟩);exact⟨I,H,q3,.iter _ _ q1,q2,q4⟩;cases h;cases h;cases h
def XD {id p:Nat} {s:L1 UInt8} (q:StRep I μ st aa w) (A:Aw st id (.siter s p)) (B:X I μ v (.iter id)):∃b,v=.pointer (some ⟨b,0,none⟩)/\μ id=some v/\w.heap[b]?=some (.stringIter ⟨s.toArray⟩ p):=by obtain⟨b,rfl,u⟩:=B.iterInv;obtain⟨g,y,D,G,rfl,h,C⟩:=q.blk id _ A;rw[u]at y;cases y;refine⟨b,rfl,u,?_⟩;rw[h,<- C]
def uL {u:L1 DI} (h:zi6 n env st true todo=some ⟨y,A,B,d0,u⟩) (z:A<y.length) {dc:Nat×Nat} (V:FV y A=dc) (W:G P n F Q u (Ca d0 (.imm (.tup [.bool true,.int .i64 A,.int .i32 dc.1])) env) ((B,some (.siter y (A+dc.2)))::st) aa):G P n F Q todo env st aa:=by subst V;unfold zi6 at h;split at h;rename_i o E;split at h;rename_i x S J;split at h;rename_i id C hd;split at h;rename_i s pos all m q hl r;cases h;have d:m=o:=Dp E r;subst d;refine BQ (fr:=[]) (wr:=[(B,some (.siter y (A+(FV y A).2)))]) (rd:=[B]) r ?_ hd (λc D=>by rw[J]at D;cases D) W;intro I μ a8 t a w e K f;refine⟨λ_=>?_,λv=>by rw[AJ S]at v;cases v⟩;have H:=Bx f;rw[J]at H;have L:Aw a8 B (.siter y A):=by{unfold Aw;rw[e B (by simp)];exact hl};let⟨b,g,hm,p⟩:=XD K L (H x (by simp[Op.operands]) _ C);have N:(getObj b).run P w=.ok (.stringIter ⟨y.toArray⟩ A) w:=by{simp[getObj,Sem.run,p]};have R:(setObj b (.stringIter ⟨y.toArray⟩ (A+(FV y A).2))).run P w=.ok () { w with heap:=w.heap.setIfInBounds b (.stringIter ⟨y.toArray⟩ (A+(FV y A).2)) }:=by{simp[setObj,Sem.run,p]};have j:A<(ByteArray.mk y.toArray).size:=by{simpa[ByteArray.size]using z};have T:(execOp a.eval m).run P w=.ok (.value (.tuple #[.bool true,.int .i64 A,.int .i32 (FV y A).1])) { w with heap:=w.heap.setIfInBounds b (.stringIter ⟨y.toArray⟩ (A+(FV y A).2)) }:=by{simp only[execOp,J,g];refine Fe ?_;simp only[Instr.next,aj,N,ah,ae j];have:(setObj b (.stringIter ⟨y.toArray⟩ (A+(Utf8.decode ⟨y.toArray⟩ A).2))).run P w=_:=R;simp only[aj,this,ah,am];rfl};rw[T];have l:=Cx p;let⟨q1,q2⟩:=K.update (blk':=.siter y (A+(FV y A).2)) (w':={ w with heap:=w.heap.setIfInBounds b (.stringIter ⟨y.toArray⟩ (A+(FV y A).2)) }) L hm (by rw[g];rfl) (by simp) O O O (λk W=>Hd (b7 W)) ⟨b,⟨y.toArray⟩,g,by simp[l],rfl⟩;refine⟨I,μ,q1,.imm _ _ (.tup _ _ O λi c x D C=>?_),Mu.le_refl μ,q2⟩;match i,D,C with|0,D,C=>cases D;cases C;exact .bool _|1,D,C=>cases D;cases C;exact .int _ _|2,D,C=>cases D;cases C;exact .int _ _|i+3,D,C=>{simp at C};cases h;cases h;cases h;cases h
def zkd {p:L1 DI} (h:zi6 n env st false todo=some ⟨y,A,B,d0,p⟩) (k:y.length<=A) (l:G P n F Q p (Ca d0 (.imm (.tup [.bool false])) env) st aa):G P n F Q todo env st aa:=by unfold zi6 at h;split at h;rename_i o m;split at h;rename_i x r C;split at h;rename_i id D t;split at h;rename_i s v z e q E f;cases h;have R:e=o:=Dp m f;subst R;refine BQ (fr:=[]) (wr:=[]) (rd:=[B]) f ?_ t (λc H=>by rw[C]at H;cases H) l;intro I μ a8 g a w T K V;refine⟨λ_=>?_,λj=>by rw[AJ r]at j;cases j⟩;have u:=Bx V;rw[C]at u;have W:Aw a8 B (.siter y A):=by{unfold Aw;rw[T B (by simp)];exact E};let⟨b,S,hm,J⟩:=XD K W (u x (by simp[Op.operands]) _ D);have L:(getObj b).run P w=.ok (.stringIter ⟨y.toArray⟩ A) w:=by{simp[getObj,Sem.run,J]};have d:¬A<(ByteArray.mk y.toArray).size:=by{simpa[ByteArray.size]using k};have N:(execOp a.eval e).run P w=.ok (.value (.tuple #[.bool false])) w:=by{simp only[execOp,C,S];refine Fe ?_;simp only[Instr.next,aj,L,ah,ac d,am]};rw[N];refine⟨I,μ,K,.imm _ _ (.tup _ _ O λi c x H D=>?_),Mu.le_refl μ,Ext.refl _ _ _ _⟩;match i,H,D with|0,H,D=>cases H;cases D;exact .bool _|i+1,H,D=>{simp at D};cases h;cases h;cases h;cases h
def qP {p:Nat} {c:UInt8} (h:s[p]?=some c) (q:c.toNat<128):FV s p=(c.toNat,1):=by have u:(ByteArray.mk s.toArray).get! p=c:=by{simp[ByteArray.get!,h]};simp only[FV,Utf8.decode,Gs,u];rw[ae q]
def jI {p:Nat} {c:UInt8} (h:s[p]?=some c) (u:128<=c.toNat):128<=(FV s p).1:=by have q:(ByteArray.mk s.toArray).get! p=c:=by{simp[ByteArray.get!,h]};simp only[FV,Utf8.decode,Gs,q,Utf8.runeError];rw[ac (by omega)];(repeat' split);all_goals first|(simp only;omega)|decide|(simp only[Am,al]at *;omega)
def X1 (s:Z):Tq3 131 [.str s] (.bool (G9 s)):=by refine Ac Bv func131 O [1,2]<|CZ O<|zf9 Bv O<|CZ O<|Al (λi:Nat=>[(6,.iter 1)]) (λi=>[(1,some (.siter s i))]) [2] (λi=>s.length-i) (λi=>i<=s.length/\G9 s=G9 (s.drop i)) 0 ⟨AK _,rfl⟩ AG AG O λi y A=>?_;refine I3 O ?_;by_cases q:i<s.length;let⟨c,u⟩:=At q;have e:=y.2;rw[Sd u]at e;by_cases p:c.toNat<128;refine uL O q (qP u p)<|Mr [.a] O<|Aa O (λh=>?_) (λh=>?_);refine I3 O<|Ab O O (af _ ?_);rw[e];simp at h;simp[ax];omega;refine I3 O<|Ad (A (i+1) (by omega) ⟨by omega,?_⟩) AG AG O;rw[e];simp at h;simp[ax];omega;refine uL (dc:=FV s i) O q O ?_;have B:=jI u (by omega);refine Mr [.a] O<|Aa O (λh=>?_) (λh=>?_);refine I3 O<|Ab O O (af _ ?_);rw[e];simp[ax];omega;exfalso;simp at h;omega;refine zkd O (by omega)<|Mr [.a] O<|Ab O O (af _ ?_);rw[y.2,Bu (by omega)];rfl
def oO (s:Z) (h:V6 s=false):Tq3 132 [.str s] (.bool false):=by simp only[V6,KJ,Bm,Lu]at h;exact Ac Bv func132 O [1,2]<|tg [.f,.f,.f,.f,.f,.f,.f,.f,.f,.f,.f,.f,.f,.f,.f,.f,.f,.f,.f,.f,.f,.f,.f,.f,.f,.f,.f,.f,.f] O (by simp at h;simp;grind)<|Ab O O O
def zJ:Tq3 132 [.str [98,111,111,108]] (.bool true):=by exact Ac Bv func132 O [1,2]<|Mr [.a,.a] O<|Ab O O O
def zI:Tq3 132 [.str [99,101,108,108]] (.bool true):=by exact Ac Bv func132 O [1,2]<|Mr [.a,.a,.a] O<|Ab O O O
def zH:Tq3 132 [.str [99,104,97,110]] (.bool true):=by exact Ac Bv func132 O [1,2]<|Mr [.a,.a,.a,.a] O<|Ab O O O
def zG:Tq3 132 [.str [101,108,115,101]] (.bool true):=by exact Ac Bv func132 O [1,2]<|Mr (D7 4 [.a]) O<|Ab O O O
def zF:Tq3 132 [.str [102,97,108,115,101]] (.bool true):=by exact Ac Bv func132 O [1,2]<|Mr (D7 5 [.a]) O<|Ab O O O
def zE:Tq3 132 [.str [102,117,110]] (.bool true):=by exact Ac Bv func132 O [1,2]<|Mr (D7 6 [.a]) O<|Ab O O O
def zD:Tq3 132 [.str [103,101,116]] (.bool true):=by exact Ac Bv func132 O [1,2]<|Mr (D7 7 [.a]) O<|Ab O O O
def zC:Tq3 132 [.str [105,102]] (.bool true):=by exact Ac Bv func132 O [1,2]<|Mr (D7 8 [.a]) O<|Ab O O O
def zB:Tq3 132 [.str [105,110]] (.bool true):=by exact Ac Bv func132 O [1,2]<|Mr (D7 9 [.a]) O<|Ab O O O
def zA:Tq3 132 [.str [105,110,112,117,116]] (.bool true):=by exact Ac Bv func132 O [1,2]<|Mr (D7 10 [.a]) O<|Ab O O O
def pH:Tq3 132 [.str [105,110,116]] (.bool true):=by exact Ac Bv func132 O [1,2]<|Mr (D7 11 [.a]) O<|Ab O O O
def pG:Tq3 132 [.str [106,111,105,110]] (.bool true):=by exact Ac Bv func132 O [1,2]<|Mr (D7 12 [.a]) O<|Ab O O O
def pF:Tq3 132 [.str [108,101,116]] (.bool true):=by exact Ac Bv func132 O [1,2]<|Mr (D7 13 [.a]) O<|Ab O O O
def pE:Tq3 132 [.str [109,97,116,99,104]] (.bool true):=by exact Ac Bv func132 O [1,2]<|Mr (D7 14 [.a]) O<|Ab O O O
def pD:Tq3 132 [.str [109,111,100,117,108,101]] (.bool true):=by exact Ac Bv func132 O [1,2]<|Mr (D7 15 [.a]) O<|Ab O O O
def pC:Tq3 132 [.str [111,117,116]] (.bool true):=by exact Ac Bv func132 O [1,2]<|Mr (D7 16 [.a]) O<|Ab O O O
def pB:Tq3 132 [.str [112,97,117,115,101]] (.bool true):=by exact Ac Bv func132 O [1,2]<|Mr (D7 17 [.a]) O<|Ab O O O
def pA:Tq3 132 [.str [112,117,116]] (.bool true):=by exact Ac Bv func132 O [1,2]<|Mr (D7 18 [.a]) O<|Ab O O O
def oZ:Tq3 132 [.str [114,101,115,101,116]] (.bool true):=by exact Ac Bv func132 O [1,2]<|Mr (D7 19 [.a]) O<|Ab O O O
def oY:Tq3 132 [.str [115,101,110,100]] (.bool true):=by exact Ac Bv func132 O [1,2]<|Mr (D7 20 [.a]) O<|Ab O O O
def oX:Tq3 132 [.str [115,104,105,102,116]] (.bool true):=by exact Ac Bv func132 O [1,2]<|Mr (D7 21 [.a]) O<|Ab O O O
def oW:Tq3 132 [.str [115,112,97,119,110]] (.bool true):=by exact Ac Bv func132 O [1,2]<|Mr (D7 22 [.a]) O<|Ab O O O
def oV:Tq3 132 [.str [116,97,107,101]] (.bool true):=by exact Ac Bv func132 O [1,2]<|Mr (D7 23 [.a]) O<|Ab O O O
def oU:Tq3 132 [.str [116,97,115,107]] (.bool true):=by exact Ac Bv func132 O [1,2]<|Mr (D7 24 [.a]) O<|Ab O O O
def oS:Tq3 132 [.str [116,104,101,110]] (.bool true):=by exact Ac Bv func132 O [1,2]<|Mr (D7 25 [.a]) O<|Ab O O O
def oR:Tq3 132 [.str [116,114,117,101]] (.bool true):=by exact Ac Bv func132 O [1,2]<|Mr (D7 26 [.a]) O<|Ab O O O
def oQ:Tq3 132 [.str [116,121,112,101]] (.bool true):=by exact Ac Bv func132 O [1,2]<|Mr (D7 27 [.a]) O<|Ab O O O
def oP:Tq3 132 [.str [117,110,105,116]] (.bool true):=by exact Ac Bv func132 O [1,2]<|Mr (D7 28 [.a]) O<|Ab O O O
def ao:=@beq_iff_eq
def oN (s:Z):Tq3 132 [.str s] (.bool (V6 s)):=by cases h:V6 s with|false=>exact oO s h|true=>{simp only[V6,KJ,Bm,Fg,ao,Bool.or_false]at h;rcases h with rfl|rfl|rfl|rfl|rfl|rfl|rfl|rfl|rfl|rfl|rfl|rfl|rfl|rfl|rfl|rfl|rfl|rfl|rfl|rfl|rfl|rfl|rfl|rfl|rfl|rfl|rfl|rfl;exact zJ;exact zI;exact zH;exact zG;exact zF;exact zE;exact zD;exact zC;exact zB;exact zA;exact pH;exact pG;exact pF;exact pE;exact pD;exact pC;exact pB;exact pA;exact oZ;exact oY;exact oX;exact oW;exact oV;exact oU;exact oS;exact oR;exact oQ;exact oP}
def Gk (s:Z):Tq3 73 [.str s] (.bool (BV s)):=by refine Ac Bv func73 O [1,2]<|CZ O<|Ai O (v:=.bool (G9 s)) (λh=>X1 s) (by simp[Ap])<|CZ O<|Ai O (v:=.bool (V6 s)) (λh=>oN s) (by simp[Ap])<|CZ O<|Ab O O (af _ ?_);cases s with|nil=>simp[BV]|cons a r=>{simp[BV];norm_cast;simp}
def FM (s:Z):Tq3 183 [.str s] (.bool (CW s)):=by refine Ac Bv func183 O [1,2]<|tg [] O (by cases s with|nil=>simp[Ap]|cons a r=>simp[Ap];omega)<|Ai O (v:=.bool (G9 (s.drop 1))) (λh=>X1 _) (by simp[Ap])<|CZ O<|Ab O O (af _ ?_);cases s with|nil=>simp[CW]|cons a r=>{simp[CW,ax,OT];norm_cast;simp}
def Bb (n:Int):Bool:=decide (-1000000000<=n)&&decide (n<=1000000000)
def Lx (n:Int):Tq3 256 [.int .i64 n] (.bool (Bb n)):=by refine Ac Bv func256 O [1,2]<|CZ O<|Ab O O (af _ ?_);simp[Bb]
def LL:D:=.imm (.tup [])
def O7 (q:Bool):∀(t:Y),Dv q t=true->Tq4 248 [.imm (.agg (As t)),.imm (.bool q)] [] (.ret LL [])
 |.mk s n x u,B=>by refine FT 0 O λC=>?_;have e:u.length<=9223372036854775807:=by{simp[D8,Gy,As,maxLen]at C;have:=C.1;omega};simp only[Dv,ZW]at B;refine Ac Bv func248 O [1,2,3] ?_;have J:∀p:Nat,Dg q s n x u.length=(((u.length:Int)==(p:Int))&&(s==9||n==0)&&(s==8||x==[]))->Tq2 Tryz.f248.ntmps (CT []) (KZ wI Tryz.f248.results.toList (.ret LL [])) [.code (ES Tryz.f248 3)] [(4,i7 p),(1,.imm (.bool q)),(2,.ref 1 0)] [(1,some (.immb 25 4 (As (.mk s n x u))))] [2,3]:=by{intro p a;have b:(((u.length:Int)==(p:Int))&&(s==9||n==0)&&(s==8||x==[]))=true:=by{rw[<- a];exact B.1};refine td [] O (by simp[Ap];grind)<|Ai O (λ_=>Cf _ ?_) (by simp) ?_;{simp at b ⊢;grind};refine CZ O<|Al (λi:Nat=>[(69,i7 i),(68,i7 u.length),(67,.imm (.sl (A4 u))),(1,.imm (.bool q)),(2,.ref 1 0)]) (λ_=>[(1,some (.immb 25 4 (As (.mk s n x u))))]) [2,3] (λi=>u.length-i) (λi=>i<=u.length/\C8 q (u.drop i)=true) 0 ⟨AK _,B.2⟩ ⟨rfl,B8 (by simp),AC⟩ AG O λi c d=>?_;refine I3 O ?_;have y:=c.2;refine Aa O (λh=>?_) (λh=>?_);simp at h;let⟨t,D⟩:=At h;rw[Au D]at y;simp only[C8,ZW]at y;exact I3 O<|tiz O (AQ D)<|CZ O<|Ao [] [] [] O (O7 q t y.1) ab O O<|CZ O<|Ad (d (i+1) (by omega) ⟨by omega,y.2⟩) ⟨Bf,B0⟩ AG O;exact I3 O<|Bw ⟨_,AP⟩};by_cases G:s=1;subst G;exact Mr [.a,.a,.s] O<|Ad (J 0 (by simp[Dg])) AC AG O;by_cases H:s=2;subst H;exact Mr [.a,.a,.a,.s] O<|Ad (J 0 (by simp[Dg])) AC AG O;by_cases K:s=3;subst K;exact Mr [.a,.a,.a,.s] O<|Ad (J 0 (by simp[Dg])) AC AG O;by_cases L:s=4;subst L;exact Mr (D7 4 [.s]) O<|Ad (J 2 (by simp[Dg])) AC AG O;by_cases N:s=5;subst N;exact Mr (D7 6 [.s]) O<|Ad (J 1 (by simp[Dg])) AC AG O;by_cases R:s=6;subst R;exact Mr (D7 7 [.s]) O<|Ad (J 1 (by simp[Dg])) AC AG O;by_cases T:s=7;subst T;exact Mr (D7 7 [.s]) O<|Ad (J 1 (by simp[Dg])) AC AG O;by_cases V:s=8;{subst V;by_cases A:CW x=true;exact rN (D7 7 [.a]) O<|Ah O (FM x)<|CZ O<|Ah O (Cf _ A)<|Mr [.s] O<|Ad (J 0 (by simp[Dg,A])) AC AG O;{exfalso;have:=B.1;simp[Dg]at this;simp at A;grind}};by_cases W:s=9;{subst W;by_cases A:(q&&DP n 0 99)=true;{exact rN (D7 8 [.a]) O<|Ah O (Cf _ (by simp[DP]at A ⊢;grind))<|Mr [.s] O<|Ad (J 0 (by simp[Dg,DP]at A ⊢;grind)) AC AG O};{exfalso;have:=B.1;simp[Dg]at this;simp at A;grind}};exfalso;have:=B.1;simp[Dg,G,H,K,L,N,R,T,V,W]at this
termination_by t=>SizeOf.sizeOf t
decreasing_by all_goals(have:=Cr (AF D);simp_wf;omega)
def ec:=@Bool.true_eq_false
def fw:=@false_or
def X0 (q:Bool):∀(t:Y),Dv q t=false->Tq4 248 [.imm (.agg (As t)),.imm (.bool q)] [] (.pan Hx)
 |.mk s n x y,C=>by refine FT 0 O λB=>?_;have f:y.length<=9223372036854775807:=by{simp[D8,Gy,As,maxLen]at B;have:=B.1;omega};simp only[Dv,OS]at C;refine Ac Bv func248 O [1,2,3] ?_;have J:∀p:Nat,Dg q s n x y.length=(((y.length:Int)==(p:Int))&&(s==9||n==0)&&(s==8||x==[]))->Tq2 Tryz.f248.ntmps (CT []) (KZ wI Tryz.f248.results.toList (.pan Hx)) [.code (ES Tryz.f248 3)] [(4,i7 p),(1,.imm (.bool q)),(2,.ref 1 0)] [(1,some (.immb 25 4 (As (.mk s n x y))))] [2,3]:=by{intro p c;by_cases D:(((y.length:Int)==(p:Int))&&(s==9||n==0)&&(s==8||x==[]))=true;rotate_left;{exact td [] O (by simp[Ap];grind)<|AM [] O (by simp) (CM _ (by simp at D ⊢;grind)) ab O O};rw[c,D]at C;simp only[ec,fw]at C;refine td [] O (by simp[Ap];grind)<|Ai O (λ_=>Cf _ ?_) (by simp) ?_;{simp at D ⊢;grind};refine CZ O<|Al (λi:Nat=>[(69,i7 i),(68,i7 y.length),(67,.imm (.sl (A4 y))),(1,.imm (.bool q)),(2,.ref 1 0)]) (λ_=>[(1,some (.immb 25 4 (As (.mk s n x y))))]) [2,3] (λi=>y.length-i) (λi=>i<=y.length/\C8 q (y.drop i)=false) 0 ⟨AK _,C⟩ ⟨rfl,B8 (by simp),AC⟩ AG O λi d e=>?_;refine I3 O ?_;have u:=d.2;refine Aa O (λh=>?_) (λh=>?_);simp at h;let⟨t,G⟩:=At h;rw[Au G]at u;simp only[C8,OS]at u;refine I3 O<|tiz O (AQ G)<|CZ O ?_;by_cases H:Dv q t=true;exact Ao [] [] [] O (O7 q t H) ab O O<|CZ O<|Ad (e (i+1) (by omega) ⟨by omega,by rw[H]at u;simpa using u⟩) ⟨Bf,B0⟩ AG O;exact AM [] O (by simp) (X0 q t (by simpa using H)) ab O O;exfalso;simp at h;rw[Bu (by omega)]at u;simp[C8]at u};by_cases K:s=1;subst K;exact Mr [.a,.a,.s] O<|Ad (J 0 (by simp[Dg])) AC AG O;by_cases L:s=2;subst L;exact Mr [.a,.a,.a,.s] O<|Ad (J 0 (by simp[Dg])) AC AG O;by_cases N:s=3;subst N;exact Mr [.a,.a,.a,.s] O<|Ad (J 0 (by simp[Dg])) AC AG O;by_cases R:s=4;subst R;exact Mr (D7 4 [.s]) O<|Ad (J 2 (by simp[Dg])) AC AG O;by_cases T:s=5;subst T;exact Mr (D7 6 [.s]) O<|Ad (J 1 (by simp[Dg])) AC AG O;by_cases V:s=6;subst V;exact Mr (D7 7 [.s]) O<|Ad (J 1 (by simp[Dg])) AC AG O;by_cases W:s=7;subst W;exact Mr (D7 7 [.s]) O<|Ad (J 1 (by simp[Dg])) AC AG O;by_cases a:s=8;subst a;by_cases A:CW x=true;exact rN (D7 7 [.a]) O<|Ah O (FM x)<|CZ O<|Ah O (Cf _ A)<|Mr [.s] O<|Ad (J 0 (by simp[Dg,A])) AC AG O;exact rN (D7 7 [.a]) O<|Ah O (FM x)<|CZ O<|AM [] O (by simp) (CM _ (by simpa using A)) ab O O;by_cases b:s=9;{subst b;by_cases A:(q&&DP n 0 99)=true;{exact rN (D7 8 [.a]) O<|Ah O (Cf _ (by simp[DP]at A ⊢;grind))<|Mr [.s] O<|Ad (J 0 (by simp[Dg,DP]at A ⊢;grind)) AC AG O};{exact rN (D7 8 [.a]) O<|AM [] O (by simp) (CM _ (by simp[DP]at A ⊢;grind)) ab O O}};exact tg [.f,.f,.f,.f,.f,.f,.f,.f,.f] O (by simp[K,L,N,R,T,V,W,a,b])<|AM [] O (by simp) (CM _ O) ab O O
termination_by t=>SizeOf.sizeOf t
decreasing_by all_goals(have:=Cr (AF G);simp_wf;omega)
def hmf:∀(fn:Fn) (first cap:Array Value) (w:World),(Instr.makeFunc fn first cap).run prog w=.ok (.func fn first cap) w:=λ_ _ _ _=>rfl
def ci:=@callsD_of_wpS
def ch:=@wpS_seq
def bn:=@wpS_region
def dj:=@wpS_cond
def cz:=@wpS_of_wp
def gW (p:Addr) (w:World):CallsD prog 253 #[.pointer (some p)] .returning w λe q w'=>e=.returned (.tuple #[])/\q=.returning/\w'=w:=by refine ci func253 O λh y u=>?_;apply ch;apply bn;simp[wpOpsS,go_sem,recoverD,u,Tryz.ntmps253,Exit.thenS];apply ch;apply bn;simp[wpOpsS,go_sem,Exit.thenS];refine dj (t:=false) (by simp[Act.eval,Array.replicate]) ?_;simp only[aw,DN];refine cz (wp_skip ?_);cases h;simp_all [bodyPostS,results,Tryz.results253]
def b9:=@World.cell?_alloc_past
def dg:=@RowKit.frozen?_alloc_cells
def gX (h:Nat) (x:Value) (w:World) (p:h<w.heap.size) (y:w.cell? ⟨h,0,none⟩=some x) (A:w.frozen? ⟨h,0,none⟩=false):CallsD prog 253 #[.pointer (some ⟨h,0,none⟩)] (.panicking [{ v:=.iface 293 (.agg #[]),recovered:=false }]) w λe B w'=>e=.returned (.tuple #[])/\B=.panicking [{ v:=.iface 293 (.agg #[]),recovered:=true }]/\w'=(w.setCell ⟨h,0,none⟩ (.bool false)).alloc (.cells #[] 293):=by refine ci func253 O λq H u=>?_;change Code.wpS _ _ _ { tmps:=#[.pointer (some ⟨h,0,none⟩),undef,undef,undef,undef,undef,undef,undef,undef,undef,undef,undef,undef,undef,undef],defers:=[] } _ _;apply ch;apply bn;simp[wpOpsS,go_sem,recoverD,u,Tryz.ntmps253,Exit.thenS];apply ch;apply bn;simp[wpOpsS,go_sem,Exit.thenS];refine dj (t:=true) (by simp[Act.eval,Array.replicate]) ?_;simp only[ar];refine cz ?_;clear u;have C:∀w:World,(Instr.typeAssert (.iface 293 (.agg #[])) 20 293 true).run prog w=.ok (.tuple #[.agg #[],.bool true]) w:=λ_=>by{kernel_rfl};have D:(w.alloc (.cells #[] 293)).cell? ⟨h,0,none⟩=some x:=by{rw[b9 _ _ _ p];exact y};have G:(w.alloc (.cells #[] 293)).frozen? ⟨h,0,none⟩=false:=by{rw[dg];exact A};go_wp2;simp[bodyPostS,results,Tryz.results253]
abbrev Tq6:=Calls prog
def cq:=@leaves_cons
def gV (g:FuncId) (B C:Array Value) (w:World) (K:World->Prop) (D:World->Prop)
  (G:(callFunc g (B++C)).run prog (w.alloc (.cells #[.bool false] 4))=.ok (.enter g (B++C)) (w.alloc (.cells #[.bool false] 4)))
  (u:Tq6 g (B++C) (w.alloc (.cells #[.bool false] 4)) λe w'=>match e with
   |.returned _=>K w'
   |.panicked h=>h=[{ v:=.iface 293 (.agg #[]),recovered:=false }]/\D w'
   |.outgrown=>False)
  (N:∀w',K w'->w'.heap[w.heap.size]?=some (.cells #[.bool false] 4 (0,0))) (q:∀w',D w'->w'.heap[w.heap.size]?=some (.cells #[.bool false] 4 (0,0))) :
  Tq6 189 #[.func (.func g) B C] w λe w'=>(e=.returned (.bool true)/\∃A,K A/\w'=A.setCell ⟨w.heap.size,0,none⟩ (.bool true)) \/
   (e=.returned (.bool false)/\∃A,D A/\w'=(A.setCell ⟨w.heap.size,0,none⟩ (.bool false)).alloc (.cells #[] 293)):=by
 go_enter_defers func189,Tryz.ntmps189
 have hmf:=hmf
 go_wp2_with fail
 clear G;refine u.mono ?_;intro e w' p;cases e with
 |outgrown=>exact p.elim
 |returned v=>
  have H:w'.cell? ⟨w.heap.size,0,none⟩=some (.bool false):=by unfold World.cell?;simp[N w' p]
  have T:w'.frozen? ⟨w.heap.size,0,none⟩=false:=by unfold World.frozen?;simp[N w' p]
  simp only
  go_wp2
  refine cq (f:=253) (args:=#[.pointer (some ⟨w.heap.size,0,none⟩)]) (by simp) (by simp[go_sem])<|(gW ⟨w.heap.size,0,none⟩ _).mono ?_;rintro e V J ⟨rfl,rfl,rfl⟩;simp[Leaves,settle,results,Tryz.results189,go_sem,H];exact⟨w',p,rfl⟩
 |panicked h=>
  obtain⟨rfl,p⟩:=p;have H:w'.cell? ⟨w.heap.size,0,none⟩=some (.bool false):=by unfold World.cell?;simp[q w' p]
  have T:w'.frozen? ⟨w.heap.size,0,none⟩=false:=by unfold World.frozen?;simp[q w' p]
  have y:w.heap.size<w'.heap.size:=(GS.1 (q w' p)).1;refine cq (f:=253) (args:=#[.pointer (some ⟨w.heap.size,0,none⟩)]) (by simp) (by simp[go_sem])<|(gX w.heap.size _ _ y H T).mono ?_;rintro e V J ⟨rfl,rfl,rfl⟩;have L:((w'.setCell ⟨w.heap.size,0,none⟩ (.bool false)).alloc (.cells #[] 293)).cell? ⟨w.heap.size,0,none⟩=some (.bool false):=by
   rw[Fx (q w' p),b9 _ _ _ (by simpa using y)];unfold World.cell?;simp[y]
  simp[Leaves,settle,results,Tryz.results189,go_sem,L];exact⟨w',p,rfl⟩
def L4:NN prog 189 293 4:=λg h p w K q u y A B=>gV g h p w K q u y A B
def Q6 {g: FuncId} {H: Func} {N: Code} (h:prog.funcs[g]? = some H) (p:(H.name=="runtime.NumGoroutine")=false) (q:H.body=some N) (u:Tq4 g [.ref 1 0] [(1, some (.immb t1 C K))] (.ret LL [(1, some (.immb t1 C R))])) :
  Tq4 133 [.fn (.func g) [] [.ref 1 0]] [(1,some (.immb t1 C K))] (.ret (.imm (.int .i64 0)) [(1,some (.immb t1 C R))]):=by
 exact Ac Bv func133 O [2,3,4]<|CZ O<|Ae O (KO func189 (by decide +kernel) O L4 h p q u) A2 O<|Mr [.a] O<|Af ⟨_,rfl,tV O,AG⟩
def SV {g: FuncId} {H: Func} {N: Code} (h:prog.funcs[g]? = some H) (p:(H.name=="runtime.NumGoroutine")=false) (q:H.body=some N) (u:Tq4 g [.ref 1 0] [(1, some (.immb t1 C K))] (.pan Hx)) :
  Tq4 133 [.fn (.func g) [] [.ref 1 0]] [(1,some (.immb t1 C K))] (.ret (.imm (.int .i64 2)) []):=by
 exact Ac Bv func133 O [2,3,4]<|CZ O<|Ae O (MF func189 (by decide +kernel) O L4 h p q u) A2 O<|Mr [.a] O<|Ab O O O
abbrev c7:List (Nat×Nat):=[(1,1),(2,2)]
def bM {g: FuncId} {H: Func} {N: Code} (p:prog.funcs[g]? = some H) (q:(H.name=="runtime.NumGoroutine")=false) (u:H.body=some N) {h: L1 V} (y:Tq4 g [.ref 1 0, .ref 2 0] [(1, some (.immb t1 C K)), (2, some (.immb t2 J x2))] (.ret LL [(1, some (.immb t1 C R)), (2, some (.immb t2 J h))])) :
  Tq4 133 [.fn (.func g) [] [.ref 1 0,.ref 2 0]] [(1,some (.immb t1 C K)),(2,some (.immb t2 J x2))] (.ret (.imm (.int .i64 0)) [(1,some (.immb t1 C R)),(2,some (.immb t2 J h))]):=by
 exact Ac Bv func133 O [3,4,5]<|CZ O<|Ao [] c7 [] O (KO func189 (by decide +kernel) O L4 p q u y) ⟨⟨rfl,rfl,rfl⟩,A2⟩ O O<|Mr [.a] O<|Af ⟨_,rfl,tV O,⟨rfl,AG⟩⟩
def jP {g: FuncId} {H: Func} {N: Code} (h:prog.funcs[g]? = some H) (p:(H.name=="runtime.NumGoroutine")=false) (q:H.body=some N) (u:Tq4 g [.ref 1 0, .ref 2 0] [(1, some (.immb t1 C K)), (2, some (.immb t2 J x2))] (.pan Hx)) :
  Tq4 133 [.fn (.func g) [] [.ref 1 0,.ref 2 0]] [(1,some (.immb t1 C K)),(2,some (.immb t2 J x2))] (.ret (.imm (.int .i64 2)) []):=by
 exact Ac Bv func133 O [3,4,5]<|CZ O<|Ao [] c7 [] O (MF func189 (by decide +kernel) O L4 h p q u) ⟨⟨rfl,rfl,rfl⟩,A2⟩ O O<|Mr [.a] O<|Ab O O O
def OY (b:Bool):V:=.int .i64 (bif b then 0 else 2)
def AW (h:Bool) (t:Y):Bool:=decide (Bn t<=12)&&Dv h t
def iL (t:Y) (p:Bool) (h:AW p t=true):Tq4 246 [.ref 1 0,.ref 2 0] [(1,some (.immb 25 4 (As t))),(2,some (.immb 4 1 [.bool p]))] (.ret LL [(1,some (.immb 25 4 (As t))),(2,some (.immb 4 1 [.bool p]))]):=by simp only[AW,Am,al]at h;exact Ac Bv func246 O [3,4,5]<|CZ O<|Ao [] [(3,1)] [] O (Nx t 12 (by omega) (by decide)) A2 O O<|CZ O<|Ao [] [] [] O (O7 p t h.2) ab O O<|CZ O<|Bw ⟨_,rfl,rfl,AP⟩
def pZ (t:Y) (p:Bool) (h:AW p t=false):Tq4 246 [.ref 1 0,.ref 2 0] [(1,some (.immb 25 4 (As t))),(2,some (.immb 4 1 [.bool p]))] (.pan Hx):=by simp only[AW,OS,decide_eq_false_iff_not]at h;refine Ac Bv func246 O [3,4,5]<|CZ O ?_;by_cases q:Bn t<=12;exact Ao [] [(3,1)] [] O (Nx t 12 (by omega) (by decide)) A2 O O<|CZ O<|AM [] O (by simp) (X0 p t (by simpa[q]using h)) ab O O;exact AM [(3,1)] O (by simp) (iD t 12 (by omega) (by decide) (by decide)) A2 O O
def YB (t:Y) (p:Bool):Tq3 176 [.agg (As t),.bool p] (OY (AW p t)):=by refine Ac Bv func176 O [1,2,3]<|CZ O ?_;cases h:AW p t with|true=>{exact Ao [] c7 [] O (bM func246 (by decide +kernel) O (iL t p h)) zcv O O<|CZ O<|Ab O O O}|false=>{exact Ao [] c7 [] O (jP func246 (by decide +kernel) O (pZ t p h)) zcv O O<|CZ O<|Ab O O O}
def bY (t:Y):Tq3 114 [.agg (As t)] (OY (AW true t)):=by exact Ac Bv func114 O [1,2,3]<|CZ O<|Bt O (YB t true)<|CZ O<|Ab O O O
def Ug (t:Y):Tq3 187 [.agg (As t)] (.bool (AW false t)):=by refine Ac Bv func187 O [1,2,3]<|CZ O<|Bt O (YB t false)<|CZ O<|Ab O O (af _ ?_);cases AW false t<;>rfl
def eqK:V->V->Bool
 |.str a,.str b=>a==b
 |.int _ a,.int _ b=>a==b
 |.bool a,.bool b=>a==b
 |_,_=>false
def Ia:L1 (V×V)->V->Option V
 |[],_=>none
 |(k,d)::r,x=>if eqK x k then some d else Ia r x
def Gn:L1 (V×V)->V->V->L1 (V×V)
 |[],x,d=>[(x,d)]
 |(k,e)::r,x,d=>if eqK x k then(x,d)::r else(k,e)::Gn r x d
def LE:Sh->Option TypeDesc
 |.str=>some .string
 |.int k=>some (.int k)
 |_=>none
def I9:Sh->V->Bool
 |.str,.str _=>true
 |.int k,.int h _=>decide (h=k)
 |_,_=>false
def NF {t:TypeId} {sh:Sh} {p:TypeDesc} (h:LE sh=some p) (q:W9 P t sh):P.underlying t=some p:=by cases sh<;>simp only[LE,reduceCtorEq,Ci]at h<;>subst h<;>exact q
def IS {sh:Sh} {p:TypeDesc} (h:LE sh=some p) (q:I9 sh x=true) (u:M I v x):IsKey p v:=by cases sh<;>simp only[LE,reduceCtorEq,Ci]at h<;>subst h<;>cases x<;>simp[I9]at q<;>cases u<;>simp[IsKey,q]
def zkq {sh:Sh} {u:Value} {y:V} (p:I9 sh x=true) (q:I9 sh y=true) (A:M I v x) (B:M I u y):eqK x y=true↔v=u:=by cases x with|str a=>{cases y with|str b=>obtain⟨s,rfl,rfl⟩:=A.strInv;obtain⟨t,rfl,rfl⟩:=B.strInv;simp only[eqK,ao,Value.string.injEq];constructor;intro h;obtain⟨⟨s⟩⟩:=s;obtain⟨⟨t⟩⟩:=t;simp at h;rw[h];intro h;rw[h]|_=>{cases sh<;>simp[I9]at p q}}|int k i=>{cases y with|int C j=>obtain rfl:=A.intInv;obtain rfl:=B.intInv;cases sh<;>simp[I9]at p q;subst p;subst q;simp[eqK]|_=>{cases sh<;>simp[I9]at p q}}|_=>{cases sh<;>simp[I9]at p}
abbrev L2:=L1 (V×V)
def MI {sh:Sh} {K:TypeDesc} {v:Value} {x:V} (L:LE sh=some K) (N:I9 sh x=true) (R:M I v x):∀(l:L1 MapEntry) (u:L2) (i:Nat),l.length=u.length->(∀(j:Nat) (e:MapEntry) (p:V×V),l[j]?=some e->u[j]?=some p->M I e.key p.1/\M I e.val p.2)->(∀p∈u,I9 sh p.1=true)->(Instr.findNow K v l i=some none/\Ia u x=none/\(∀y,Gn u x y=u++[(x,y)])/\∀e∈l,e.key≠v)\/∃j e y,Instr.findNow K v l i=some (some (i+j,e.val))/\l[j]?=some e/\e.key=v/\Ia u x=some y/\M I e.val y/\∀z,Gn u x z=u.set j (x,z)
 |[],[],i,_,_,_=>.inl ⟨rfl,rfl,λ_=>rfl,λ_ h=>by cases h⟩
 |[],_::_,_,h,_,_=>by simp at h
 |_::_,[],_,h,_,_=>by simp at h
 |e::l,p::u,i,o,h,B=>by let⟨k,s⟩:=h 0 e p rfl rfl;obtain⟨y,m⟩:=p;have C:=B (y,m) (by simp);let⟨r,T,A⟩:=sameNow_of_keys (IS L N R) (IS L C k);have n:=zkq N C R k;cases r with|true=>have D:=A.1 O;have:=n.2 D;exact .inr ⟨0,e,m,by simp[Instr.findNow,T],rfl,D.symm,by simp[Ia,this],s,λz=>by simp[Gn,this]⟩|false=>{have G:v≠e.key:=λq=>by{have:=A.2 q;cases this};have J:eqK x y=false:=by{cases t:eqK x y with|false=>rfl|true=>{exact absurd (n.1 t) G}};rcases MI L N R l u (i+1) (by simpa using o) (λj H W a b=>h (j+1) H W (by simpa using a) (by simpa using b)) (λW w=>B W (by simp[w]))with⟨c,d,f,g⟩|⟨j,H,E,c,d,f,g,F,P⟩;refine .inl ⟨by simp[Instr.findNow,T,c],by simp[Ia,J,d],λz=>by simp[Gn,J,f],λH he'=>?_⟩;rcases Ck.1 he' with rfl|he';exact λq=>G q.symm;exact g H he';exact .inr ⟨j+1,H,E,by simp[Instr.findNow,T,c];omega,by simpa using d,f,by simp[Ia,J,g],F,λz=>by simp[Gn,J,P]⟩}
def pmk (n:Nat) (aa:L1 Nat) (todo:L1 DI):Option (Nat×L1 Nat×Option Nat×L1 DI) :=
 match OK todo,aa with
 |some o,h::ids'=>match o.guard,o.op with
  |none,.makeMap _ none=>match Ce n o.dst,B1 todo ([],[h])with
   |true,some (_,_,q)=>some (h,ids',o.dst,q)
   |_,_=>none
  |_,_=>none
 |_,_=>none
def E5 {y:L1 Nat} {u:L1 DI} (h:pmk n aa todo=some (B,y,d0,u)) (V:G P n F Q u (Ca d0 (.mapr B) env) ((B,some (.map []))::st) y):G P n F Q todo env st aa:=by unfold pmk at h;split at h;rename_i o W ids' b;split at h;rename_i t d A;split at h;rename_i f K q g L;cases h;have H:K=o:=Dp b L;subst H;refine BQ (fr:=[B]) (wr:=[(B,some (.map []))]) (rd:=[]) L ?_ g (λc N=>by rw[A]at N;cases N) V;intro I μ a8 R a w j J k;refine⟨λ_=>?_,λT=>by rw[AJ d]at T;cases T⟩;have C:(execOp a.eval K).run P w=.ok (.value (.map (some w.heap.size))) (w.alloc (.map #[] 0)):=by{simp only[execOp,A,ZZ];refine Fe ?_;simp only[Instr.makeMap,aj,ah,am,dh];rfl};rw[C];let⟨D,l,m,r,s⟩:=J.allocO (.map #[] 0) (.map (some w.heap.size)) (λ_ h=>cw h) (.map []) (λD _=>⟨w.heap.size,#[],0,rfl,Fi w _,rfl,stamped_empty 0,λi e p h=>by simp at h⟩);exact⟨I,D,r,.mapr _ _ l,m,s⟩;cases h;cases h;cases h
def tP {id:Nat} {q:L2} (u:StRep I μ st aa w) (B:Aw st id (.map q)) (C:X I μ v (.mapr id)):∃b es h,v=.map (some b)/\μ id=some v/\w.heap[b]?=some (.map es h)/\es.size=q.length/\Stamped es h/\∀(i:Nat) (e:MapEntry) (p:V×V),es[i]?=some e->q[i]?=some p->M I e.key p.1/\M I e.val p.2:=by cases C with|mapr _ b y=>{obtain⟨g,A,K,es,h,rfl,D,G,H,J⟩:=u.blk id _ B;rw[y]at A;cases A;exact⟨b,es,h,rfl,y,D,G,H,J⟩}
def zch:Op->Option (TypeId×Operand×Operand×Operand)
 |.mapUpdate t m x y=>some (t,m,x,y)
 |.insert t m x y=>some (t,m,x,y)
 |_=>none
def XF {op:Op} {t:TypeId} {m x y:Operand} (h:zch op=some (t,m,x,y)):(op=.mapUpdate t m x y\/op=.insert t m x y)/\∀z∈[m,x,y],z∈op.operands.toList:=by unfold zch at h;split at h;cases h;exact⟨.inl O,by simp[Op.operands]⟩;cases h;exact⟨.inr O,by simp[Op.operands]⟩;cases h
def zlt (L:TT) (env:Env) (st:St) (todo:L1 DI):Option (Nat×L1 (V×V)×Sh×V×V×L1 DI) :=
 match OK todo with
 |some o=>match o.guard,zch o.op with
  |none,some (t,m,x,y)=>match o.dst,lk L t,EM env m,EM env x,EM env y with
   |none,some { sh:=.map h _,.. },some (.mapr id),some (.imm p),some u=>match lk L h,lk st id,B1 todo ([id],[id]),toV u with
    |some i,some (some (.map A)),some (_,_,q),some B=>some (id,A,i.sh,p,B,q)
    |_,_,_,_=>none
   |_,_,_,_,_=>none
  |_,_=>none
 |none=>none
def bd:=@MapKept.run_getObj_map
def bo:=@MapKept.run_checkKey
def bq:=@MapKept.run_findKey
def bz:=@MapKept.run_setObj_map
def dk:=@MapKept.run_keyThatStays
def FD (htt:TTok P L) {J:L2} {sh:Sh} {W:V} {d:V} {H:L1 DI} {dd:TypeDesc} (h:zlt L env st todo=some (B,J,sh,W,d,H)) (hd:LE sh=some dd) (hk:I9 sh W=true) (hkv:∀p∈J,I9 sh p.1=true) (hg:G P n F Q H env ((B,some (.map (Gn J W d)))::st) aa):G P n F Q todo env st aa:=by unfold zlt at h;split at h;rename_i o ho;split at h;rename_i t m x y hgd hop;split at h;rename_i kt et _ _ _ _ id kx' dy' r ht hm hx hy;split at h;rename_i i kv' all o' q vy E hl C hng;cases h;have ho':o'=o:=Dp ho C;subst ho';have hg:G P n F Q H (Ca o'.dst .undef env) ((B,some (.map (Gn J W d)))::st) aa:=by{rw[r];exact hg};refine BQ (fr:=[]) (wr:=[(B,some (.map (Gn J W d)))]) (rd:=[B]) C ?_ (by simp[Ce,r]) (λc hc=>by rcases(XF hop).1 with e|e<;>rw[e]at hc<;>cases hc) hg;intro I μ a8 ids1 a w hag hst hon;refine⟨λ_=>?_,λhw=>by rw[AJ hgd]at hw;cases hw⟩;have K:=Bx hon;let⟨hop2,N⟩:=XF hop;have hl1:Aw a8 B (.map J):=by{unfold Aw;rw[hag B (by simp)];exact hl};let⟨b,es,S,e1,hmu,u,R,s,T⟩:=tP hst hl1 (K m (N m (by simp)) _ hm);have rx:=(K x (N x (by simp)) _ hx).immInv;have ry:=TL hng (K y (N y (by simp)) _ hy);have hu:P.underlying t=some (.map kt et):=htt.sh ht;have f:P.underlying kt=some dd:=NF hd (htt.sh E);have hik:=IS hd hk rx;have hbl:=Cx u;have fin:∀(D:Array MapEntry) (c':Nat),(Instr.mapUpdate t (.map (some b)) (a.eval x) (a.eval y)).run P w=.ok () { w with heap:=w.heap.setIfInBounds b (.map D c') }->D.size=(Gn J W d).length->Stamped D c'->(∀(i:Nat) (e:MapEntry) (p:V×V),D[i]?=some e->(Gn J W d)[i]?=some p->M I e.key p.1/\M I e.val p.2)->valX P ((execOp a.eval o').run P w) (λv w'=>∃I' g,StRep I' g ([(B,some (.map (Gn J W d)))]++a8) ids1 w'/\X I' g v .undef/\μ.le g/\Ext I μ a8 w I' g ([(B,some (.map (Gn J W d)))]++a8) w') (NS (NR Q) I μ a8 w):=by{intro D c' hr A h3 h4;have hrun:(execOp a.eval o').run P w=.ok .skip { w with heap:=w.heap.setIfInBounds b (.map D c') }:=by{rcases hop2 with e|e<;>(simp only[execOp,e,e1];simp[hr])};rw[hrun];let⟨q1,q2⟩:=hst.update (blk':=.map (Gn J W d)) (w':={ w with heap:=w.heap.setIfInBounds b (.map D c') }) hl1 hmu (by rw[e1];rfl) (by simp) O O O (λk hk=>Hd (b7 hk)) ⟨b,D,c',e1,by simp[hbl],A,h3,h4⟩;exact⟨I,μ,q1,.undef _,Mu.le_refl μ,q2⟩};rcases MI (I:=I) hd hk rx es.toList J 0 (by simpa using R) (λj e p C A=>T j e p (by simpa using C) A) hkv with⟨q1,_,q3,q4⟩|⟨j,e,y',q1,q2,q3,_,q5,q6⟩;refine fin _ _ ?_ (by rw[q3];simp[R]) (stamped_push s (key:=a.eval x) (val:=a.eval y) q4) λi e p C A=>?_;simp[Instr.mapUpdate,ak hu,bd u,bo f hik,bq f q1,bz _ u,Result.andThen];rw[q3]at A;rw[Vq]at C;rw[OV]at A;by_cases E:i=es.size;rw[ae E]at C;cases C;rw[ac (by omega)]at A;rw[show i-J.length=0 by omega]at A;cases A;exact⟨rx,ry⟩;rw[ac E]at C;have:=(GS.1 C).1;rw[ae (by omega)]at A;exact T i e p C A;have hj:es[j]?=some e:=by{simpa using q2};have hkey:∀z,es[j]?=some z->({ z with key:=a.eval x,val:=a.eval y }:MapEntry).key=z.key:=λz l=>by{rw[hj]at l;cases l;exact q3.symm};refine fin (es.modify j λe=>{ e with key:=a.eval x,val:=a.eval y }) S ?_ (by rw[q6];simp[R]) (stamped_modify s _ _ (λ_ _=>rfl) (λz _ l=>hkey z l)) λi z p C A=>?_;simp[Instr.mapUpdate,ak hu,bd u,bo f hik,bq f q1,hj,q3,dk hik,bz _ u,Result.andThen];rw[q6]at A;rw[ZY]at C;rw[ZV]at A;by_cases E:j=i;subst E;rw[ae O,hj]at C;cases C;rw[ae O]at A;split at A;cases A;exact⟨rx,ry⟩;cases A;rw[ac E]at C A;exact T i z p C A;cases h;cases h;cases h;cases h
structure PMl where
 kv:List (V×V)
 sh:Sh
 kx:V
 et:TypeId
 two:Bool
 g:Option (Bool×Bool)
 ob:List Prop
 t:Nat
 todo:List DI
def zdk (L:TT) (n:Nat) (env:Env) (st:St) (nm:Nat) (todo:L1 DI):Option PMl :=
 match B1 todo ([nm],[])with
 |some (h,o,q)=>match o.op,CF h env o with
  |.lookup t m k p,some g=>match lk L t,Pm (Ap g) env m,Pm (Ap g) env k with
   |some { sh:=.map u y,.. },some (.mapr id,A),some (.imm B,C)=>match Nat.beq id nm,lk L u,lk st id,Ce n o.dst with
    |true,some i,some (some (.map D)),true=>match o.dst with
     |some t=>some ⟨D,i.sh,B,y,p,g,Lb A C,t,q⟩
     |none=>none
    |_,_,_,_=>none
   |_,_,_=>none
  |_,_=>none
 |none=>none
def H8 {t:TypeId} (h:(P.info? t).bind (·.zero)=some z):(zeroValue t).run P w=.ok z w:=by cases p:P.info? t with|none=>rw[p]at h;cases h|some q=>{rw[p]at h;have h:q.zero=some z:=h;simp[zeroValue,typeInfo,p,h]}
def He (h:Bool) (p:L1 (V×V)) (x:V) (zd:V):D :=
 let r:=match Ia p x with
  |some y=>(y,true)
  |none=>(zd,false)
 if h then .imm (.tup [r.1,.bool r.2])else .imm r.1
def Dd (l:TTok P L) (nm:Nat) {R:L2} {sh:Sh} {f:V} {et:TypeId} {y:Bool} {t0:Nat} {A:L1 DI} {dd:TypeDesc} {zd:V} {dr:D} (h:zdk L n env st nm todo=some ⟨R,sh,f,et,y,g,ob,t0,A⟩) (hd:LE sh=some dd) (hk:I9 sh f=true) (hkv:∀p∈R,I9 sh p.1=true) (hob:A8 ob) (hz:(P.info? et).bind (·.zero)=some z) (hzr:∀I,M I z zd) (hdr:He y R f zd=dr) (hg:G P n F Q A ((t0,gD g dr)::env) st aa):G P n F Q todo env st aa:=by unfold zdk at h;split at h;rename_i all o q h1;split at h;rename_i t m k two' g' T hgd;split at h;rename_i kt et' _ _ _ _ id o1 kx' o2 ht hm H;split at h;rename_i i kv' W hi hl hdo;split at h;rename_i t' r;cases h;have W:=CU W;subst W;subst hdr;have hg:G P n F Q A (Ca o.dst (gD g (He y R f zd)) env) st aa:=by{rw[r];exact hg};refine BQ (fr:=[]) (wr:=[]) (rd:=[id]) h1 (Ea hgd λI μ a8 s a w hag E B S=>?_) hdo (λc J=>by rw[T]at J;cases J) hg;rw[T]at B;let⟨ho1,ho2⟩:=BL hob;have rm:=E6 hm ho1 S (B m (by simp[Op.operands]));have rx:=(E6 H ho2 S (B k (by simp[Op.operands]))).immInv;have hl1:Aw a8 id (.map R):=by{unfold Aw;rw[hag id (by simp)];exact hl};let⟨b,es,clock,e1,hmu,C,hlen,hst2,hent⟩:=tP E hl1 rm;have hu:P.underlying t=some (.map kt et):=l.sh ht;have K:P.underlying kt=some dd:=NF hd (l.sh hi);have hik:=IS hd hk rx;have fin:∀(v:Value) (ok:Bool) (d:V),(Instr.lookup t (.map (some b)) (a.eval k) y).run P w=.ok (if y then .tuple #[v,.bool ok]else v) w->M I v d->He y R f zd=(if y then .imm (.tup [d,.bool ok])else .imm d)->valX P ((execOp a.eval o).run P w) (λu w'=>∃I' N,StRep I' N a8 s w'/\X I' N u (He y R f zd)/\μ.le N/\Ext I μ a8 w I' N a8 w') (NS (NR Q) I μ a8 w):=by{intro v ok d hr hv he;have hrun:(execOp a.eval o).run P w=.ok (.value (if y then .tuple #[v,.bool ok]else v)) w:=by{simp only[execOp,T,e1];exact AE hr};rw[hrun];refine⟨I,μ,E,?_,Mu.le_refl μ,Ext.refl _ _ _ _⟩;rw[he];cases y with|false=>exact .imm _ _ hv|true=>{refine .imm _ _ (.tup _ _ O λi c x J H=>?_);match i,J,H with|0,J,H=>cases J;cases H;exact hv|1,J,H=>cases J;cases H;exact .bool _|i+2,J,H=>{simp at H}}};rcases MI (I:=I) hd hk rx es.toList R 0 (by simpa using hlen) (λj e p h1 h2=>hent j e p (by simpa using h1) h2) hkv with⟨q1,q2,_,_⟩|⟨j,e,y',q1,q2,q3,q4,q5,q6⟩;refine fin z false zd ?_ (hzr I) (by simp[He,q2]);simp[Instr.lookup,ak hu,bd C,bo K hik,bq K q1,H8 hz,Result.andThen];refine fin e.val true y' ?_ q5 (by simp[He,q4]);simp[Instr.lookup,ak hu,bd C,bo K hik,bq K q1,Result.andThen];cases h;cases h;cases h;cases h;cases h
def wK:TT:=wI++[
 (139,⟨.map 9 4,false,1,8,[.imm .nilmap]⟩)]
def IX:TTok prog wK:=.of_eq (l:=[4,3,9,49,25,182,45,47,5,23,22,73,46,180,71,43,178,40,41,113,111,28,293,195,1,139]) (by kernel_rfl)
def pd (p:L1 Pt) (h:run wK n 300 p todo env st aa []=.at k u au ids' ob) (q:A8 ob) (y:Tq1 n F Q k u au ids'):Tq2 n F Q todo env st aa:=JY IX mixed 300 p h q y
def mO (h:run wK n 300 [] todo env st aa []=.at k u au ids' ob) (q:Tq1 n F Q k u au ids') (p:A8 ob:=by simp):Tq2 n F Q todo env st aa:=pd [] h p q
def pg (p:L1 Pt) (h:run wK n 300 p todo env st aa []=.at k u au ids' ob) (q:A8 ob) (y:Tq1 n F Q k u au ids'):Tq1 n F Q todo env st aa:=Iw IX mixed 300 p h q y
def cE (p:L1 Pt) (h:run wK n 300 p todo env st aa []=.at k u au ids' ob) (y:Tq1 n F Q k u au ids') (q:A8 ob:=by simp):Tq1 n F Q todo env st aa:=pg p h q y
def OG (h:run wK n 300 [] todo env st aa []=.at k u au ids' ob) (q:Tq1 n F Q k u au ids') (p:A8 ob:=by simp):Tq1 n F Q todo env st aa:=pg [] h p q
def eK (h:run wK n 300 [] todo env st aa []=.at k u au ids' ob) (q:Tq1 n F Q k u au ids') (p:A8 ob:=by simp[Ap]):Tq1 n F Q todo env st aa:=pg [] h p q
def pi (h:Fm wK n env todo=some ⟨es,m,sz,e,g,ob,some t,q⟩) (u:Ap g->0<=m/\es[m.toNat]?=some c/\c.length=sz) (p:A8 ob) (y:Tq1 n F Q q ((t,gD g (.ip e c 0))::env) st aa):Tq1 n F Q todo env st aa:=G4 IX h u p y
def piz (h:Fm wK n env todo=some ⟨es,(i:Int),sz,e,g,ob,some t,q⟩) (u:es[i]?=some c) (y:Tq1 n F Q q ((t,gD g (.ip e c 0))::env) st aa) (A:c.length=sz:=by simp) (p:A8 ob:=by simp):Tq1 n F Q todo env st aa:=pi h (λ_=>⟨by omega,by simpa using u,A⟩) p y
def pizc (h:Fm wK n env todo=some ⟨es,(i:Int),sz,e,g,ob,some t,q⟩) (u:es[i]?=some c) (y:Tq1 n F Q q ((t,gD g (.ip e c 0))::env) st aa) (A:c.length=sz:=by simp) (p:A8 ob:=by simp[Ap]):Tq1 n F Q todo env st aa:=pi h (λ_=>⟨by omega,by simpa using u,A⟩) p y
def E3 (l:L1 Z):L1 (V×V):=l.map λs=>(.str s,.bool true)
def WK (l:L1 Z):Blk:=.map (E3 l)
def EC (l:L1 Z):∀p∈E3 l,I9 .str p.1=true:=by intro p h;obtain⟨s,_,rfl⟩:=C7.1 h;rfl
def zhi (s x:Z):(s==x)=(x==s):=by rw[FC,ao,ao];exact⟨cw,cw⟩
def wX (l:L1 Z) (s:Z):Ia (E3 l) (.str s)=if Bm l s then some (.bool true)else none:=by induction l with|nil=>rfl|cons x r p=>{simp only[E3,C0,Ia,eqK,Bm]at p ⊢;rw[p];by_cases h:x=s;subst h;simp;have q:(s==x)=false:=by{simpa using λe=>h e.symm};have u:(x==s)=false:=by{simpa using h};simp[q,u]}
def IN (l:L1 Z) (s:Z):He false (E3 l) (.str s) (.bool false)=.imm (.bool (Bm l s)):=by simp only[He,wX];cases Bm l s<;>rfl
def U6 (l:L1 Z) (s:Z) (h:Bm l s=false):Gn (E3 l) (.str s) (.bool true)=E3 (l++[s]):=by induction l with|nil=>rfl|cons x r p=>{simp only[Bm,Lu]at h;have q:(s==x)=false:=by{rw[zhi];exact h.1};simp only[E3,C0,Gn,eqK,q,Dj]at p ⊢;simp[p h.2]}
def Ir:∀(a b p:L1 Z),BU p (a++b)=(BU p a&&BU (p++a) b)
 |[],b,p=>by simp[BU]
 |x::r,b,p=>by simp[BU,Ir r b (p++[x]),OT]
def QQ:∀(t:Y) (p:L1 Z),(BI t&&BU p (AS t))=true->Tq4 285 [.imm (.agg (As t)),.mapr 1] [(1,some (WK p))] (.ret LL [(1,some (WK (p++AS t)))])
 |.mk s n x q,p,H=>by refine FT 0 O λD=>?_;have e:q.length<=9223372036854775807:=by{simp[D8,Gy,As,maxLen]at D;have:=D.1;omega};refine Ac IX func285 O [2,3,4] ?_;have J:∀C:L1 Z,(BX q&&BU C (AI q))=true->C++AI q=p++AS (.mk s n x q)->Tq2 Tryz.f285.ntmps (CT [(1,some (WK p))]) (KZ wK Tryz.f285.results.toList (.ret LL [(1,some (WK (p++AS (.mk s n x q))))])) [.code (ES Tryz.f285 2)] [(1,.mapr 1),(2,.ref 2 0)] [(2,some (.immb 182 4 (As (.mk s n x q)))),(1,some (WK C))] [3,4]:=by{intro C H L;refine mO O<|Al (λi:Nat=>[(113,i7 i),(112,i7 q.length),(111,.imm (.sl (A4 q))),(1,.mapr 1),(2,.ref 2 0)]) (λi=>[(2,some (.immb 182 4 (As (.mk s n x q)))),(1,some (WK (C++AI (q.take i))))]) [3,4] (λi=>q.length-i) (λi=>i<=q.length/\(BX (q.drop i)&&BU (C++AI (q.take i)) (AI (q.drop i)))=true) 0 ⟨AK _,by simpa[AI]using H⟩ ⟨rfl,B8 (by simp),AC⟩ ⟨rfl,by simp[AI];rfl,ab⟩ O λi c d=>?_;refine mO O ?_;have u:=c.2;refine Aa O (λh=>?_) (λh=>?_);simp at h;let⟨t,K⟩:=At h;have G:AI (q.take (i+1))=AI (q.take i)++AS t:=by{rw[Ba K,G0];simp[AI]};rw[Au K]at u;simp only[BX,AI,Ir]at u;exact mO O<|piz O (AQ K)<|OG O<|Ae O (QQ t (C++AI (q.take i)) (by simp only[Am]at u ⊢;exact⟨u.1.1,u.2.1⟩)) A2 O<|OG O<|Ad (d (i+1) (by omega) ⟨by omega,by rw[G,<- Cl];simp only[Am]at u ⊢;exact⟨u.1.2,u.2.2⟩⟩) ⟨Bf,B0⟩ ⟨rfl,by rw[G,<- Cl];rfl,ab⟩ O;refine mO O ?_;simp at h;refine Bw ⟨_,rfl,rfl,⟨?_,ab⟩⟩;rw[CA (by omega),L];rfl};simp only[BI,Am]at H;obtain⟨⟨y,B⟩,A⟩:=H;by_cases N:s=1;{subst N;simp[Fc,DP]at y;exact pg [.a,.a] O (by simp[Ap]<;>grind)<|Ah O (Cf _ (by simp[Bb]at y ⊢;grind))<|cE [.s] O<|Ad (J p (by simpa[AS,B]using A) (by simp[AS])) AP AP O};by_cases R:s=5;{subst R;simp[Fc,DP]at y;exact pg [.a,.a] O (by simp[Ap]<;>grind)<|Ah O (Cf _ (by simp[Bb]at y ⊢;grind))<|cE [.s] O<|Ad (J p (by simpa[AS,B]using A) (by simp[AS])) AP AP O};by_cases T:s=3;{subst T;simp[Fc,DP]at y;exact pg [.a,.a,.a,.a] O (by simp[Ap]<;>grind)<|Bt O (Lx n)<|eK O<|Ah O (Cf _ (by simp[Bb]at y ⊢;grind))<|cE [.s] O<|Ad (J p (by simpa[AS,B]using A) (by simp[AS])) AP AP O};by_cases V:s=4;{subst V;simp[Fc,DP]at y;exact pg (D7 4 [.a]) O (by simp[Ap]<;>grind)<|Ah O (Cf _ (by obtain⟨⟨rfl,rfl⟩,f,g⟩:=y;have:n=0\/n=1:=(by omega);rcases this with rfl|rfl<;>simp))<|cE [.s] O<|Ad (J p (by simpa[AS,B]using A) (by simp[AS])) AP AP O};by_cases W:s=6;{subst W;simp[Fc,DP]at y;exact pg (D7 5 [.a]) O (by simp[Ap]<;>grind)<|Bt O (FM x)<|eK O<|Ah O (Cf _ (by simp[Bb]at y ⊢;grind))<|cE [.s] O<|Ad (J p (by simpa[AS,B]using A) (by simp[AS])) AP AP O};by_cases a:s=2;{subst a;simp[Fc,DP]at y;refine pg [.a,.a,.a] O (by simp[Ap]<;>grind)<|Bt O (Gk x)<|eK O ?_;have b:Bm p x=false:=by{simpa[AS,BU]using A};refine Dd IX 1 O O O (EC p) (by simp[Ap]) (z:=.bool false) O (λ_=>.bool _) (IN p x)<|eK O<|Ah O (Cf _ (by simp at y ⊢;rw[b];grind))<|OG O<|FD IX O O O (EC p) ?_;rw[U6 p x b];have L:q=[]:=by{simpa using y.1.1};subst L;exact cE [.s] O<|Ad (J (p++[x]) (by simp[BX,AI,BU]) (by simp[AS,AI])) AP AP O};exfalso;simp[Fc,N,a,T,V,R,W]at y
termination_by t=>SizeOf.sizeOf t
decreasing_by all_goals(have:=Cr (AF K);simp_wf;omega)
def cM:∀(t:Y) (p:L1 Z),(BI t&&BU p (AS t))=false->Tq4 285 [.imm (.agg (As t)),.mapr 1] [(1,some (WK p))] (.pan Hx)
 |.mk s n x q,p,B=>by refine FT 0 O λD=>?_;have e:q.length<=9223372036854775807:=by{simp[D8,Gy,As,maxLen]at D;have:=D.1;omega};refine Ac IX func285 O [2,3,4] ?_;have J:∀C:L1 Z,(BX q&&BU C (AI q))=false->Tq2 Tryz.f285.ntmps (CT [(1,some (WK p))]) (KZ wK Tryz.f285.results.toList (.pan Hx)) [.code (ES Tryz.f285 2)] [(1,.mapr 1),(2,.ref 2 0)] [(2,some (.immb 182 4 (As (.mk s n x q)))),(1,some (WK C))] [3,4]:=by{intro C B;refine mO O<|Al (λi:Nat=>[(113,i7 i),(112,i7 q.length),(111,.imm (.sl (A4 q))),(1,.mapr 1),(2,.ref 2 0)]) (λi=>[(2,some (.immb 182 4 (As (.mk s n x q)))),(1,some (WK (C++AI (q.take i))))]) [3,4] (λi=>q.length-i) (λi=>i<=q.length/\(BX (q.drop i)&&BU (C++AI (q.take i)) (AI (q.drop i)))=false) 0 ⟨AK _,by simpa[AI]using B⟩ ⟨rfl,B8 (by simp),AC⟩ ⟨rfl,by simp[AI];rfl,ab⟩ O λi b c=>?_;refine mO O ?_;have A:=b.2;refine Aa O (λh=>?_) (λh=>?_);simp at h;let⟨t,K⟩:=At h;have G:AI (q.take (i+1))=AI (q.take i)++AS t:=by{rw[Ba K,G0];simp[AI]};rw[Au K]at A;simp only[BX,AI,Ir]at A;refine mO O<|piz O (AQ K)<|OG O ?_;by_cases H:(BI t&&BU (C++AI (q.take i)) (AS t))=true;exact Ae O (QQ t (C++AI (q.take i)) H) A2 O<|OG O<|Ad (c (i+1) (by omega) ⟨by omega,by rw[G,<- Cl];simp only[Am]at H;rw[H.1,H.2]at A;simpa using A⟩) ⟨Bf,B0⟩ ⟨rfl,by rw[G,<- Cl];rfl,ab⟩ O;exact AM [(1,1)] O (by simp) (cM t (C++AI (q.take i)) (by simpa using H)) A2 O O;exfalso;simp at h;rw[Bu (by omega)]at A;simp[BX,AI,BU]at A};by_cases L:s=1;{subst L;refine pg [.a,.a] O (by simp[Ap]<;>grind) ?_;by_cases u:Fc 1 n x q.length=true;{have y:(BX q&&BU p (AI q))=false:=by{simpa[BI,u,AS]using B};simp[Fc,DP]at u;exact Ah O (Cf _ (by simp[Bb]at u ⊢;grind))<|cE [.s] O<|Ad (J p y) AP AP O};{simp[Fc,DP]at u;exact AM [] O (by simp) (CM _ (by simp[Bb]at u ⊢;grind)) ab O O}};by_cases N:s=5;{subst N;refine pg [.a,.a] O (by simp[Ap]<;>grind) ?_;by_cases u:Fc 5 n x q.length=true;{have y:(BX q&&BU p (AI q))=false:=by{simpa[BI,u,AS]using B};simp[Fc,DP]at u;exact Ah O (Cf _ (by simp[Bb]at u ⊢;grind))<|cE [.s] O<|Ad (J p y) AP AP O};{simp[Fc,DP]at u;exact AM [] O (by simp) (CM _ (by simp[Bb]at u ⊢;grind)) ab O O}};by_cases R:s=3;{subst R;refine pg [.a,.a,.a,.a] O (by simp[Ap]<;>grind)<|Bt O (Lx n)<|eK O ?_;by_cases u:Fc 3 n x q.length=true;{have y:(BX q&&BU p (AI q))=false:=by{simpa[BI,u,AS]using B};simp[Fc,DP]at u;exact Ah O (Cf _ (by simp[Bb]at u ⊢;grind))<|cE [.s] O<|Ad (J p y) AP AP O};{simp[Fc,DP]at u;exact AM [] O (by simp) (CM _ (by simp[Bb]at u ⊢;grind)) ab O O}};by_cases T:s=4;{subst T;refine pg (D7 4 [.a]) O (by simp[Ap]<;>grind) ?_;by_cases u:Fc 4 n x q.length=true;have y:(BX q&&BU p (AI q))=false:=by{simpa[BI,u,AS]using B};simp[Fc,DP]at u;exact Ah O (Cf _ (by obtain⟨⟨rfl,rfl⟩,f,g⟩:=u;have:n=0\/n=1:=(by omega);rcases this with rfl|rfl<;>simp))<|cE [.s] O<|Ad (J p y) AP AP O;{simp[Fc,DP]at u;exact AM [] O (by simp) (CM _ (by simp[Bb]at u ⊢;grind)) ab O O}};by_cases V:s=6;{subst V;refine pg (D7 5 [.a]) O (by simp[Ap]<;>grind)<|Bt O (FM x)<|eK O ?_;by_cases u:Fc 6 n x q.length=true;{have y:(BX q&&BU p (AI q))=false:=by{simpa[BI,u,AS]using B};simp[Fc,DP]at u;exact Ah O (Cf _ (by simp[Bb]at u ⊢;grind))<|cE [.s] O<|Ad (J p y) AP AP O};{simp[Fc,DP]at u;exact AM [] O (by simp) (CM _ (by simp[Bb]at u ⊢;grind)) ab O O}};by_cases W:s=2;{subst W;refine pg [.a,.a,.a] O (by simp[Ap]<;>grind)<|Bt O (Gk x)<|eK O<|Dd IX 1 O O O (EC p) (by simp[Ap]) (z:=.bool false) O (λ_=>.bool _) (IN p x)<|eK O<|AM [] O (by simp) (CM _ ?_) ab O O;simp[BI,Fc,AS,BU]at B;cases d:Bm p x with|true=>simp|false=>{simp only[d]at B;by_cases a:q=[];{subst a;simp[BX]at B ⊢;grind};simp[a]}};exact pg [.f,.f,.f,.f,.f,.f] O (by simp[L,W,R,T,N,V])<|AM [] O (by simp) (CM _ O) ab O O
termination_by t=>SizeOf.sizeOf t
decreasing_by all_goals(have:=Cr (AF K);simp_wf;omega)
def Dr (t:Y):Bool:=decide (Bn t<=12)&&(BI t&&JV (AS t))
def Xj (t:Y) (h:Dr t=true):Tq4 283 [.ref 1 0] [(1,some (.immb 182 4 (As t)))] (.ret LL [(1,some (.immb 182 4 (As t)))]):=by simp only[Dr,Am,al]at h;exact Ac IX func283 O [2,3,4]<|OG O<|Ao [] [(2,1)] [] O (Qk t 12 (by omega) (by decide)) A2 O O<|OG O<|E5 O<|OG O<|Ao [] [(3,1)] [] O (QQ t [] (by simpa[JV]using h.2)) A2 O O<|OG O<|Bw ⟨_,rfl,rfl,AG⟩
def bN (t:Y) (h:Dr t=false):Tq4 283 [.ref 1 0] [(1,some (.immb 182 4 (As t)))] (.pan Hx):=by refine Ac IX func283 O [2,3,4]<|OG O ?_;by_cases p:Bn t<=12;exact Ao [] [(2,1)] [] O (Qk t 12 (by omega) (by decide)) A2 O O<|OG O<|E5 O<|OG O<|AM [(3,1)] O (by simp) (cM t [] (by simpa[Dr,p,JV]using h)) A2 O O;exact AM [(2,1)] O (by simp) (uH t 12 (by omega) (by decide) (by decide)) A2 O O
def Tj (t:Y):Tq3 257 [.agg (As t)] (OY (Dr t)):=by refine Ac IX func257 O [1,2,3]<|OG O ?_;cases h:Dr t with|true=>{exact Ae O (Q6 func283 (by decide +kernel) O (Xj t h)) A2 O<|OG O<|Ab O O O}|false=>{exact Ae O (SV func283 (by decide +kernel) O (bN t h)) A2 O<|OG O<|Ab O O O}
def wJ:TT:=wK++[
 (296,⟨.struct [(0,4),(1,4),(2,4),(3,3)],true,4,16,[.imm (.bool false),.imm (.bool false),.imm (.bool false),.imm (.int .i64 0)]⟩)]
def IW:TTok prog wJ:=.of_eq (l:=[4,3,9,49,25,182,45,47,5,23,22,73,46,180,71,43,178,40,41,113,111,28,293,195,1,139,296]) (by kernel_rfl)
def sd (p:L1 Pt) (h:run wJ n 300 p todo env st aa []=.at k u au ids' ob) (q:A8 ob) (y:Tq1 n F Q k u au ids'):Tq2 n F Q todo env st aa:=JY IW mixed 300 p h q y
def zlj (p:L1 Pt) (h:run wJ n 300 p todo env st aa []=.at k u au ids' ob) (y:Tq1 n F Q k u au ids') (q:A8 ob:=by simp):Tq2 n F Q todo env st aa:=sd p h q y
def Tl (h:run wJ n 300 [] todo env st aa []=.at k u au ids' ob) (q:Tq1 n F Q k u au ids') (p:A8 ob:=by simp):Tq2 n F Q todo env st aa:=sd [] h p q
def zo2 (h:run wJ n 300 [] todo env st aa []=.at k u au ids' ob) (q:Tq1 n F Q k u au ids') (p:A8 ob:=by simp[Ap]):Tq2 n F Q todo env st aa:=sd [] h p q
def sg (p:L1 Pt) (h:run wJ n 300 p todo env st aa []=.at k u au ids' ob) (q:A8 ob) (y:Tq1 n F Q k u au ids'):Tq1 n F Q todo env st aa:=Iw IW mixed 300 p h q y
def XB (p:L1 Pt) (h:run wJ n 300 p todo env st aa []=.at k u au ids' ob) (y:Tq1 n F Q k u au ids') (q:A8 ob:=by simp):Tq1 n F Q todo env st aa:=sg p h q y
def Gf (h:run wJ n 300 [] todo env st aa []=.at k u au ids' ob) (q:Tq1 n F Q k u au ids') (p:A8 ob:=by simp):Tq1 n F Q todo env st aa:=sg [] h p q
def cF (p:L1 Pt) (h:run wJ n 300 p todo env st aa []=.at k u au ids' ob) (y:Tq1 n F Q k u au ids') (q:A8 ob:=by simp[Ap]):Tq1 n F Q todo env st aa:=sg p h q y
def si (h:Fm wJ n env todo=some ⟨es,m,sz,e,g,ob,some t,q⟩) (u:Ap g->0<=m/\es[m.toNat]?=some c/\c.length=sz) (p:A8 ob) (y:Tq1 n F Q q ((t,gD g (.ip e c 0))::env) st aa):Tq1 n F Q todo env st aa:=G4 IW h u p y
def siz (h:Fm wJ n env todo=some ⟨es,(i:Int),sz,e,g,ob,some t,q⟩) (u:es[i]?=some c) (y:Tq1 n F Q q ((t,gD g (.ip e c 0))::env) st aa) (A:c.length=sz:=by simp) (p:A8 ob:=by simp):Tq1 n F Q todo env st aa:=si h (λ_=>⟨by omega,by simpa using u,A⟩) p y
def sizc (h:Fm wJ n env todo=some ⟨es,(i:Int),sz,e,g,ob,some t,q⟩) (u:es[i]?=some c) (y:Tq1 n F Q q ((t,gD g (.ip e c 0))::env) st aa) (A:c.length=sz:=by simp) (p:A8 ob:=by simp[Ap]):Tq1 n F Q todo env st aa:=si h (λ_=>⟨by omega,by simpa using u,A⟩) p y
structure Has where
 n:Bool
 text:Bool
 pats:Bool
 kids:Int
 is:Bool
def AY (op:Int) (k p:Nat):Has :=
 if op=1\/op=2 then⟨true,false,false,0,true⟩
 else if op=3\/op=21\/op=25\/op=28 then⟨false,false,false,0,true⟩
 else if op=4 then⟨false,true,false,0,true⟩
 else if op=5\/op=27 then⟨false,true,false,1,true⟩
 else if op=7 then⟨false,true,false,2,true⟩
 else if op=8 then⟨false,false,false,3,true⟩
 else if op=14 then⟨false,true,false,(if(3:Int)<k then 3 else k),true⟩
 else if op=15 then⟨false,false,true,(IntKind.i64.wrap (1+(p:Int))),true⟩
 else if op=16\/op=17\/op=19\/op=20\/op=23\/op=26 then⟨false,false,false,1,true⟩
 else if op=24 then⟨true,false,false,1,true⟩
 else if op=6\/op=9\/op=10\/op=11\/op=12\/op=13\/op=18\/op=22 then⟨false,false,false,2,true⟩
 else⟨false,false,false,0,false⟩
def F9 (h:Has):L1 V:=[.bool h.n,.bool h.text,.bool h.pats,.int .i64 h.kids]
def dF (op n:Int) (x:Z) (ks:L1 Tm) (ps:L1 Y):Tq3 255 [.agg (dTmc (.mk op n x ks ps))] (.tup [.agg (F9 (AY op ks.length ps.length)),.bool (AY op ks.length ps.length).is]):=by refine BH λk=>?_;simp[D8,Gy,dTmc,maxLen]at k;refine Ac IW func255 O [1,2,3] ?_;by_cases a:op=1;subst a;refine XB [.a,.a] O<|Ab O O ?_;simp[AY,F9];by_cases b:op=2;subst b;refine XB [.a,.a] O<|Ab O O ?_;simp[AY,F9];by_cases c:op=3;subst c;refine XB [.a,.a,.a,.a] O<|Ab O O ?_;simp[AY,F9];by_cases h:op=21;subst h;refine XB (D7 4 [.a]) O<|Ab O O ?_;simp[AY,F9];by_cases p:op=25;subst p;refine XB (D7 5 [.a]) O<|Ab O O ?_;simp[AY,F9];by_cases q:op=28;subst q;refine XB (D7 5 [.a]) O<|Ab O O ?_;simp[AY,F9];by_cases d:op=4;subst d;refine XB (D7 6 [.a]) O<|Ab O O ?_;simp[AY,F9];by_cases e:op=5;subst e;refine XB (D7 8 [.a]) O<|Ab O O ?_;simp[AY,F9];by_cases u:op=27;subst u;refine XB (D7 8 [.a]) O<|Ab O O ?_;simp[AY,F9];by_cases f:op=7;subst f;refine XB (D7 9 [.a]) O<|Ab O O ?_;simp[AY,F9];by_cases g:op=8;subst g;refine XB (D7 10 [.a]) O<|Ab O O ?_;simp[AY,F9];by_cases y:op=14;subst y;refine XB (D7 11 [.a]) O<|Ab O O ?_;simp[AY,F9];by_cases A:op=15;subst A;refine XB (D7 12 [.a]) O<|Ab O O ?_;simp[AY,F9];by_cases B:op=16;subst B;refine XB (D7 14 [.a]) O<|Ab O O ?_;simp[AY,F9];by_cases C:op=17;subst C;refine XB (D7 15 [.a]) O<|Ab O O ?_;simp[AY,F9];by_cases D:op=19;subst D;refine XB (D7 16 [.a]) O<|Ab O O ?_;simp[AY,F9];by_cases G:op=20;subst G;refine XB (D7 17 [.a]) O<|Ab O O ?_;simp[AY,F9];by_cases H:op=23;subst H;refine XB (D7 18 [.a]) O<|Ab O O ?_;simp[AY,F9];by_cases J:op=26;subst J;refine XB (D7 18 [.a]) O<|Ab O O ?_;simp[AY,F9];by_cases K:op=24;subst K;refine XB (D7 19 [.a]) O<|Ab O O ?_;simp[AY,F9];by_cases i:op=6;subst i;refine XB (D7 21 [.a]) O<|Ab O O ?_;simp[AY,F9];by_cases j:op=9;subst j;refine XB (D7 22 [.a]) O<|Ab O O ?_;simp[AY,F9];by_cases L:op=10;subst L;refine XB (D7 23 [.a]) O<|Ab O O ?_;simp[AY,F9];by_cases N:op=11;subst N;refine XB (D7 24 [.a]) O<|Ab O O ?_;simp[AY,F9];by_cases R:op=12;subst R;refine XB (D7 25 [.a]) O<|Ab O O ?_;simp[AY,F9];by_cases T:op=13;subst T;refine XB (D7 26 [.a]) O<|Ab O O ?_;simp[AY,F9];by_cases V:op=18;subst V;refine XB (D7 27 [.a]) O<|Ab O O ?_;simp[AY,F9];by_cases W:op=22;subst W;refine XB (D7 27 [.a]) O<|Ab O O ?_;simp[AY,F9];refine sg [.f,.f,.f,.f,.f,.f,.f,.f,.f,.f,.f,.f,.f,.f,.f,.f,.f,.f,.f,.f,.f,.f,.f,.f,.f,.f,.f,.f] O (by simp[a,b,c,h,p,q,d,e,u,f,g,y,A,B,C,D,G,H,J,K,i,j,L,N,R,T,V,W])<|Ab O O ?_;simp[AY,F9,a,b,c,h,p,q,d,e,u,f,g,y,A,B,C,D,G,H,J,K,i,j,L,N,R,T,V,W]
def DC (op n:Int) (x:Z) (k p:Nat):Bool:=let h:=AY op k p
 h.is&&((k:Int)==h.kids)&&(h.n||n==0)&&(h.text||x==[])&&(h.pats||(p:Int)==0)
def CY (op:Int) (x:Z) (k p:Nat):Bool:=!((AY op k p).text&&op != 14)||BV x
def E7 (op n:Int) (x:Z) (ks:L1 Tm) (ps:L1 Y) (p:CY op x ks.length ps.length=true):Tq2 Tryz.f191.ntmps (CT []) (KZ wJ Tryz.f191.results.toList (.ret LL [])) [.code (ES Tryz.f191 4)] [(1,.ref 1 0),(2,.ref 2 0)] [(2,some (.immb 296 4 (F9 (AY op ks.length ps.length)))),(1,some (.immb 49 5 (dTmc (.mk op n x ks ps))))] [3,4]:=by refine zo2 O<|Aa O (λh=>?_) (λh=>?_);{refine Tl O<|Bt O (Gk x)<|Gf O ?_;have q:BV x=true:=by{simp[CY]at p h;grind};exact Ah O (Cf _ q)<|Gf O<|Bw ⟨_,AP⟩};exact Tl O<|Bw ⟨_,AP⟩
def Fv (op n:Int) (x:Z) (ks:L1 Tm) (ps:L1 Y) (p:CY op x ks.length ps.length=false):Tq2 Tryz.f191.ntmps (CT []) (KZ wJ Tryz.f191.results.toList (.pan Hx)) [.code (ES Tryz.f191 4)] [(1,.ref 1 0),(2,.ref 2 0)] [(2,some (.immb 296 4 (F9 (AY op ks.length ps.length)))),(1,some (.immb 49 5 (dTmc (.mk op n x ks ps))))] [3,4]:=by refine zo2 O<|Aa O (λh=>?_) (λh=>?_);{refine Tl O<|Bt O (Gk x)<|Gf O ?_;have q:BV x=false:=by{simp[CY]at p h;grind};exact AM [] O (by simp) (CM _ q) ab O O};{exfalso;simp[CY]at p h;grind}
def BE (op n:Int) (x:Z) (ps:L1 Y):Bool :=
 if op=1 then Bb n
 else if op=2 then n==0||n==1
 else if op=24 then decide (0<=n)&&decide (n<4)
 else if op=14 then CW x
 else if op=15 then decide (1<=(ps.length:Int))&&decide ((ps.length:Int)<=5)&&ps.all Dr
 else true
def Du (op n:Int) (x:Z) (k:Nat) (ps:L1 Y):Bool:=DC op n x k ps.length&&BE op n x ps&&CY op x k ps.length
def X4 (op n:Int) (x:Z) (ks:L1 Tm) (ps:L1 Y) (C:Du op n x ks.length ps=true):Tq4 191 [.imm (.agg (dTmc (.mk op n x ks ps)))] [] (.ret LL []):=by simp only[Du]at C;refine Ac IW func191 O [1,2,3,4]<|Gf O<|Bt O (dF op n x ks ps)<|sg [] O (by simp[Ap,F9]<;>grind) ?_;simp only[Am]at C;obtain⟨⟨J,p⟩,u⟩:=C;refine Ah O (Cf _ (by simp[DC]at J ⊢;grind)) ?_;by_cases D:op=1;{subst D;refine cF [.a] O<|Ah O (Lx n)<|Gf O ?_;simp[BE]at p;exact Ah O (Cf _ (by first|exact p|(simp at p ⊢;grind)|(simp;grind)|grind))<|XB [.s] O<|Ad (E7 _ n x ks ps u) AP AP O};by_cases G:op=2;{subst G;refine cF [.a,.a] O ?_;simp[BE]at p;exact Ah O (Cf _ (by first|exact p|(simp at p ⊢;grind)|(simp;grind)|grind))<|XB [.s] O<|Ad (E7 _ n x ks ps u) AP AP O};by_cases y:op=24;{subst y;refine cF [.a,.a,.a] O ?_;simp[BE]at p;exact Ah O (Cf _ (by first|exact p|(simp at p ⊢;grind)|(simp;grind)|grind))<|XB [.s] O<|Ad (E7 _ n x ks ps u) AP AP O};by_cases A:op=14;{subst A;refine cF [.a,.a,.a,.a] O<|Ah O (FM x)<|Gf O ?_;simp[BE]at p;exact Ah O (Cf _ (by first|exact p|(simp at p ⊢;grind)|(simp;grind)|grind))<|XB [.s] O<|Ad (E7 _ n x ks ps u) AP AP O};by_cases B:op=15;{subst B;refine cF (D7 4 [.a]) O ?_;simp[BE]at p;refine Ah O (Cf _ (by simp;grind))<|Gf O<|Al (λi:Nat=>[(101,i7 i),(100,i7 ps.length),(99,.imm (.sl (A4 ps))),(1,.ref 1 0),(2,.ref 2 0)]) (λ_=>[(2,some (.immb 296 4 (F9 (AY 15 ks.length ps.length)))),(1,some (.immb 49 5 (dTmc (.mk 15 n x ks ps))))]) [3,4] (λi=>ps.length-i) (λi=>i<=ps.length/\(ps.drop i).all Dr=true) 0 ⟨AK _,by simpa using p.2⟩ ⟨rfl,B8 (by simp),AC⟩ AP O λi K L=>?_;refine Tl O ?_;have q:=K.2;refine Aa O (λh=>?_) (λh=>?_);{simp at h;let⟨t,H⟩:=At h;rw[Au H,D4]at q;refine Tl O<|siz O (AQ H)<|Gf O<|Ah O (Tj t)<|Gf O ?_;simp only[Am]at q;have N:=q.1;exact Ah O (Cf _ (by first|rfl|(rw[N];rfl)))<|Gf O<|Ad (L (i+1) (by omega) ⟨by omega,q.2⟩) ⟨Bf,B0⟩ AP O};simp at h;rw[Bu (by omega)]at q;exact zlj [.s] O<|Ad (E7 _ n x ks ps u) AP AP O};exact sg [.f,.f,.f,.f,.f,.s] O (by simp[D,G,y,A,B])<|Ad (E7 _ n x ks ps u) AP AP O
def zb6 (op n:Int) (x:Z) (ks:L1 Tm) (ps:L1 Y) (q:Du op n x ks.length ps=false):Tq4 191 [.imm (.agg (dTmc (.mk op n x ks ps)))] [] (.pan Hx):=by simp only[Du]at q;refine Ac IW func191 O [1,2,3,4]<|Gf O<|Bt O (dF op n x ks ps)<|sg [] O (by simp[Ap,F9]<;>grind) ?_;by_cases D:DC op n x ks.length ps.length=true;rotate_left;{exact AM [] O (by simp) (CM _ (by simp[DC]at D ⊢;grind)) ab O O};rw[D]at q;refine Ah O (Cf _ (by simp[DC]at D ⊢;grind)) ?_;by_cases G:op=1;{subst G;refine cF [.a] O<|Ah O (Lx n)<|Gf O ?_;by_cases p:BE 1 n x ps=true;{have y:CY 1 x ks.length ps.length=false:=by{simpa[p]using q};simp[BE]at p;exact Ah O (Cf _ (by first|exact p|(simp at p ⊢;grind)|(simp;grind)|grind))<|XB [.s] O<|Ad (Fv _ n x ks ps y) AP AP O};{simp[BE]at p;exact AM [] O (by simp) (CM _ (by first|exact p|(simp at p ⊢;grind)|(simp;grind)|grind)) ab O O}};by_cases H:op=2;{subst H;refine cF [.a,.a] O ?_;by_cases p:BE 2 n x ps=true;{have y:CY 2 x ks.length ps.length=false:=by{simpa[p]using q};simp[BE]at p;exact Ah O (Cf _ (by first|exact p|(simp at p ⊢;grind)|(simp;grind)|grind))<|XB [.s] O<|Ad (Fv _ n x ks ps y) AP AP O};{simp[BE]at p;exact AM [] O (by simp) (CM _ (by first|exact p|(simp at p ⊢;grind)|(simp;grind)|grind)) ab O O}};by_cases A:op=24;{subst A;refine cF [.a,.a,.a] O ?_;by_cases p:BE 24 n x ps=true;{have y:CY 24 x ks.length ps.length=false:=by{simpa[p]using q};simp[BE]at p;exact Ah O (Cf _ (by first|exact p|(simp at p ⊢;grind)|(simp;grind)|grind))<|XB [.s] O<|Ad (Fv _ n x ks ps y) AP AP O};{simp[BE]at p;exact AM [] O (by simp) (CM _ (by first|exact p|(simp at p ⊢;grind)|(simp;grind)|grind)) ab O O}};by_cases B:op=14;{subst B;refine cF [.a,.a,.a,.a] O<|Ah O (FM x)<|Gf O ?_;by_cases p:BE 14 n x ps=true;{have y:CY 14 x ks.length ps.length=false:=by{simpa[p]using q};simp[BE]at p;exact Ah O (Cf _ (by first|exact p|(simp at p ⊢;grind)|(simp;grind)|grind))<|XB [.s] O<|Ad (Fv _ n x ks ps y) AP AP O};{simp[BE]at p;exact AM [] O (by simp) (CM _ (by first|exact p|(simp at p ⊢;grind)|(simp;grind)|grind)) ab O O}};by_cases C:op=15;{subst C;refine cF (D7 4 [.a]) O ?_;by_cases p:(decide (1<=(ps.length:Int))&&decide ((ps.length:Int)<=5))=true;rotate_left;{exact AM [] O (by simp) (CM _ (by simp at p ⊢;grind)) ab O O};have L:ps.length<=5:=by{simp at p;omega};have q:ps.all Dr=false\/CY 15 x ks.length ps.length=false:=by{have e:BE 15 n x ps=((decide (1<=(ps.length:Int))&&decide ((ps.length:Int)<=5))&&ps.all Dr):=by{simp only[BE];rfl};rw[e,p]at q;simpa only[Jj,OS]using q};refine Ah O (Cf _ (by simp at p ⊢;grind))<|Gf O<|Al (λi:Nat=>[(101,i7 i),(100,i7 ps.length),(99,.imm (.sl (A4 ps))),(1,.ref 1 0),(2,.ref 2 0)]) (λ_=>[(2,some (.immb 296 4 (F9 (AY 15 ks.length ps.length)))),(1,some (.immb 49 5 (dTmc (.mk 15 n x ks ps))))]) [3,4] (λi=>ps.length-i) (λi=>i<=ps.length/\((ps.drop i).all Dr=false\/CY 15 x ks.length ps.length=false)) 0 ⟨AK _,q⟩ ⟨rfl,B8 (by simp),AC⟩ AP O λi N R=>?_;refine Tl O ?_;have u:=N.2;refine Aa O (λh=>?_) (λh=>?_);{simp at h;let⟨t,K⟩:=At h;rw[Au K,D4]at u;refine Tl O<|siz O (AQ K)<|Gf O<|Ah O (Tj t)<|Gf O ?_;cases J:Dr t with|true=>{rw[J,Jj]at u;exact Ah O (Cf _ (by first|rfl|(rw[J];rfl)))<|Gf O<|Ad (R (i+1) (by omega) ⟨by omega,u⟩) ⟨Bf,B0⟩ AP O}|false=>{exact AM [] O (by simp) (CM _ (by first|rfl|(rw[J];rfl))) ab O O}};simp at h;rw[Bu (by omega)]at u;exact zlj [.s] O<|Ad (Fv _ n x ks ps (by simpa using u)) AP AP O};exact sg [.f,.f,.f,.f,.f,.s] O (by simp[G,H,A,B,C])<|Ad (Fv _ n x ks ps (by simpa[BE,G,H,A,B,C]using q)) AP AP O
mutual
def Ha:Tm->Bool
 |.mk p n x h q=>Du p n x h.length q&&FB h
def FB:L1 Tm->Bool
 |[]=>true
 |t::r=>Ha t&&FB r
end
def O9:∀(t:Tm),Ha t=true->Tq4 136 [.imm (.agg (dTmc t))] [] (.ret LL [])
 |.mk B n x q C,y=>by refine FT 0 O λu=>?_;have H:q.length<=9223372036854775807:=by{simp[D8,Gy,dTmc,maxLen]at u;have:=u.1;omega};simp only[Ha,ZW]at y;refine Ac IW func136 O [1,2,3]<|Gf O<|Ao [] [] [] O (X4 B n x q C y.1) ab O O<|Gf O<|Al (λi:Nat=>[(9,i7 i),(8,i7 q.length),(7,.imm (.sl (Cz q))),(1,.ref 1 0)]) (λ_=>[(1,some (.immb 49 5 (dTmc (.mk B n x q C))))]) [2,3] (λi=>q.length-i) (λi=>i<=q.length/\FB (q.drop i)=true) 0 ⟨AK _,y.2⟩ ⟨rfl,B8 (by simp),AP⟩ AG O λi D G=>?_;refine Tl O ?_;have p:=D.2;refine Aa O (λh=>?_) (λh=>?_);simp at h;let⟨t,A⟩:=At h;rw[Au A]at p;simp only[FB,ZW]at p;refine Tl O<|siz O (Et A)<|Gf O ?_;exact Ao [] [] [] O (O9 t p.1) ab O O<|Gf O<|Ad (G (i+1) (by omega) ⟨by omega,p.2⟩) ⟨Bf,AC⟩ AG O;exact Tl O<|Bw ⟨_,AP⟩
termination_by t=>SizeOf.sizeOf t
decreasing_by all_goals(have:=Cr (AF A);simp_wf;omega)
def X3:∀(t:Tm),Ha t=false->Tq4 136 [.imm (.agg (dTmc t))] [] (.pan Hx)
 |.mk y n x q A,B=>by refine FT 0 O λu=>?_;have K:q.length<=9223372036854775807:=by{simp[D8,Gy,dTmc,maxLen]at u;have:=u.1;omega};simp only[Ha,OS]at B;refine Ac IW func136 O [1,2,3]<|Gf O ?_;by_cases C:Du y n x q.length A=true;rotate_left;exact AM [] O (by simp) (zb6 y n x q A (by simpa using C)) ab O O;rw[C]at B;simp only[ec,fw]at B;refine Ao [] [] [] O (X4 y n x q A C) ab O O<|Gf O<|Al (λi:Nat=>[(9,i7 i),(8,i7 q.length),(7,.imm (.sl (Cz q))),(1,.ref 1 0)]) (λ_=>[(1,some (.immb 49 5 (dTmc (.mk y n x q A))))]) [2,3] (λi=>q.length-i) (λi=>i<=q.length/\FB (q.drop i)=false) 0 ⟨AK _,B⟩ ⟨rfl,B8 (by simp),AP⟩ AG O λi H J=>?_;refine Tl O ?_;have p:=H.2;refine Aa O (λh=>?_) (λh=>?_);simp at h;let⟨t,D⟩:=At h;rw[Au D]at p;simp only[FB,OS]at p;refine Tl O<|siz O (Et D)<|Gf O ?_;by_cases G:Ha t=true;exact Ao [] [] [] O (O9 t G) ab O O<|Gf O<|Ad (J (i+1) (by omega) ⟨by omega,by rw[G]at p;simpa using p⟩) ⟨Bf,AC⟩ AG O;exact AM [] O (by simp) (X3 t (by simpa using G)) ab O O;exfalso;simp at h;rw[Bu (by omega)]at p;simp[FB]at p
termination_by t=>SizeOf.sizeOf t
decreasing_by all_goals(have:=Cr (AF D);simp_wf;omega)
def FI (t:Tm):Bool:=decide (0<=Be t 60 14)&&Ha t
def qW (t:Tm) (h:FI t=true):Tq4 134 [.ref 1 0] [(1,some (.immb 49 5 (dTmc t)))] (.ret LL [(1,some (.immb 49 5 (dTmc t)))]):=by simp only[FI,Am,al]at h;exact Ac IW func134 O [2,3,4]<|Gf O<|Ao [] [(2,1)] [] O (Nw t 60 14 1 (by decide) (by decide) (by decide) (by decide) (by decide) (by decide) h.1) A2 O O<|Gf O<|Ao [] [] [] O (O9 t h.2) ab O O<|Gf O<|Bw ⟨_,rfl,rfl,AG⟩
def za6 (t:Tm) (h:FI t=false):Tq4 134 [.ref 1 0] [(1,some (.immb 49 5 (dTmc t)))] (.pan Hx):=by refine Ac IW func134 O [2,3,4]<|Gf O ?_;by_cases p:0<=Be t 60 14;exact Ao [] [(2,1)] [] O (Nw t 60 14 1 (by decide) (by decide) (by decide) (by decide) (by decide) (by decide) p) A2 O O<|Gf O<|AM [] O (by simp) (X3 t (by simpa[FI,p]using h)) ab O O;exact AM [(2,1)] O (by simp) (iC t 60 14 1 (by decide) (by decide) (by decide) (by decide) (by decide) (by decide) (by show Be t 60 14<0;omega)) A2 O O
def Nc (t:Tm):Tq3 74 [.agg (dTmc t)] (OY (FI t)):=by refine Ac IW func74 O [1,2,3]<|Gf O ?_;cases h:FI t with|true=>{exact Ae O (Q6 func134 (by decide +kernel) O (qW t h)) A2 O<|Gf O<|Ab O O O}|false=>{exact Ae O (SV func134 (by decide +kernel) O (za6 t h)) A2 O<|Gf O<|Ab O O O}
def ttA:TT:=wJ++[
 (190,⟨.iface,false,1,16,[.imm .niliface]⟩),
 (183,⟨.sl 190,false,1,24,[.nils]⟩),
 (185,⟨.struct [(0,113)],true,2,40,[.imm (.str []),.nils]⟩),
 (187,⟨.struct [(0,71)],true,15,224,[.imm (.str []),.imm (.str []),.imm (.int .i64 0),.imm (.int .i64 0),.imm (.str []),.nils,.imm (.int .i64 0),.imm (.int .i64 0),.imm (.str []),.nils,.imm (.int .i64 0),.imm (.int .i64 0),.imm (.str []),.nils,.nils]⟩),
 (26,⟨.func,false,1,8,[.imm .nilfn]⟩),
 (246,⟨.func,false,1,8,[.imm .nilfn]⟩),
 (191,⟨.func,false,1,8,[.imm .nilfn]⟩)]
def Dh:TTok prog ttA:=.of_eq (l:=[4,3,9,49,25,182,45,47,5,23,22,73,46,180,71,43,178,40,41,113,111,28,293,195,1,139,296,190,183,185,187,26,246,191]) (by kernel_rfl)
def ad (p:L1 Pt) (h:run ttA n 300 p todo env st aa []=.at k u au ids' ob) (q:A8 ob) (y:Tq1 n F Q k u au ids'):Tq2 n F Q todo env st aa:=JY Dh mixed 300 p h q y
def F6 (h:run ttA n 300 [] todo env st aa []=.at k u au ids' ob) (q:Tq1 n F Q k u au ids') (p:A8 ob:=by simp):Tq2 n F Q todo env st aa:=ad [] h p q
def ag (p:L1 Pt) (h:run ttA n 300 p todo env st aa []=.at k u au ids' ob) (q:A8 ob) (y:Tq1 n F Q k u au ids'):Tq1 n F Q todo env st aa:=Iw Dh mixed 300 p h q y
def F5 (h:run ttA n 300 [] todo env st aa []=.at k u au ids' ob) (q:Tq1 n F Q k u au ids') (p:A8 ob:=by simp):Tq1 n F Q todo env st aa:=ag [] h p q
def zgv (p:L1 Pt) (h:run ttA n 300 p todo env st aa []=.at k u au ids' ob) (y:Tq1 n F Q k u au ids') (q:A8 ob:=by simp[Ap]):Tq1 n F Q todo env st aa:=ag p h q y
def Xn (h:run ttA n 300 [] todo env st aa []=.at k u au ids' ob) (q:Tq1 n F Q k u au ids') (p:A8 ob:=by simp[Ap]):Tq1 n F Q todo env st aa:=ag [] h p q
def ai (h:Fm ttA n env todo=some ⟨es,m,sz,e,g,ob,some t,q⟩) (u:Ap g->0<=m/\es[m.toNat]?=some c/\c.length=sz) (p:A8 ob) (y:Tq1 n F Q q ((t,gD g (.ip e c 0))::env) st aa):Tq1 n F Q todo env st aa:=G4 Dh h u p y
def aiz (h:Fm ttA n env todo=some ⟨es,(i:Int),sz,e,g,ob,some t,q⟩) (u:es[i]?=some c) (y:Tq1 n F Q q ((t,gD g (.ip e c 0))::env) st aa) (A:c.length=sz:=by simp) (p:A8 ob:=by simp):Tq1 n F Q todo env st aa:=ai h (λ_=>⟨by omega,by simpa using u,A⟩) p y
def aizc (h:Fm ttA n env todo=some ⟨es,(i:Int),sz,e,g,ob,some t,q⟩) (u:es[i]?=some c) (y:Tq1 n F Q q ((t,gD g (.ip e c 0))::env) st aa) (A:c.length=sz:=by simp) (p:A8 ob:=by simp[Ap]):Tq1 n F Q todo env st aa:=ai h (λ_=>⟨by omega,by simpa using u,A⟩) p y
def KN {α:Type} (q:α->Bool):L1 α->Nat->Int
 |[],_=>-1
 |e::r,i=>if q e then(i:Int)else KN q r (i+1)
def Qj {α:Type} (q:α->Bool):∀(es:L1 α) (i:Nat),0<=KN q es i↔es.any q=true
 |[],i=>by simp[KN]
 |e::r,i=>by have p:=Qj q r (i+1);by_cases h:q e=true;simp[KN,h];simp only[KN,h,List.any_cons];simpa using p
def znq (g:FuncId) (u:TypeId) (y:V) (q:L1 V->Bool) (es:G1) (A:∀e∈es,e.length=4) (D:es.length<=9223372036854775806) (G:∀e∈es,Tq4 g [.imm (.agg e),.ref 1 0] [(1,some (.immb u 1 [y]))] (.ret (.imm (.bool (q e))) [(1,some (.immb u 1 [y]))])):Tq4 245 [.imm (.sl es),.fn (.func g) [] [.ref 1 0]] [(1,some (.immb u 1 [y]))] (.ret (.imm (.int .i64 (KN q es 0))) [(1,some (.immb u 1 [y]))]):=by refine Ac Dh func245 O [2,3,4]<|F5 O<|Al (λi:Nat=>[(8,i7 i),(7,i7 es.length),(0,.imm (.sl es)),(1,.fn (.func g) [] [.ref 1 0])]) (λ_=>[(1,some (.immb u 1 [y]))]) [2,3,4] (λi=>es.length-i) (λi=>i<=es.length/\KN q es 0=KN q (es.drop i) i) 0 ⟨AK _,rfl⟩ ⟨rfl,B8 (by simp),AP⟩ AG O λi H J=>?_;refine F6 O ?_;have p:=H.2;refine Aa O (λh=>?_) (λh=>?_);simp at h;let⟨e,B⟩:=At h;have C:=AF B;rw[Au B]at p;refine F6 O<|ai O (c:=e) (λ_=>⟨by simp,by simpa using B,A e C⟩) (by simp)<|ag [] O (by simp[A e C])<|Ae O (G e C) A2 O<|F5 O<|Aa O (λh=>?_) (λh=>?_);exact F6 O<|Af ⟨_,rfl,tV (af _ (by rw[p];simp[KN,h])),AG⟩;exact F6 O<|Ad (J (i+1) (by omega) ⟨by omega,by rw[p];simp[KN,h]⟩) ⟨Bf,AC⟩ AG O;refine F6 O ?_;simp at h;refine Af ⟨_,rfl,tV (af _ ?_),AG⟩;rw[p,Bu (by omega)];rfl
def za0 (g:FuncId) (h:TypeId) (p:V) (q:L1 V->Bool) (es:G1) (y:∀e∈es,e.length=4) (u:es.length<=9223372036854775806) (A:∀e∈es,Tq4 g [.imm (.agg e),.ref 1 0] [(1,some (.immb h 1 [p]))] (.ret (.imm (.bool (q e))) [(1,some (.immb h 1 [p]))])):Tq4 174 [.imm (.sl es),.fn (.func g) [] [.ref 1 0]] [(1,some (.immb h 1 [p]))] (.ret (.imm (.bool (es.any q))) [(1,some (.immb h 1 [p]))]):=by refine Ac Dh func174 O [2,3,4]<|F5 O<|Ae O (znq g h p q es y u A) A2 O<|F5 O<|Af ⟨_,rfl,tV (af _ ?_),AG⟩;rw[FC,<- Qj q es 0];simp
def zpv (g:FuncId) (e:L1 V) (h:e.length=4) (b:Bool) (p:Tq3 g [.agg e] (.bool b)):Tq4 252 [.imm (.agg e),.ref 1 0] [(1,some (.immb 26 1 [.fn (.func g)]))] (.ret (.imm (.bool (!b))) [(1,some (.immb 26 1 [.fn (.func g)]))]):=by exact Ac Dh func252 O [2,3,4]<|ag [] O (by simp[h])<|Ao [] [] [] O p ab O O<|F5 O<|Af ⟨_,rfl,tV O,AG⟩
def allT (g:FuncId) (q:L1 V->Bool) (es:G1) (h:∀e∈es,e.length=4) (p:es.length<=9223372036854775806) (y:∀e∈es,Tq3 g [.agg e] (.bool (q e))):Tq3 186 [.sl es,.fn (.func g)] (.bool (es.all q)):=by refine Ac Dh func186 O [1,2,3]<|F5 O<|Ae O (za0 252 26 (.fn (.func g)) (λe=>!q e) es h p (λe u=>zpv g e (h e u) (q e) (y e u))) A2 O<|F5 O<|Ab O O (af _ ?_);rw[nP];simp
def zns (g:FuncId) (u:TypeId) (y:V) (q:L1 V->Bool) (es:G1) (A:∀e∈es,e.length=2) (D:es.length<=9223372036854775806) (G:∀e∈es,Tq4 g [.imm (.agg e),.ref 1 0] [(1,some (.immb u 1 [y]))] (.ret (.imm (.bool (q e))) [(1,some (.immb u 1 [y]))])):Tq4 282 [.imm (.sl es),.fn (.func g) [] [.ref 1 0]] [(1,some (.immb u 1 [y]))] (.ret (.imm (.int .i64 (KN q es 0))) [(1,some (.immb u 1 [y]))]):=by refine Ac Dh func282 O [2,3,4]<|F5 O<|Al (λi:Nat=>[(8,i7 i),(7,i7 es.length),(0,.imm (.sl es)),(1,.fn (.func g) [] [.ref 1 0])]) (λ_=>[(1,some (.immb u 1 [y]))]) [2,3,4] (λi=>es.length-i) (λi=>i<=es.length/\KN q es 0=KN q (es.drop i) i) 0 ⟨AK _,rfl⟩ ⟨rfl,B8 (by simp),AP⟩ AG O λi H J=>?_;refine F6 O ?_;have p:=H.2;refine Aa O (λh=>?_) (λh=>?_);simp at h;let⟨e,B⟩:=At h;have C:=AF B;rw[Au B]at p;refine F6 O<|ai O (c:=e) (λ_=>⟨by simp,by simpa using B,A e C⟩) (by simp)<|ag [] O (by simp[A e C])<|Ae O (G e C) A2 O<|F5 O<|Aa O (λh=>?_) (λh=>?_);exact F6 O<|Af ⟨_,rfl,tV (af _ (by rw[p];simp[KN,h])),AG⟩;exact F6 O<|Ad (J (i+1) (by omega) ⟨by omega,by rw[p];simp[KN,h]⟩) ⟨Bf,AC⟩ AG O;refine F6 O ?_;simp at h;refine Af ⟨_,rfl,tV (af _ ?_),AG⟩;rw[p,Bu (by omega)];rfl
def za2 (g:FuncId) (h:TypeId) (p:V) (q:L1 V->Bool) (es:G1) (y:∀e∈es,e.length=2) (u:es.length<=9223372036854775806) (A:∀e∈es,Tq4 g [.imm (.agg e),.ref 1 0] [(1,some (.immb h 1 [p]))] (.ret (.imm (.bool (q e))) [(1,some (.immb h 1 [p]))])):Tq4 250 [.imm (.sl es),.fn (.func g) [] [.ref 1 0]] [(1,some (.immb h 1 [p]))] (.ret (.imm (.bool (es.any q))) [(1,some (.immb h 1 [p]))]):=by refine Ac Dh func250 O [2,3,4]<|F5 O<|Ae O (zns g h p q es y u A) A2 O<|F5 O<|Af ⟨_,rfl,tV (af _ ?_),AG⟩;rw[FC,<- Qj q es 0];simp
def zpx (g:FuncId) (e:L1 V) (h:e.length=2) (b:Bool) (p:Tq3 g [.agg e] (.bool b)):Tq4 251 [.imm (.agg e),.ref 1 0] [(1,some (.immb 246 1 [.fn (.func g)]))] (.ret (.imm (.bool (!b))) [(1,some (.immb 246 1 [.fn (.func g)]))]):=by exact Ac Dh func251 O [2,3,4]<|ag [] O (by simp[h])<|Ao [] [] [] O p ab O O<|F5 O<|Af ⟨_,rfl,tV O,AG⟩
def allC (g:FuncId) (q:L1 V->Bool) (es:G1) (h:∀e∈es,e.length=2) (p:es.length<=9223372036854775806) (y:∀e∈es,Tq3 g [.agg e] (.bool (q e))):Tq3 184 [.sl es,.fn (.func g)] (.bool (es.all q)):=by refine Ac Dh func184 O [1,2,3]<|F5 O<|Ae O (za2 251 246 (.fn (.func g)) (λe=>!q e) es h p (λe u=>zpx g e (h e u) (q e) (y e u))) A2 O<|F5 O<|Ab O O (af _ ?_);rw[nP];simp
def znr (g:FuncId) (u:TypeId) (y:V) (q:V->Bool) (es:L1 V) (B:es.length<=9223372036854775806) (C:∀e∈es,Tq4 g [.imm e,.ref 1 0] [(1,some (.immb u 1 [y]))] (.ret (.imm (.bool (q e))) [(1,some (.immb u 1 [y]))])):Tq4 249 [.imm (.sl (es.map λx=>[x])),.fn (.func g) [] [.ref 1 0]] [(1,some (.immb u 1 [y]))] (.ret (.imm (.int .i64 (KN q es 0))) [(1,some (.immb u 1 [y]))]):=by refine Ac Dh func249 O [2,3,4]<|F5 O<|Al (λi:Nat=>[(8,i7 i),(7,i7 es.length),(0,.imm (.sl (es.map λx=>[x]))),(1,.fn (.func g) [] [.ref 1 0])]) (λ_=>[(1,some (.immb u 1 [y]))]) [2,3,4] (λi=>es.length-i) (λi=>i<=es.length/\KN q es 0=KN q (es.drop i) i) 0 ⟨AK _,rfl⟩ ⟨rfl,B8 (by simp),AP⟩ AG O λi D G=>?_;refine F6 O ?_;have p:=D.2;refine Aa O (λh=>?_) (λh=>?_);simp at h;let⟨e,A⟩:=At h;have H:=AF A;rw[Au A]at p;refine F6 O<|ai O (c:=[e]) (λ_=>⟨by simp,by simp[A],rfl⟩) (by simp)<|F5 O<|Ae O (C e H) A2 O<|F5 O<|Aa O (λh=>?_) (λh=>?_);exact F6 O<|Af ⟨_,rfl,tV (af _ (by rw[p];simp[KN,h])),AG⟩;exact F6 O<|Ad (G (i+1) (by omega) ⟨by omega,by rw[p];simp[KN,h]⟩) ⟨Bf,AC⟩ AG O;refine F6 O ?_;simp at h;refine Af ⟨_,rfl,tV (af _ ?_),AG⟩;rw[p,Bu (by omega)];rfl
def za1 (g:FuncId) (h:TypeId) (p:V) (q:V->Bool) (es:L1 V) (u:es.length<=9223372036854775806) (y:∀e∈es,Tq4 g [.imm e,.ref 1 0] [(1,some (.immb h 1 [p]))] (.ret (.imm (.bool (q e))) [(1,some (.immb h 1 [p]))])):Tq4 181 [.imm (.sl (es.map λx=>[x])),.fn (.func g) [] [.ref 1 0]] [(1,some (.immb h 1 [p]))] (.ret (.imm (.bool (es.any q))) [(1,some (.immb h 1 [p]))]):=by refine Ac Dh func181 O [2,3,4]<|F5 O<|Ae O (znr g h p q es u y) A2 O<|F5 O<|Af ⟨_,rfl,tV (af _ ?_),AG⟩;rw[FC,<- Qj q es 0];simp
def zpw (g:FuncId) (e:V) (b:Bool) (h:Tq3 g [e] (.bool b)):Tq4 182 [.imm e,.ref 1 0] [(1,some (.immb 191 1 [.fn (.func g)]))] (.ret (.imm (.bool (!b))) [(1,some (.immb 191 1 [.fn (.func g)]))]):=by exact Ac Dh func182 O [2,3,4]<|F5 O<|Ao [] [] [] O h ab O O<|F5 O<|Af ⟨_,rfl,tV O,AG⟩
def allI (g:FuncId) (q:V->Bool) (es:L1 V) (h:es.length<=9223372036854775806) (p:∀e∈es,Tq3 g [e] (.bool (q e))):Tq3 127 [.sl (es.map λx=>[x]),.fn (.func g)] (.bool (es.all q)):=by refine Ac Dh func127 O [1,2,3]<|F5 O<|Ae O (za1 182 191 (.fn (.func g)) (λe=>!q e) es h (λe u=>zpw g e (q e) (p e u))) A2 O<|F5 O<|Ab O O (af _ ?_);rw[nP];simp
def Wm:Sh->Bool
 |.iface|.other=>false
 |_=>true
structure PTa where
 t:TypeId
 v:V
 to_:TypeId
 dst:Option Nat
 todo:List DI
def pta (L:TT) (n:Nat) (env:Env) (todo:L1 DI):Option PTa :=
 match OK todo with
 |some o=>match o.guard,o.op with
  |none,.typeAssert x _ h true=>match EM env x,lk L h,Ce n o.dst,B1 todo ([],[])with
   |some (.imm (.iface t v)),some i,true,some (_,_,q)=>match Wm i.sh with
    |true=>some ⟨t,v,h,o.dst,q⟩
    |false=>none
   |_,_,_,_=>none
  |_,_=>none
 |none=>none
def RX {t p q:TypeId} {i:TyI} (G:TyOk P p i) (C:Wm i.sh=true) {r:Value} (h:(t=p/\r=.tuple #[v,.bool true])\/(t≠p/\∃z,(P.info? p).bind (·.zero)=some z/\r=.tuple #[z,.bool false])):(Instr.typeAssert (.iface t v) q p true).run P w=.ok r w:=by have H:∃u,P.underlying p=some u/\∀J,u≠.interface J:=by{have:=G.sh;generalize i.sh=K at this C;cases K<;>simp only[Wm,DN]at C<;>simp only[W9]at this;(case struct N=>obtain⟨f,A,_⟩:=this;exact⟨_,A,λ_ h=>by cases h⟩);(case func=>obtain⟨a,b,c,A⟩:=this;exact⟨_,A,λ_ h=>by cases h⟩);all_goals exact⟨_,this,λ_ h=>by cases h⟩};obtain⟨u,D,y⟩:=H;rcases h with⟨rfl,rfl⟩|⟨L,z,B,rfl⟩;{cases u<;>first|exact absurd rfl (y _)|simp[Instr.typeAssert,ak D]};{have B:=H8 (w:=w) B;cases u<;>first|exact absurd rfl (y _)|simp[Instr.typeAssert,ak D,L,B]}
def R4 (K:TTok P L) {t0 y:TypeId} {v0:V} {A:L1 DI} (h:pta L n env todo=some ⟨t0,v0,y,d0,A⟩) {r:L1 V} (S:(t0=y/\r=[v0,.bool true])\/(t0≠y/\∃z zd,(P.info? y).bind (·.zero)=some z/\(∀I,M I z zd)/\r=[zd,.bool false])) (hk:G P n F Q A (Ca d0 (.imm (.tup r)) env) st aa):G P n F Q todo env st aa:=by unfold pta at h;split at h;rename_i o ho;split at h;rename_i x H to' hg J;split at h;rename_i t v i all d q B m hd W;split at h;rename_i p;cases h;have e:d=o:=Dp ho W;subst e;refine BQ (fr:=[]) (wr:=[]) (rd:=[]) W ?_ hd (λc p=>by rw[J]at p;cases p) hk;intro I μ a8 N a w hag f g;refine⟨λ_=>?_,λs=>by rw[AJ hg]at s;cases s⟩;have D:=Bx g;rw[J]at D;have E:=(D x (by simp[Op.operands]) _ B).immInv;generalize hv:a.eval x=v at E;cases E with|iface _ u _ hu=>{have R:∀(z:Value) (b:Bool) (zd:V),(Instr.typeAssert (.iface t0 u) H y true).run P w=.ok (.tuple #[z,.bool b]) w->M I z zd->r=[zd,.bool b]->valX P ((execOp a.eval d).run P w) (λv w'=>∃j C,StRep j C ([]++a8) N w'/\X j C v (.imm (.tup r))/\μ.le C/\Ext I μ a8 w j C ([]++a8) w') (NS (NR Q) I μ a8 w):=by{intro z b zd W h2 h3;have T:(execOp a.eval d).run P w=.ok (.value (.tuple #[z,.bool b])) w:=by{simp only[execOp,J,hv];exact AE W};rw[T,h3];refine⟨I,μ,f,.imm _ _ (.tup _ _ O λi c x p B=>?_),Mu.le_refl μ,Ext.refl _ _ _ _⟩;match i,p,B with|0,p,B=>cases p;cases B;exact h2|1,p,B=>cases p;cases B;exact .bool _|i+2,p,B=>{simp at B}};rcases S with⟨k,l⟩|⟨k,z,zd,l,e3,e4⟩;exact R u true v0 (RX (K _ _ m) p (.inl ⟨k,rfl⟩)) hu l;exact R z false zd (RX (K _ _ m) p (.inr ⟨k,z,l,rfl⟩)) (e3 I) e4};cases h;cases h;cases h;cases h
mutual
def Q4:∀{a b:Y},As a=As b->a=b
 |.mk s n x B,.mk C D G p,h=>by simp only[As,BP,V.int.injEq,V.str.injEq,V.sl.injEq,be,ay]at h;obtain⟨q,u,y,A⟩:=h;subst q;subst u;subst y;rw[Ju A]
def Ju:∀{a b:L1 Y},A4 a=A4 b->a=b
 |[],[],_=>rfl
 |[],_::_,h=>by simp[A4]at h
 |_::_,[],h=>by simp[A4]at h
 |x::r,y::t,h=>by simp only[A4,BP]at h;rw[Q4 h.1,Ju h.2]
end
def Wi {a b:Cd} (h:FW a=FW b):a=b:=by obtain⟨p,q⟩:=a;obtain⟨u,y⟩:=b;simp only[FW,BP,V.str.injEq,V.sl.injEq,be]at h;rw[h.1,Ju h.2]
open Classical in
noncomputable def qOf {α β:Type} (d:α->β) (f:α->Bool) (e:β):Bool:=decide (∃t,d t=e/\f t=true)
def bf:=@decide_eq_true
def aq:=@decide_eq_false
open Classical in
theorem ZB {d:α->β} (q:∀{a b},d a=d b->a=b) (f:α->Bool) (t:α):qOf d f (d t)=f t:=by unfold qOf;by_cases h:f t=true;rw[h];exact bf ⟨t,rfl,h⟩;simp only[Vp]at h;rw[h];refine aq λ⟨u,y,p⟩=>?_;rw[q y,h]at p;cases p
def ZC {d:α->β} (h:∀{a b},d a=d b->a=b) (f:α->Bool) (l:L1 α):(l.map d).all (qOf d f)=l.all f:=by rw[Rp];congr 1;funext t;exact ZB h f t
def SU (c:Cd):Bool:=CW c.name&&decide ((c.args.length:Int)<=3)&&c.args.all (AW false)
def Js (d:Dt):Bool:=CW d.name&&decide ((1:Int)<=d.cons.length)&&decide ((d.cons.length:Int)<=5)&&d.cons.all SU
def MH (f:Fd):Bool:=BV f.name&&BV f.param&&AW false f.from_&&AW false f.to_&&FI f.body
def zho (q:L1 Y) (h:q.length<=9223372036854775806):Tq3 186 [.sl (A4 q),.fn (.func 187)] (.bool (q.all (AW false))):=by have:=allT 187 (qOf As (AW false)) (A4 q) (λe p=>by rw[D1]at p;obtain⟨t,_,rfl⟩:=C7.1 p;simp) (by simpa using h) (λe p=>by{rw[D1]at p;obtain⟨t,_,rfl⟩:=C7.1 p;rw[ZB Q4];exact Ug t});rw[D1,ZC Q4]at this;rw[D1];exact this
def xK (c:Cd):Tq3 185 [.agg (FW c)] (.bool (SU c)):=by obtain⟨h,p⟩:=c;refine BH λq=>?_;simp[D8,Gy,FW,maxLen]at q;refine Ac Dh func185 O [1,2,3]<|Xn O<|Bt O (FM h)<|Xn O<|Ai O (λu=>zho p (by simp[Ap]at u;omega)) (by simp[Ap])<|ag [] O (by simp[Ap]<;>grind)<|Ab O O (af _ ?_);simp[SU]<;>grind
def zk6 (cs:L1 Cd) (h:cs.length<=9223372036854775806):Tq3 184 [.sl (cs.map FW),.fn (.func 185)] (.bool (cs.all SU)):=by have:=allC 185 (qOf FW SU) (cs.map FW) (λe p=>by obtain⟨t,_,rfl⟩:=C7.1 p;rfl) (by simpa using h) (λe p=>by{obtain⟨t,_,rfl⟩:=C7.1 p;rw[ZB Wi];exact xK t});rw[ZC Wi]at this;exact this
def PD (d:Dt):V:=.iface 185 (.agg (D2 d))
def Mm (f:Fd):V:=.iface 187 (.agg (DJ f))
def Zd:∃z,(prog.info? 185).bind (·.zero)=some z/\∀I,M I z (.agg [.str [],.sl []]):=by refine⟨.agg #[.string ⟨#[]⟩,.slice none 0 0],by kernel_rfl,λI=>.agg _ _ O (by decide) λi c x p h=>?_⟩;match i,p,h with|0,p,h=>cases p;cases h;exact .str _ _ O|1,p,h=>cases p;cases h;exact .slnil|i+2,p,h=>{simp at h}
def mA (d:Dt):Tq3 128 [PD d] (.bool (Js d)):=by obtain⟨h,p⟩:=d;refine BH λq=>?_;simp[D8,Gy,PD,D2,maxLen]at q;refine Ac Dh func128 O [1,2,3,4]<|Xn O<|R4 Dh O (.inl ⟨rfl,rfl⟩)<|zgv [.a] O<|Bt O (FM h)<|Xn O<|Ai O (λu=>zk6 p (by simp[Ap]at u;omega)) (by simp[Ap])<|ag [] O (by simp[Ap]<;>grind)<|Ab O O (af _ ?_);simp[Js]<;>grind
def xJ (f:Fd):Tq3 128 [Mm f] (.bool (MH f)):=by obtain⟨p,q,⟨C,u,K,y⟩,⟨J,A,x2,B⟩,⟨D,G,H,L,N⟩⟩:=f;obtain⟨z,R,h⟩:=Zd;refine BH λT=>Ac Dh func128 O [1,2,3,4]<|Xn O<|R4 Dh O (.inr ⟨by decide,z,_,R,h,rfl⟩)<|zgv [.a] O<|R4 Dh O (.inl ⟨rfl,rfl⟩)<|zgv [.a] O<|Bt O (Gk p)<|Xn O<|Bt O (Gk q)<|Xn O<|Bt O (Ug (.mk C u K y))<|Xn O<|Bt O (Ug (.mk J A x2 B))<|Xn O<|Bt O (Nc (.mk D G H L N))<|ag [] O (by simp[Ap]<;>grind)<|Ab O O (af _ ?_);simp[MH,OY]<;>grind
inductive Pt2 where
 |d (x:Dt)
 |f (x:Fd)
def dPt:Pt2->V
 |.d x=>PD x
 |.f x=>Mm x
def eN:Pt2->Bool
 |.d x=>Js x
 |.f x=>MH x
def zc4 (p:Pt2):Tq3 128 [dPt p] (.bool (eN p)):=by cases p with|d x=>exact mA x|f x=>{exact xJ x}
mutual
def zg8:∀{a b:Tm},dTmc a=dTmc b->a=b
 |.mk s n x D G,.mk H J K p q,h=>by simp only[dTmc,BP,V.int.injEq,V.str.injEq,V.sl.injEq,be,ay]at h;obtain⟨u,y,A,B,C⟩:=h;subst u;subst y;subst A;rw[Wg B,Ju C]
def Wg:∀{a b:L1 Tm},Cz a=Cz b->a=b
 |[],[],_=>rfl
 |[],_::_,h=>by simp[Cz]at h
 |_::_,[],h=>by simp[Cz]at h
 |x::r,y::t,h=>by simp only[Cz,BP]at h;rw[zg8 h.1,Wg h.2]
end
def PP:∀{a b:L1 Cd},a.map FW=b.map FW->a=b
 |[],[],_=>rfl
 |[],_::_,h=>by simp at h
 |_::_,[],h=>by simp at h
 |x::r,y::t,h=>by simp only[C0,BP]at h;rw[Wi h.1,PP h.2]
def vF {a b:Pt2} (h:dPt a=dPt b):a=b:=by cases a with|d x=>{cases b with|d y=>obtain⟨K,x2⟩:=x;obtain⟨R,I⟩:=y;simp only[dPt,PD,D2,V.iface.injEq,V.agg.injEq,BP,V.str.injEq,V.sl.injEq,ay,be]at h;rw[h.1,PP h.2]|f y=>{simp[dPt,PD,Mm]at h}}|f x=>{cases b with|d y=>simp[dPt,PD,Mm]at h|f y=>{obtain⟨P,Q,⟨C,S,K,p1⟩,⟨J,n2,x2,p2⟩,⟨o3,n3,x3,k3,p3⟩⟩:=x;obtain⟨G,H,⟨L,N,T,W⟩,⟨c,e,g,i⟩,⟨j,k,l,m,n⟩⟩:=y;simp only[dPt,Mm,DJ,As,dTmc,V.iface.injEq,V.agg.injEq,Dj,HZ,BP,V.str.injEq,V.int.injEq,V.sl.injEq,ay,be]at h;obtain⟨o,r,s,t,v,w,z,E,F,p,q,u,A,B,D⟩:=h;rw[o,r,s,t,v,Ju w,z,E,F,Ju p,q,u,A,Wg B,Ju D]}}
def kJ (ps:L1 Pt2) (h:ps.length<=9223372036854775806):Tq3 127 [.sl (ps.map λp=>[dPt p]),.fn (.func 128)] (.bool (ps.all eN)):=by have:=allI 128 (qOf dPt eN) (ps.map dPt) (by simpa using h) (λe q=>by{obtain⟨t,_,rfl⟩:=C7.1 q;rw[ZB vF];exact zc4 t});rw[ZC vF,Vr]at this;exact this
def KB (m:Md):Bool:=BV m.name&&decide ((m.datas.length:Int)<=4)&&decide ((1:Int)<=m.funs.length)&&decide ((m.funs.length:Int)<=5)&&m.datas.all Js&&m.funs.all MH
def NP (l:L1 Pt2):L1 (L1 V):=l.map λp=>[dPt p]
@[simp] theorem rowP_length (l:L1 Pt2):(NP l).length=l.length:=by simp[NP]
def zkr (b:Bool) (k:Nat):D:=match b with
 |false=>.nils
 |true=>.own 2 k
def stP (b:Bool) (m:Md) (es:L1 (L1 V)):St:=match b with
 |false=>[(1,some (.immb 43 3 (dMdc m)))]
 |true=>[(2,some (.row 190 1 es)),(1,some (.immb 43 3 (dMdc m)))]
def UD (a b:L1 Pt2):NP (a++b)=NP a++NP b:=by simp[NP]
def ee:=@Bool.not_eq_false'
def vL (m:Md) (b:Bool) (C:G1) (N:b=false->C=[]) (H:C=NP (m.datas.map .d)) (T:(m.datas.length:Int)<=4) (R:(1:Int)<=m.funs.length) (B:(m.funs.length:Int)<=5):Tq2 Tryz.f70.ntmps (CT []) (KZ ttA Tryz.f70.results.toList (.ret (.imm (OY (m.datas.all Js&&m.funs.all MH))) [])) [.code (ES Tryz.f70 4)] [(3,zkr b C.length),(1,.ref 1 0)] (stP b m C) [3,4]:=by cases b with|false=>{have:=N O;subst this;refine F6 O<|Al (λy:Nat×Bool×G1=>[(47,i7 y.1),(46,i7 m.funs.length),(45,.imm (.sl (m.funs.map DJ))),(3,zkr y.2.1 y.2.2.length),(1,.ref 1 0)]) (λy=>stP y.2.1 m y.2.2) [3,4] (λy=>m.funs.length-y.1) (λy=>y.1<=m.funs.length/\y.2.2=NP (m.datas.map .d++(m.funs.take y.1).map .f)/\(y.2.1=false->y.2.2=[])) (0,false,[]) ⟨AK _,by simpa using H,λ_=>rfl⟩ ⟨rfl,B8 (by simp),AC⟩ AG O λy L J=>?_;obtain⟨i,b,es⟩:=y;obtain⟨G,q,u⟩:=L;simp only at G q u;have K:es.length<=9:=by{have:=af List.length q;simp at this;omega};have p:∀f,m.funs[i]?=some f->es++[[Mm f]]=NP (m.datas.map .d++(m.funs.take (i+1)).map .f):=λf B=>by{rw[Ba B,Cy,<- Cl,UD,<- q];rfl};have A:¬i<m.funs.length->es=NP (m.datas.map .d++m.funs.map .f):=λh=>by{rw[q,CA (by omega)]};cases b with|false=>have u:=u O;subst u;refine F6 O<|Aa O (λh=>?_) (λh=>?_);simp at h;let⟨f,B⟩:=At h;exact F6 O<|aiz O (G3 B)<|F5 O<|BK Dh O ⟨by simp,by simp[maxLen],by simp,ab⟩<|F5 O<|AR 2 4 O<|Ad (J (i+1,true,[]++[[Mm f]]) (by simp only;omega) ⟨by simp only;omega,p f B,λh=>by cases h⟩) ⟨B8 (Gx (by simp only;omega) (by simp only;omega)),B0⟩ AP O;simp at h;have:=af List.length (A (by omega));simp at this;omega|true=>{refine F6 O<|Aa O (λh=>?_) (λh=>?_);simp at h;let⟨f,B⟩:=At h;exact F6 O<|aiz O (G3 B)<|F5 O<|BK Dh O ⟨by simp,by simp[maxLen];omega,by simp;omega,ab⟩<|F5 O<|AR 2 4 O<|Ad (J (i+1,true,es++[[Mm f]]) (by simp only;omega) ⟨by simp only;omega,p f B,λh=>by cases h⟩) ⟨B8 (Gx (by simp only;omega) (by simp only;omega)),B0⟩ AP O;simp at h;refine Az O<|Cn 2 O<|F6 O<|Ah O (by rw[A (by omega)];exact kJ _ (by simp;omega))<|F5 O ?_;have D:(m.datas.map Pt2.d++m.funs.map Pt2.f).all eN=(m.datas.all Js&&m.funs.all MH):=by{rw[Km,Rp,Rp];rfl};rw[D];refine Aa O (λh=>?_) (λh=>?_);refine F6 O<|Ab O O ?_;simp only[Kq]at h;rw[h];rfl;refine F6 O<|Ab O O ?_;simp only[ee]at h;rw[h];rfl}}|true=>{refine F6 O<|Al (λy:Nat×Bool×G1=>[(47,i7 y.1),(46,i7 m.funs.length),(45,.imm (.sl (m.funs.map DJ))),(3,zkr y.2.1 y.2.2.length),(1,.ref 1 0)]) (λy=>stP y.2.1 m y.2.2) [3,4] (λy=>m.funs.length-y.1) (λy=>y.1<=m.funs.length/\y.2.2=NP (m.datas.map .d++(m.funs.take y.1).map .f)/\(y.2.1=false->y.2.2=[])) (0,true,C) ⟨AK _,by simpa using H,λh=>by cases h⟩ ⟨rfl,B8 (by simp),AC⟩ AP O λy L J=>?_;obtain⟨i,b,es⟩:=y;obtain⟨G,q,u⟩:=L;simp only at G q u;have K:es.length<=9:=by{have:=af List.length q;simp at this;omega};have p:∀f,m.funs[i]?=some f->es++[[Mm f]]=NP (m.datas.map .d++(m.funs.take (i+1)).map .f):=λf B=>by{rw[Ba B,Cy,<- Cl,UD,<- q];rfl};have A:¬i<m.funs.length->es=NP (m.datas.map .d++m.funs.map .f):=λh=>by{rw[q,CA (by omega)]};cases b with|false=>have u:=u O;subst u;refine F6 O<|Aa O (λh=>?_) (λh=>?_);simp at h;let⟨f,B⟩:=At h;exact F6 O<|aiz O (G3 B)<|F5 O<|BK Dh O ⟨by simp,by simp[maxLen],by simp,ab⟩<|F5 O<|AR 2 4 O<|Ad (J (i+1,true,[]++[[Mm f]]) (by simp only;omega) ⟨by simp only;omega,p f B,λh=>by cases h⟩) ⟨B8 (Gx (by simp only;omega) (by simp only;omega)),B0⟩ AP O;simp at h;have:=af List.length (A (by omega));simp at this;omega|true=>{refine F6 O<|Aa O (λh=>?_) (λh=>?_);simp at h;let⟨f,B⟩:=At h;exact F6 O<|aiz O (G3 B)<|F5 O<|BK Dh O ⟨by simp,by simp[maxLen];omega,by simp;omega,ab⟩<|F5 O<|AR 2 4 O<|Ad (J (i+1,true,es++[[Mm f]]) (by simp only;omega) ⟨by simp only;omega,p f B,λh=>by cases h⟩) ⟨B8 (Gx (by simp only;omega) (by simp only;omega)),B0⟩ AP O;simp at h;refine Az O<|Cn 2 O<|F6 O<|Ah O (by rw[A (by omega)];exact kJ _ (by simp;omega))<|F5 O ?_;have D:(m.datas.map Pt2.d++m.funs.map Pt2.f).all eN=(m.datas.all Js&&m.funs.all MH):=by{rw[Km,Rp,Rp];rfl};rw[D];refine Aa O (λh=>?_) (λh=>?_);refine F6 O<|Ab O O ?_;simp only[Kq]at h;rw[h];rfl;refine F6 O<|Ab O O ?_;simp only[ee]at h;rw[h];rfl}}
def J1 (m:Md):Tq3 70 [.agg (dMdc m)] (OY (KB m)):=by refine BH λK=>?_;have L:m.datas.length<=9223372036854775807/\m.funs.length<=9223372036854775807:=by{simp[D8,Gy,dMdc,maxLen]at K;omega};refine Ac Dh func70 O [1,2,3,4]<|Xn O<|Bt O (Gk m.name)<|ag [] O (by simp[Ap]<;>grind)<|Aa O (λh=>?_) (λh=>?_);{refine F6 O<|Ab O O (af _ ?_);have:KB m=false:=by{simp at h;simp[KB];grind};rw[this];rfl};have q:BV m.name=true/\(m.datas.length:Int)<=4/\(1:Int)<=m.funs.length/\(m.funs.length:Int)<=5:=by{simp at h;refine⟨?_,?_,?_,?_⟩<;>grind};clear h;have D:KB m=(m.datas.all Js&&m.funs.all MH):=by{simp[KB,q.1,q.2.1,q.2.2.1,q.2.2.2]};rw[D];refine F6 O<|Al (λy:Nat×Bool×G1=>[(33,i7 y.1),(32,i7 m.datas.length),(31,.imm (.sl (m.datas.map D2))),(3,zkr y.2.1 y.2.2.length),(1,.ref 1 0)]) (λy=>stP y.2.1 m y.2.2) [3,4] (λy=>m.datas.length-y.1) (λy=>y.1<=m.datas.length/\y.2.2=NP ((m.datas.take y.1).map .d)/\(y.2.1=false->y.2.2=[])) (0,false,[]) ⟨AK _,rfl,λ_=>rfl⟩ ⟨rfl,B8 (by simp),AC⟩ AG O λy N H=>?_;obtain⟨i,b,es⟩:=y;obtain⟨G,u,A⟩:=N;simp only at G u A;have J:es.length<=4:=by{have:=af List.length u;simp at this;omega};have B:¬i<m.datas.length->es=NP (m.datas.map .d):=λh=>by{rw[u,CA (by omega)]};have p:∀d,m.datas[i]?=some d->es++[[PD d]]=NP ((m.datas.take (i+1)).map .d):=λd C=>by{rw[Ba C,Cy,UD,<- u];rfl};cases b with|false=>{have A:=A O;subst A;refine F6 O<|Aa O (λh=>?_) (λh=>?_);simp at h;let⟨d,C⟩:=At h;exact F6 O<|aiz O (G3 C)<|F5 O<|BK Dh O ⟨by simp,by simp[maxLen],by simp,ab⟩<|F5 O<|AR 2 4 O<|Ad (H (i+1,true,[]++[[PD d]]) (by simp only;omega) ⟨by simp only;omega,p d C,λh=>by cases h⟩) ⟨B8 (Gx (by simp only;omega) (by simp only;omega)),B0⟩ AP O;simp at h;exact Az O<|Ad (vL m false [] (λ_=>rfl) (B (by omega)) q.2.1 q.2.2.1 q.2.2.2) AP AG O}|true=>{refine F6 O<|Aa O (λh=>?_) (λh=>?_);simp at h;let⟨d,C⟩:=At h;exact F6 O<|aiz O (G3 C)<|F5 O<|BK Dh O ⟨by simp,by simp[maxLen];omega,by simp;omega,ab⟩<|F5 O<|AR 2 4 O<|Ad (H (i+1,true,es++[[PD d]]) (by simp only;omega) ⟨by simp only;omega,p d C,λh=>by cases h⟩) ⟨B8 (Gx (by simp only;omega) (by simp only;omega)),B0⟩ AP O;simp at h;exact Az O<|Ad (vL m true es (λh=>by cases h) (B (by omega)) q.2.1 q.2.2.1 q.2.2.2) AP AP O}
def zon (P:Program) (I:U) (μ:Mu) (st:St) (w:World) (d:D) (au:St) (r:Result Next):Prop :=
 valX P r (λu w'=>∃p h,X p h u d/\StRep p h au [] w'/\Pin (CT st) μ h/\Ext I μ st w p h au w') (λ_ _=>False)
def QJ (j:Nat) (S:Bun):St:=[(0,some .pin),(j,some (.bun 0 S))]
def La (P:Program) (ds:L1 D) (S:Bun) (r:Bool) (S':Bun):Prop :=
 ∀I μ w b (xs:Array Value),μ 0=some (.func (.yield b) #[] #[])->StRep I μ (QJ 1 S) [] w->RepL I μ xs.toList ds->zon P I μ (QJ 1 S) w (.imm (.bool r)) (QJ 2 S') ((Instr.yield b xs).run P w)
def CB:∀{st:St} {i:Nat} {b:Blk},Aw st i b->i∈CT st
 |[],i,b,h=>by simp[Aw,lk]at h
 |(s,x)::r,i,b,h=>by by_cases p:s=i;subst p;simp[CT];have:Aw r i b:=by{unfold Aw at h ⊢;rwa [AB _ _ p]at h};simp only[CT,C0,Ck];exact .inr (CB this)
def ze5 {s t:St} {b:Blk} (h:Aw (s++t) i b):Aw s i b\/(i∉CT s/\Aw t i b):=by by_cases p:i∈s.map (·.1);left;unfold Aw at h ⊢;rwa [GC p]at h;right;unfold Aw at h ⊢;rw[KH p]at h;exact⟨p,h⟩
def Yr {s t:St} {b:Blk} (h:Aw s i b):Aw (s++t) i b:=by have p:i∈s.map (·.1):=CB h;unfold Aw at h ⊢;rwa [GC p]
def Yq {s t:St} {b:Blk} (p:i∉CT s) (h:Aw t i b):Aw (s++t) i b:=by unfold Aw at h ⊢;rwa [KH p]
def znh {all:L1 Oper} (B:CF all env o=some g) (q:¬Ap g):LD P Pn all o env st [] [] [] (gD g d):=by intro I μ C A a w D G y;have u:=Hi B y;refine⟨λH=>absurd (u.1 H) q,λ_=>⟨rfl,rfl,?_⟩⟩;cases g with|none=>exact absurd trivial q|some p=>{exact .guard _ _ _ _ (λh=>absurd h q) (λ_=>rfl)}
structure zhr where
 id:Nat
 das:List D
 g:Option (Bool×Bool)
 ob:List Prop
 dst:Option Nat
 o:Oper
 all:List Oper
def zbo (n:Nat) (env:Env) (todo:L1 DI):Option zhr :=
 match B1 todo ([],[])with
 |some (h,o,_)=>match CF h env o,o.op with
  |some g,.call { callee:=.value (.tmp t),args:=⟨args⟩,.. }=>match lk env t,Kv (Ap g) env args,Ce n o.dst with
   |some (.yld id),some (p,ob),true=>some ⟨id,p,g,ob,o.dst,o,h⟩
   |some (.guard c w (.yld id)),some (p,ob),true=>some ⟨id,p,g,(Ap g->c=w)::ob,o.dst,o,h⟩
   |_,_,_=>none
  |_,_=>none
 |none=>none
def X.yldInv {id:Nat} (h:X I μ v (.yld id)):∃b,μ id=some (.func (.yield b) #[] #[])/\v=.func (.yield b) #[] #[]:=by cases h with|yld b _ h=>{exact⟨b,h,rfl⟩}
def vW {args:L1 Operand} {h:Array TypeId} (p:o.op=.call { callee:=.value (.tmp t),args:=⟨args⟩,argTypes:=h }) (q:a.eval (.tmp t)=.func (.yield b) #[] #[]):(execOp a.eval o).run P w=(Instr.yield b (args.map a.eval).toArray).run P w:=by simp only[execOp,p,resolve,q,Deferred.ofValue,aj,am,ah,invoke];congr 2;simp
def vX {c:zhr} (h:zbo n env todo=some c) (p:A8 c.ob) (u:Ap c.g):(∀f,∃q,B1 todo f=some (c.all,c.o,q))/\CF c.all env c.o=some c.g/\Ce n c.dst=true/\c.dst=c.o.dst/\(∀x,c.o.op≠.defer x)/\∀I μ a,EN I μ env a c.o.op->∃b,∃xs:Array Value,μ c.id=some (.func (.yield b) #[] #[])/\RepL I μ xs.toList c.das/\∀w,(execOp a.eval c.o).run P w=(Instr.yield b xs).run P w:=by unfold zbo at h;have y:∀{A:L1 Oper} {o:Oper} {t:L1 DI},B1 todo ([],[])=some (A,o,t)->∀f,∃q,B1 todo f=some (A,o,q):=by{intro A o t h f;rcases KA h with⟨r,k,rfl,_⟩|⟨r,m,k,rfl,_⟩;exact⟨_,rfl⟩;exact⟨_,rfl⟩};split at h;rename_i A o t d;split at h;rename_i g e H s i R;have J:∀{T:D} {K:L1 D} {ob:L1 Prop} {id:Nat},lk env e=some T->Kv (Ap g) env H=some (K,ob)->A8 ob->Ap g->(∀{I:U} {μ:Mu} {v:Value},X I μ v T->∃b,μ id=some (.func (.yield b) #[] #[])/\v=.func (.yield b) #[] #[])->∀I μ a,EN I μ env a o.op->∃b,∃xs:Array Value,μ id=some (.func (.yield b) #[] #[])/\RepL I μ xs.toList K/\∀w,(execOp a.eval o).run P w=(Instr.yield b xs).run P w:=by{intro T K ob id L N p u V I μ a B;rw[R]at B;have C:=Ie (I:=I) (μ:=μ) (a:=a) u N p λx G=>B x (by simp[Op.operands,Call.operands,G]);let⟨b,j,l⟩:=V (B (.tmp e) (by simp[Op.operands,Call.operands]) _ L);exact⟨b,_,j,by simpa using C,λw=>vW R l⟩};split at h;rename_i id K ob L N W;cases h;exact⟨y d,i,W,rfl,(λx G=>by rw[R]at G;cases G),J L N p u (λh=>h.yldInv)⟩;rename_i z E id K ob L N W;cases h;exact⟨y d,i,W,rfl,(λx G=>by rw[R]at G;cases G),J L N p.2 u (λh=>(h.guardInv (p.1 u)).yldInv)⟩;cases h;cases h;cases h
def HQ {c:zhr} (h:zbo n env todo=some c) (R:A8 c.ob) (y:Ap c.g) (t:La P (F1 (DZ [(c.id,0),(j,1)]) c.das) S r S') (f:lk st c.id=some (some .pin)) (N:lk st j=some (some (.bun c.id S))) (T:Lr [(c.id,0),(j,1)] [(2,j2)] c.das (QJ 1 S) (.imm (.bool r)) (QJ 2 S') [j2]=true) (v:B1 todo ([c.id,j],[c.id,j2,c.id,j])=some (c.all,c.o,q)) (B:aa=j2::ids') (g:G P n F Q q (Ca c.dst (gD c.g (.imm (.bool r))) env) ((c.id,some .pin)::(j2,some (.bun c.id S'))::(c.id,none)::(j,none)::st) ids'):G P n F Q todo env st aa:=by let⟨_,x,i,z,E,q6⟩:=vX (P:=P) h R y;rw[z]at i g;subst B;have V:=Rj T;have W:F3 [(c.id,0),(j,1)] st (QJ 1 S):=by{have D:Nat.beq c.id j=false:=by{have:=V.inv;simp only[C0,Jk,Ec,Bg]at this;cases W:Nat.beq c.id j with|false=>rfl|true=>{have:=CU W;rw[<- this]at N;rw[f]at N;cases N}};have k:lk (Bg [(c.id,0),(j,1)]) 0=some c.id:=rfl;have e1:lk (Bg [(c.id,0),(j,1)]) 1=some j:=rfl;have f0:lk [(c.id,0),(j,1)] c.id=some 0:=A7 _ _ _;have f1:lk [(c.id,0),(j,1)] j=some 1:=by{have:c.id≠j:=λe=>by{rw[e]at D;simp at D};rw[AB _ _ this];exact A7 _ _ _};have g0:DZ [(c.id,0),(j,1)] c.id=0:=by{simp[DZ,f0]};refine⟨?_,?_,ab⟩;simp only[k,f0,f];exact⟨rfl,rfl,rfl⟩;simp only[e1,f1,N];refine⟨rfl,?_,?_⟩;simp only[Z8,g0];simp only[LM,Ec,f0,k];simp};have l:LD P (NR Q) c.all c.o env st (FE [(c.id,0),(j,1)]) [j2] (ET (Bg [(c.id,0),(j,1)]++[(2,j2)]) (QJ 2 S')++CC (FE [(c.id,0),(j,1)])) (gD c.g (.imm (.bool r))):=by{intro I μ st2 m a w d H K;have A:=Hi x K;refine⟨λ_=>?_,λo=>by rw[A.2 y]at o;cases o⟩;let⟨b,xs,m1,m2,m3⟩:=q6 I μ a (Bx K);have L:=Hp d W;let⟨g1,g2,g3⟩:=HI H L V.args m2;rw[m3];refine(t I _ w b xs (by simpa[IZ,Bg,lk]using m1) g1 g2).mono (λu w' hu=>?_) (λ_ _ h=>h.elim);obtain⟨I',μ',r1,r2,r3,r4⟩:=hu;let⟨ν,C,J,s3,s⟩:=NK H L V r1 r2 r3 r4 g3;rw[<- N6]at C s;refine⟨I',ν,C,?_,s3,s⟩;cases hg:c.g with|none=>exact J|some p=>{rw[hg]at y;exact .guard _ _ _ _ (λ_=>J) (λT=>absurd y T)}};have ew:ET (Bg [(c.id,0),(j,1)]++[(2,j2)]) (QJ 2 S')++CC (FE [(c.id,0),(j,1)])=[(c.id,some .pin),(j2,some (.bun c.id S')),(c.id,none),(j,none)]:=rfl;rw[ew]at l;exact BQ (fr:=[j2]) (wr:=[(c.id,some .pin),(j2,some (.bun c.id S')),(c.id,none),(j,none)]) v l i E g
structure zmh where
 g:Option (Bool×Bool)
 dst:Option Nat
 todo:List DI
def zl2 (n:Nat) (env:Env) (todo:L1 DI):Option zmh :=
 match B1 todo ([],[])with
 |some (h,o,q)=>match CF h env o,o.op,Ce n o.dst with
  |some g,.call _,true=>some ⟨g,o.dst,q⟩
  |_,_,_=>none
 |none=>none
def Nz {c:zmh} (d:D) (h:zl2 n env todo=some c) (p:¬Ap c.g) (y:G P n F Q c.todo (Ca c.dst (gD c.g d) env) st aa):G P n F Q todo env st aa:=by unfold zl2 at h;split at h;rename_i A o q B;split at h;rename_i g K C H J;cases h;exact BQ (fr:=[]) (wr:=[]) B (znh C p) J (λx u=>by rw[H]at u;cases u) y;cases h;cases h
def zmj (cf:Option Code) (stB:St):DQ:=λx _ st _=>match x,cf with
 |.norm,none=>Gl st stB
 |.ret,some .ret=>Gl st stB
 |.exit j,some (.exit h)=>j=h/\Gl st stB
 |_,_=>False
structure I0 where
 fn:FuncId
 ps:Array Tmp
 asg:Code
 body:Code
 tmps:Array Value
 E:Env
 F:List Nat
 μ0:Mu
def zhu (cf:Option Code) (r:Go.Loop):Prop:=r.state=(match cf with|none=>.ready|some _=>.done)/\r.pending=cf
def zpt (L:I0) (st:St) (cf:Option Code) (I:U) (w:World) (b:Nat) (y:L1 Nat):Prop :=
 ∃(r:Go.Loop) (μ:Mu) (h:L1 Nat),y=b::h/\w.heap[b]?=some (.loop r)/\zhu cf r/\(r.fn=L.fn/\r.params=L.ps/\r.assign=L.asg/\r.body=L.body/\r.tmps=L.tmps) /\
  (∀t d,lk L.E t=some d->X I μ (L.tmps.getD t undef) d)/\(∀i p,Aw st i p->∃g,μ i=some g/\BlkRep I μ w g p) /\
  (∀i j A B q u k,Aw st i A->Aw st j B->μ i=some q->μ j=some u->Ek q k->Ek u k->i=j)/\(∀k,k∈h↔AX μ st k)/\b∉h/\Pin L.F L.μ0 μ
def Cg (L:I0) (st:St) (cf:Option Code):Bun where
 P:=zpt L st cf
 mono:=λ{I J w b bs} h hp=>by
  obtain⟨r,μ,bs0,h1,h2,h3,h4,h5,h6,h7,h8,h9,h10⟩:=hp;exact⟨r,μ,bs0,h1,h2,h3,h4,λt d hl=>(h5 t d hl).mono h (Mu.le_refl μ),λi blk hl=>let⟨g,q1,q2⟩:=h6 i blk hl;⟨g,q1,q2.mono h (Mu.le_refl μ)⟩,h7,h8,h9,h10⟩
 loc:=λ{I w w' b bs} h hp=>by
  obtain⟨r,μ,bs0,h1,h2,h3,h4,h5,h6,h7,h8,h9,h10⟩:=hp;subst h1;exact⟨r,μ,bs0,rfl,(h b (by simp)).trans h2,h3,h4,h5,λi blk hl=>let⟨g,q1,q2⟩:=h6 i blk hl;⟨g,q1,q2.world λk hk=>h k (by simp[(h8 k).2 ⟨i,blk,g,hl,q1,hk⟩])⟩,h7,h8,h9,h10⟩
def bP:Value->L1 Nat
 |.pointer (some a)=>[a.block]
 |.slice (some a) _ _=>[a.block]
 |.map (some c)=>[c]
 |.agg h=>h.toList.filterMap fun|.pointer (some a)=>some a.block|_=>none
 |.tuple ⟨[_,.agg h]⟩=>h.toList.filterMap fun|.pointer (some a)=>some a.block|_=>none
 |_=>[]
def Tc {g:Value} {k:Nat}:k∈bP g↔Ek g k:=by unfold bP Ek;split<;>simp[fa];all_goals(constructor;rintro ⟨a,p,h⟩;split at h;cases h;exact⟨_,p,rfl⟩;cases h;rintro ⟨a,p,h⟩;exact⟨_,p,by rw[h]⟩)
open Classical in
theorem OJ (μ:Mu) (st:St):∃l:L1 Nat,∀k,k∈l↔AX μ st k:=by refine⟨(CT st).flatMap λi=>if(∃b,Aw st i b)then(match μ i with|some g=>bP g|none=>[])else[],λk=>?_⟩;rw[List.mem_flatMap];constructor;rintro ⟨i,_,h⟩;split at h;rename_i p;obtain⟨b,p⟩:=p;cases q:μ i with|none=>rw[q]at h;cases h|some g=>{rw[q]at h;exact⟨i,b,g,p,q,Tc.1 h⟩};cases h;rintro ⟨i,b,g,u,y,A⟩;refine⟨i,CB u,?_⟩;rw[ae ⟨b,u⟩,y];exact Tc.2 A
def R9 (aa:L1 Nat) (E:Env) (st:St) (F:L1 Nat):Prop:=aa.Nodup/\∀i∈aa,i∉PM E/\i∉Dx st/\i∉F
def zjh:∀{st:St} {i:Nat} {b:Blk},Aw st i b->i∈Dx st:=λh=>(D9 h).1
def Wr {L:I0} {cf:Option Code} {V:L1 Nat} (h:zpt L st cf I w b V) (n:R9 aa L.E st L.F) (o:I.ok w) (W:∀k∈V,I k=none/\k<w.heap.size) :
  ∃(r:Go.Loop) (ν:Mu) (q:L1 Nat),V=b::q/\w.heap[b]?=some (.loop r)/\zhu cf r/\(r.fn=L.fn/\r.params=L.ps/\r.assign=L.asg/\r.body=L.body/\r.tmps=L.tmps) /\
   (∀t d,lk L.E t=some d->X I ν (L.tmps.getD t undef) d)/\StRep I ν st aa w/\(∀k,k∈q↔AX ν st k)/\b∉q/\Pin L.F L.μ0 ν:=by
 obtain⟨r,μ,q,l,s,v,x,z,E,F,m,P,a⟩:=h;obtain⟨c,e⟩:=n;obtain⟨ν,J⟩:∃ν:Mu,ν=λi=>if i∈aa then none else μ i:=⟨_,rfl⟩
 have K:∀i,i∉aa->ν i=μ i:=λi u=>by rw[J];exact ac u
 have B:∀i,i∈PM L.E\/i∈Dx st\/i∈L.F->ν i=μ i:=λi u=>K i λQ=>by
  let⟨C,G,T⟩:=e i Q;rcases u with h|h|h
  ·exact C h
  ·exact G h
  ·exact T h
 have p:∀{i A},Aw st i A->ν i=μ i:=λy=>B _ (.inr (.inl (zjh y)));have N:∀k,AX ν st k↔AX μ st k:=λk=>by
  constructor<;>rintro ⟨i,A,g,C,G,T⟩
  ·exact⟨i,A,g,C,by rw[<- p C];exact G,T⟩
  ·exact⟨i,A,g,C,by rw[p C];exact G,T⟩
 refine⟨r,ν,q,l,s,v,x,λt d y=>(z t d y).sub λj H g R=>by rw[B j (.inl (ZJ y j H))];exact R,?_,λk=>by rw[N k];exact m k,P,λi u g R=>by rw[B i (.inr (.inr u))];exact a i u g R⟩;exact
  {imm:=o
   blk:=λi A y=>by
    let⟨g,C,G⟩:=E i A y;exact⟨g,by rw[p y];exact C,G.sub λj H g R=>by rw[B j (.inr (.inl ((D9 y).2 j H)))];exact R⟩
   apart:=λi A g k y D S=>W k (by rw[l];exact Gr _ ((m k).2 ⟨i,A,g,y,by rw[<- p y];exact D,S⟩))
   inj:=λi j A bj gi gj k u H D f=>F i j A bj gi gj k u H (by rw[<- p u];exact D) (by rw[<- p H];exact f)
   nodup:=c
   idsFree:=λi u=>by rw[J];exact ae u }
def Gi (q:j≠0) {p:Blk} (h:Aw (QJ j S) i p):(i=0/\p=.pin)\/(i=j/\p=.bun 0 S):=by rcases A1.1 h with h|⟨_,h⟩;exact .inl h;rcases A1.1 h with h|⟨_,h⟩;exact .inr h;simp[Aw,lk]at h
def cb:=@or_false
def Qw {L:I0} {p rid:Nat} {fc:Func} {stB:St} {cf:Option Code} (hf:P.funcs[L.fn]?=some fc) (hps:L.ps = #[p]) (hasg:L.asg=.region rid ⟨[o]⟩ false) (hsz:L.tmps.size=n) (hd:Hb d=[]) (ho:o.op=.assign (.tmp p)) (hog:o.guard=none) (hod:o.dst=some t) (hp:p<n) (ht:t<n) (hfree:R9 aa L.E st L.F) (h:DGo P n (XM::(L.F++PM L.E)) (zmj cf stB) [.code L.body] ((t,d)::(p,d)::L.E) st aa):La P [d] (Cg L st none) cf.isNone (Cg L stB cf):=by
 intro I μ w b xs hμ hst hx;have hl0:Aw (QJ 1 (Cg L st none)) 0 .pin:=A1.2 (.inl ⟨rfl,rfl⟩);have hl1:Aw (QJ 1 (Cg L st none)) 1 (.bun 0 (Cg L st none)):=A1.2 (.inr ⟨by simp,A1.2 (.inl ⟨rfl,rfl⟩)⟩);obtain⟨g1,hg1,b',bs,Q,rfl,hP⟩:=hst.blk 1 _ hl1;rw[hμ]at Q;cases Q;have hbs:∀k∈bs,I k=none/\k<w.heap.size:=λk hk=>hst.apart 1 _ _ k hl1 hg1 (Do.2 hk);have hP0:=hP;let⟨r,ν,bs0,e1,hr1,⟨hr2,hr3⟩,⟨hr4,hr5,hr6,hr7,hr8⟩,hE1,hS,J,hnb,hF⟩:=Wr hP hfree hst.imm hbs;subst e1;obtain⟨x,rfl⟩:∃x,xs = #[x]:=by
  obtain⟨l⟩:=xs;have:=hx.1
  match l,this with
  |[x],_=>exact⟨x,rfl⟩
 have hxd0:X I μ x d:=hx.2 0 x d O O;have hxd1:X I ν x d:=hxd0.sub λj hj=>by rw[hd]at hj;cases hj
 have hsz1:(#[x]:Array Value).size=r.params.size:=by rw[hr5,hps];rfl
 unfold zon;rw[run_yield hr1 hsz1];refine K7 (fc:=fc) (by rw[hr4];exact hf) λfb cs hbf hbr=>?_;rw[hr5,hps,hr6,hasg,hr7,hr8];have hfold:((#[p]:Array Nat).zip #[x]).foldl (λtmps (t,a)=>tmps.setIfInBounds t a) L.tmps=L.tmps.setIfInBounds p x:=by simp
 rw[hfold];let⟨hIb,hblt⟩:=hbs b (by simp);have K:¬AX ν st b:=λh=>hnb ((J b).2 h);obtain⟨w1,y⟩:∃w1:World,w1=w.putObj b (.loop { r with state:=.busy }):=⟨_,rfl⟩
 have A:∀(w:World) (o:Obj),(w.putObj b o).heap=w.heap.setIfInBounds b o:=λw o=>by
  unfold World.putObj;by_cases hi:b<w.heap.size<;>simp[hi]
 have N:∀(w:World) (o:Obj) k,k≠b->(w.putObj b o).heap[k]?=w.heap[k]?:=λw o k hk=>by rw[A,Hd (b7 hk)]
 have hbeg:=run_beginRound (P:=P) hr1 hr2;refine Ll ?_;show Reach P fb cs _ (.inRegion #[o] [0]::[.beginRound,.code L.body]) _ w;refine Gq (o:=o) O (AJ hog) (λc hc=>by rw[ho]at hc;cases hc)<|valX.upon ?_;have hex:∀a:Act,(execOp a.eval o).run P w=.ok (.value (a.eval (.tmp p))) w:=λa=>by simp[execOp,ho]
 rw[hex];show Reach P fb cs _ _ _ w;refine Gz (Reach.step (stepR_beginRound hbr hbeg) ?_);rw[<- y];have hpx:(Act.eval { tmps:=L.tmps.setIfInBounds p x,defers:=[] } (.tmp p))=x:=by
  have hlt:p<L.tmps.size:=by omega
  simp[Act.eval,hlt]
 rw[hpx,hod];let⟨e1,e2,e3⟩:=HN (n:=n) (w:=w) (a:={ tmps:=L.tmps,defers:=[] }) (dst:=some p) hE1 hsz (λt ht=>by cases ht;exact hp) hxd1;let⟨c1,c2,c3⟩:=HN (n:=n) (w:=w) (dst:=some t) e1 e2 (λt' ht'=>by cases ht';exact ht) hxd1;have hc:Conc n I ν ((t,d)::(p,d)::L.E) st aa ((Act.put { tmps:=L.tmps,defers:=[] } (some p) x).put (some t) x) w1 :=
  {hS.other (by rw[y,A];simp) (λk o hk=>by rw[y];exact N _ _ k (λe=>by rw[e,hIb]at hk;cases hk)) (λk hk=>by rw[y];exact N _ _ k (λe=>K (e▸hk)))with
   size:=c2
   env:=c1
   defers:=by rw[c3,e3];exact MarksOk.nil _ _ _ _ }
 have hgo:=h ⟨fb,.inl (by simp)⟩ cs I ν _ w1 [.code L.body] AG hc;refine Reach.mono (λe a' w' hpost=>?_) hgo;obtain⟨x',u,au,ids2,I',C,p1,E,p3,p4,W,p6⟩:=hpost;have Q:w1.heap[b]?=some (.loop { r with state:=.busy }):=by rw[y,A];simp[hblt]
 have hsz1:w1.heap.size=w.heap.size:=by rw[y,A];simp
 have hb':w'.heap[b]?=some (.loop { r with state:=.busy }):=by rw[W.block b (by omega) K];exact Q
 have hno':¬AX C au b:=λho=>K (W.fresh b (by omega) ho);have hI':I' b=none:=by rw[W.old b (by omega) K];exact hIb
 have hblt':b<w'.heap.size:=(GS.1 hb').1;have fin:Gl au stB->∃v w'',(Instr.endRound b cf).run P w'=.ok v w''/\(∃I2 q,X I2 q v (.imm (.bool cf.isNone))/\StRep I2 q (QJ 2 (Cg L stB cf)) [] w'' /\
   Pin (CT (QJ 1 (Cg L st none))) μ q/\Ext I μ (QJ 1 (Cg L st none)) w I2 q (QJ 2 (Cg L stB cf)) w''):=by
  intro hsub;have hSB:StRep I' C stB [] w':=p3.toStRep.less (CH hsub) .nil (λ_ h=>by simp at h);have R:∀k,AX C stB k->AX C au k:=λk ⟨i,F,g,S,D⟩=>⟨i,F,g,CH hsub i F S,D⟩
  have hnoB:¬AX C stB b:=λh=>hno' (R b h);obtain⟨w2,G⟩:∃w2:World,w2=w'.putObj b (.loop { r with state:=if cf.isNone then .ready else .done,pending:=cf }):=⟨_,rfl⟩
  have hend:(Instr.endRound b cf).run P w'=.ok (.bool cf.isNone) w2:=by
   have:=run_endRound (P:=P) cf hb';rw[G];exact this
  have hw2s:w2.heap.size=w'.heap.size:=by rw[G,A];simp
  have f:∀k,k≠b->w2.heap[k]?=w'.heap[k]?:=λk hk=>by rw[G];exact N _ _ k hk
  have T:StRep I' C stB [] w2:=hSB.other (by omega) (λk o hk=>f k (λe=>by rw[e,hI']at hk;cases hk)) (λk hk=>f k (λe=>hnoB (e▸hk)));let⟨H,V⟩:=OJ C stB;have hPN:(Cg L stB cf).P I' w2 b (b::H):=by
   refine⟨{ r with state:=if cf.isNone then .ready else .done,pending:=cf },C,H,rfl,by rw[G,A];simp[hblt'],⟨by cases cf<;>rfl,rfl⟩,⟨hr4,hr5,hr6,hr7,hr8⟩,λt d hl=>?_,T.blk,T.inj,V,λhm=>hnoB ((V b).1 hm),λi hi=>?_⟩
   ·exact((hE1 t d hl).mono W.imm (Mu.le_refl ν)).sub λj hj g hg=>p4 j (by simp[ZJ hl j hj]) g hg
   ·exact λg hg0=>p4 i (by simp[hi]) g (hF i hi g hg0)
  obtain⟨q,m⟩:∃q:Mu,q=λi=>if i=2 then some (.agg (UL (b::H)))else μ i:=⟨_,rfl⟩
  have s:q 0=some (.func (.yield b) #[] #[]):=by rw[m];simpa using hμ
  have hm2:q 2=some (.agg (UL (b::H))):=by rw[m];simp
  have hold:∀k,k∈b::H->k<w.heap.size->k∈b::bs0:=λk hk hlt=>by
   rcases Ck.1 hk with rfl|hk
   ·simp
   ·exact Gr _ ((J k).2 (W.fresh k (by omega) (R k ((V k).1 hk))))
  have hnew:∀k∈b::H,I' k=none/\k<w2.heap.size:=λk hk=>by
   rcases Ck.1 hk with rfl|hk
   ·exact⟨hI',by omega⟩
   ·obtain⟨i,F,g,S,D,q3⟩:=(V k).1 hk;exact T.apart i F g k S D q3
  have B:∀k,AX μ (QJ 1 (Cg L st none)) k↔k∈b::bs0:=λk=>by
   constructor
   ·rintro ⟨i,F,g,S,D,q3⟩;rcases Gi (by simp) S with⟨rfl,rfl⟩|⟨rfl,rfl⟩
    ·rw[hμ]at D;cases D;exact q3.elim
    ·rw[hg1]at D;cases D;exact Do.1 q3
   ·intro hk;exact⟨1,_,_,hl1,hg1,Do.2 hk⟩
  have z:∀k,AX q (QJ 2 (Cg L stB cf)) k->k∈b::H:=λk=>by
   rintro ⟨i,F,g,S,D,q3⟩;rcases Gi (by simp) S with⟨rfl,rfl⟩|⟨rfl,rfl⟩
   ·rw[s]at D;cases D;exact q3.elim
   ·rw[hm2]at D;cases D;exact Do.1 q3
  refine⟨_,w2,hend,I',q,.imm _ _ (.bool _),?_,?_,?_⟩
  ·refine { imm:=T.imm,blk:=λi F hl=>?_,apart:=λi F g k hl hgi hk=>hnew k (z k ⟨i,F,g,hl,hgi,hk⟩),inj:=λi j F bj gi gj k hi hj hgi hgj hki hkj=>?_,nodup:=.nil,idsFree:=λ_ h=>by simp at h }
   ·rcases Gi (by simp) hl with⟨rfl,rfl⟩|⟨rfl,rfl⟩
    ·exact⟨_,s,b,rfl⟩
    ·exact⟨_,hm2,b,_,s,rfl,hPN⟩
   ·rcases Gi (by simp) hi with⟨rfl,rfl⟩|⟨rfl,rfl⟩<;>rcases Gi (by simp) hj with⟨rfl,rfl⟩|⟨rfl,rfl⟩
    ·rfl
    ·rw[s]at hgi;cases hgi;exact hki.elim
    ·rw[s]at hgj;cases hgj;exact hkj.elim
    ·rfl
  ·intro i hi g hg;simp only[QJ,CT,C0,Jk,Ck,Ji,cb]at hi;have:i≠2:=by omega
   rw[m];simp only[ac this];exact hg
  ·refine { imm:=W.imm,os:=?_,tape:=?_,output:=?_,size:=?_,block:=λk hk hno=>?_,fresh:=λk hk ho=>(B k).2 (hold k (z k ho) hk),old:=λk hk hno=>W.old k (by omega) (λh=>hno ((B k).2 (Gr _ ((J k).2 h)))) }
   ·have:=W.os;rw[y]at this;rw[G];unfold World.putObj at this ⊢;exact this
   ·have:=W.tape;rw[y]at this;rw[G];unfold World.putObj at this ⊢;exact this
   ·have:=W.output;rw[y]at this;rw[G];unfold World.putObj at this ⊢;exact this
   ·have:=W.size;omega
   ·have hkb:k≠b:=λe=>hno ((B k).2 (by simp[e]));rw[f k hkb,W.block k (by omega) (λh=>hno ((B k).2 (Gr _ ((J k).2 h)))),y,N _ _ k hkb]
 cases e with
 |normal=>
  cases x'<;>simp only[LJ]at p1;cases cf with
  |none=>exact fin E
  |some c=>exact E.elim
 |ret=>
  cases x'<;>simp only[LJ]at p1;cases cf with
  |none=>exact E.elim
  |some c=>cases c<;>first|exact E.elim|exact fin E
 |exit j=>
  cases x'<;>simp only[LJ]at p1;cases cf with
  |none=>exact E.elim
  |some c=>
   cases c<;>first|exact E.elim|skip
   obtain⟨S,D⟩:=E;subst S;subst p1;exact fin D
 |goto l=>
  cases x'<;>simp only[LJ]at p1;cases cf<;>exact E.elim
 |panic chain=>
  cases x'<;>simp only[LJ]at p1;cases cf<;>exact E.elim
 |outgrown=>cases x'<;>simp only[LJ]at p1
def zl6:Option Code->L1 DI
 |none=>[]
 |some c=>[.code c]
def FU {g:Operand} {ps:Array Tmp} {asg body c:Code} {f y:Nat} {fc:Func} {df dc:L1 D} {stc stc' stx stB:St} {cf:Option Code} (hg:EM env g=some (.fn (.func f) df dc)) (hf:P.funcs[f]?=some fc) (hname:(fc.name=="runtime.NumGoroutine")=false) (hb:fc.body=some c) (hF:XM∉F) (hEE:wP env E) (hl:∀ i b, Aw (stc++stx) i b→Aw st i b) (hE:∀L:I0,P.funcs[L.fn]?.isSome->L.tmps.size=n->L.ps=ps->L.asg=asg->L.body=body->L.E=E->L.F=F ->
   Ht P f (df++.yld y::dc) ((y,some .pin)::(j,some (.bun y (Cg L stx none)))::stc) (.ret d ((y,some .pin)::(j2,some (.bun y (Cg L stB cf)))::stc'))) (hdis:∀i∈CT stc,i∉CT stx) (hyj:y≠j/\y≠j2/\y∉CT stc/\j∉CT stc) (hcl:∀i,i∈FQ (df++dc)\/i∈Dx stc->i∈CT stc) (hfree:R9 ids' E stB F) (K:DGo P n F Q (zl6 cf++k) E stB ids'):DGo P n F Q (.code (.rangeFunc g ps asg body)::k) env st aa:=by
 intro b cs I μ a w items hd hc;obtain⟨is,rfl,s⟩:=KU hd;rcases b.2 with hb0|⟨hb0,fcb,hfb⟩
 ·exact absurd hb0 hF
 have he:=run_enterLoop_outer (P:=P) (w:=w) b.1.fn a.tmps ps asg body;obtain⟨ro,hro⟩:∃ro,ro=b.1.roundOf:=⟨_,rfl⟩
 have he':(Instr.enterLoop b.1.fn a.tmps ps asg body ro).run P w=(Instr.enterLoop b.1.fn a.tmps ps asg body none).run P w:=by rw[hro,hb0]
 rw[<- he',hro]at he;clear he';obtain⟨L,hL⟩:∃L:I0,L=⟨b.1.fn,ps,asg,body,a.tmps,E,F,μ⟩:=⟨_,rfl⟩
 obtain⟨B,hwa⟩:∃B:World,B=w.alloc (.deferred (some [])):=⟨_,rfl⟩
 rw[<- hwa]at he;have hwas:B.heap.size=w.heap.size+1:=by rw[hwa];simp
 obtain⟨R,hR⟩:∃R:Go.Loop,R={ state:=.ready,pending:=none,fn:=b.1.fn,tmps:=a.tmps,params:=ps,assign:=asg,body:=body,defers:=w.heap.size }:=⟨_,rfl⟩
 rw[<- hR,<- hwas]at he;obtain⟨W,hw1⟩:∃W:World,W=B.alloc (.loop R):=⟨_,rfl⟩
 rw[<- hw1]at he;have hw1s:W.heap.size=w.heap.size+2:=by rw[hw1];simp;omega
 have hw1o:∀i,i<w.heap.size->W.heap[i]?=w.heap[i]?:=λi G=>by rw[hw1,DB B _ (by omega),hwa];exact DB w _ G
 have hw1m:W.heap[w.heap.size]?=some (.deferred (some [])):=by rw[hw1,DB B _ (by omega),hwa];exact Fi w _
 have hw1r:W.heap[B.heap.size]?=some (.loop R):=by rw[hw1];exact Fi B _
 have hInew:∀k,w.heap.size<=k->I k=none:=λk K=>by
  cases hI:I k with
  |none=>rfl
  |some o=>have:=Cx (hc.imm k o hI);omega
 have z:StRep I μ st aa W:=hc.toStRep.other (by omega) (λi o G=>hw1o i (Cx (hc.imm i o G))) (λi G=>hw1o i (Fo hc.toStRep G));have hlx:∀i A,Aw stx i A->Aw st i A:=λi A h=>hl i A (Yq (λhm=>hdis i hm (CB h)) h);have H:∀i A,Aw stc i A->Aw st i A:=λi A h=>hl i A (Yr h);let⟨bs0,hbs0⟩:=OJ μ stx;have S:∀k,k∈bs0->AX μ st k:=λk K=>let⟨i,A,g,N,J⟩:=(hbs0 k).1 K;⟨i,A,g,hlx i A N,J⟩
 have hltx:∀k,k∈bs0->k<w.heap.size:=λk K=>Fo hc.toStRep (S k K);have hEnv:∀t d',lk E t=some d'->X I μ (a.tmps.getD t undef) d':=λt d' hl=>by
  let⟨d,N,J⟩:=QT hEE t d' hl;exact Ur J (hc.env t d N)
 have hB1:(Cg L stx none).P I W B.heap.size (B.heap.size::bs0):=by
  refine⟨R,μ,bs0,rfl,hw1r,⟨by rw[hR],by rw[hR]⟩,?_,?_,λi A h=>z.blk i A (hlx i A h),λi j A bj gi gj k G hj=>z.inj i j A bj gi gj k (hlx i A G) (hlx j bj hj),hbs0,λhm=>by have:=hltx _ hm;omega,?_⟩
  ·rw[hR,hL];exact⟨rfl,rfl,rfl,rfl,rfl⟩
  ·rw[hL];exact hEnv
  ·rw[hL];exact .refl _ _
 obtain⟨C,hμc⟩:∃C:Mu,C=λi=>if i=y then some (.func (.yield B.heap.size) #[] #[])else if i=j then some (.agg (UL (B.heap.size::bs0)))else μ i:=⟨_,rfl⟩
 have hmy:C y=some (.func (.yield B.heap.size) #[] #[]):=by rw[hμc];simp
 have hmj:C j=some (.agg (UL (B.heap.size::bs0))):=by rw[hμc];simp[b7 hyj.1]
 have hmo:∀i∈CT stc,C i=μ i:=λi G=>by
  have N:i≠y:=λe=>hyj.2.2.1 (e▸G);have J:i≠j:=λe=>hyj.2.2.2 (e▸G);rw[hμc];simp[N,J]
 obtain⟨bl,hst0⟩:∃bl:St,bl=(y,some .pin)::(j,some (.bun y (Cg L stx none)))::stc:=⟨_,rfl⟩
 have hl0:∀{i A},Aw bl i A->(i=y/\A=.pin)\/(i=j/\A=.bun y (Cg L stx none))\/(i≠y/\i≠j/\Aw stc i A):=λ{i A} h=>by
  rw[hst0]at h;rcases A1.1 h with h|⟨N,h⟩
  ·exact .inl h
  ·rcases A1.1 h with h|⟨J,h⟩
   ·exact .inr (.inl h)
   ·exact .inr (.inr ⟨N,J,h⟩)
 have hown0:∀k,AX C bl k->k=B.heap.size\/k∈bs0\/AX μ stc k:=λk ⟨i,A,g,N,J,h3⟩=>by
  rcases hl0 N with⟨rfl,rfl⟩|⟨rfl,rfl⟩|⟨_,_,h⟩
  ·rw[hmy]at J;cases J;exact h3.elim
  ·rw[hmj]at J;cases J;rcases Ck.1 (Do.1 h3)with h|h
   ·exact .inl h
   ·exact .inr (.inl h)
  ·exact .inr (.inr ⟨i,A,g,h,by rw[<- hmo i (CB h)];exact J,h3⟩)
 have hcx:∀{i A g k},Aw stc i A->μ i=some g->Ek g k->k∉bs0:=λ{i A g k} N J h3 hm=>by
  obtain⟨i',bi',g',q1,q2,q3⟩:=(hbs0 k).1 hm;have:=z.inj i i' A bi' g g' k (H i A N) (hlx i' bi' q1) J q2 h3 q3;subst this;exact hdis i (CB N) (CB q1)
 have hS0:StRep I C bl [] W:=by
  refine { imm:=z.imm,blk:=λi A h=>?_,apart:=λi A g k h T K=>?_,inj:=λi i' A bj gi gj k G hj T hgj s hkj=>?_,nodup:=.nil,idsFree:=λ_ h=>by simp at h }
  ·rcases hl0 h with⟨rfl,rfl⟩|⟨rfl,rfl⟩|⟨_,_,h⟩
   ·exact⟨_,hmy,_,rfl⟩
   ·exact⟨_,hmj,_,_,hmy,rfl,hB1⟩
   ·let⟨g,q1,q2⟩:=z.blk i A (H i A h);exact⟨g,by rw[hmo i (CB h)];exact q1,q2.sub λx hx g hg=>by rw[hmo x (hcl x (.inr ((D9 h).2 x hx)))];exact hg⟩
  ·rcases hown0 k ⟨i,A,g,h,T,K⟩with h|h|⟨i',bi',g',q1,q2,q3⟩
   ·rw[h];exact⟨hInew _ (by omega),by omega⟩
   ·let⟨i',bi',g',q1,q2,q3⟩:=S k h;exact z.apart i' bi' g' k q1 q2 q3
   ·exact z.apart i' bi' g' k (H i' bi' q1) q2 q3
  ·rcases hl0 G with⟨rfl,rfl⟩|⟨rfl,rfl⟩|⟨_,_,G⟩<;>rcases hl0 hj with⟨rfl,rfl⟩|⟨rfl,rfl⟩|⟨_,_,hj⟩
   ·rfl
   ·rw[hmy]at T;cases T;exact s.elim
   ·rw[hmy]at T;cases T;exact s.elim
   ·rw[hmy]at hgj;cases hgj;exact hkj.elim
   ·rfl
   ·rw[hmj]at T;cases T;have q:=hmo i' (CB hj);rw[hgj]at q;rcases Ck.1 (Do.1 s)with h|h
    ·have:=(z.apart i' bj gj k (H _ _ hj) q.symm hkj)
     have hlt:=Fo hc.toStRep ⟨i',bj,gj,H _ _ hj,q.symm,hkj⟩;omega
    ·exact absurd h (hcx hj q.symm hkj)
   ·rw[hmy]at hgj;cases hgj;exact hkj.elim
   ·rw[hmj]at hgj;cases hgj;have q:=hmo i (CB G);rw[T]at q;rcases Ck.1 (Do.1 hkj)with h|h
    ·have hlt:=Fo hc.toStRep ⟨i,A,gi,H _ _ G,q.symm,s⟩;omega
    ·exact absurd h (hcx G q.symm s)
   ·have q1:=hmo i (CB G);have q2:=hmo i' (CB hj);rw[T]at q1;rw[hgj]at q2;exact z.inj i i' A bj gi gj k (H _ _ G) (H _ _ hj) q1.symm q2.symm s hkj
 have hvg:=bE (I:=I) (μ:=μ) (a:=a) hg λt _ d hl=>hc.env t d hl;generalize hve:a.eval g=vg at hvg;cases hvg with
 |fn _ first cap _ _ hl1 hl2 q1 q2=>
 have hnL:∀{l m:L1 D} {i},i∈FQ l\/i∈FQ m->i∈FQ (l++m):=λ{l m i} h=>by
  have:∀(l m:L1 D),FQ (l++m)=FQ l++FQ m:=λl m=>by
   induction l with
   |nil=>rfl
   |cons x r ih=>simp[FQ,ih]
  rw[this];simpa using h
 have hargs:RepL I C (first++#[Value.func (.yield B.heap.size) #[] #[]]++cap).toList (df++.yld y::dc):=by
  have e:df++.yld y::dc=df++[.yld y]++dc:=by simp
  rw[e,M1,M1];have N:RepL I μ first.toList df:=⟨by simpa using hl1,λi v d p q=>q1 i v d (by simpa using p) q⟩
  have J:RepL I μ cap.toList dc:=⟨by simpa using hl2,λi v d p q=>q2 i v d (by simpa using p) q⟩
  refine RepL.append (RepL.append (N.sub λx hx g hg=>?_) (.mk (.yld _ _ hmy) .nil)) (J.sub λx hx g hg=>?_)
  ·rw[hmo x (hcl x (.inl (hnL (.inl hx))))];exact hg
  ·rw[hmo x (hcl x (.inl (hnL (.inr hx))))];exact hg
 have hEL:=hE L (by rw[hL];simp[hfb]) (by rw[hL];exact hc.size) (by rw[hL]) (by rw[hL]) (by rw[hL]) (by rw[hL]) (by rw[hL]);rw[<- hst0]at hEL;have hcall:=hEL I C W _ hS0 hargs;rw[run_callFunc_body hf hname hb]at hcall;have hres:∃dd,(resolve a.eval (rangeCall g B.heap.size) 0).run P W=.ok dd W/\(invoke dd.target dd.args).run P W=.ok (.enter f (first++#[Value.func (.yield B.heap.size) #[] #[]]++cap)) W:=by
  refine⟨⟨.fn (.func f) cap,first++#[Value.func (.yield B.heap.size) #[] #[]]⟩,?_,?_⟩
  ·have hcv:a.eval (.const (.func (.yield B.heap.size) #[] #[]))=.func (.yield B.heap.size) #[] #[]:=rfl;simp[rangeCall,resolve,Deferred.ofValue,hve,hcv]
  ·simpa[invoke]using run_callFunc_body (w:=W) hf hname hb (first++#[Value.func (.yield B.heap.size) #[] #[]]++cap)
 obtain⟨dd,hr1,hr2⟩:=hres;refine Tq he hr1 hr2 (bc hcall λen w3 hen=>?_);cases en with
 |panicked chain=>exact hen.elim
 |outgrown=>exact hen.elim
 |returned v=>
  obtain⟨I',μ',p1,p2,p3,p4⟩:=hen;have hly:Aw ((y,some .pin)::(j2,some (.bun y (Cg L stB cf)))::stc') j2 (.bun y (Cg L stB cf)):=A1.2 (.inr ⟨b7 hyj.2.1,A1.2 (.inl ⟨rfl,rfl⟩)⟩);obtain⟨g2,hg2,b2,bs2,hb2,rfl,hP2⟩:=p2.blk j2 _ hly;have hyy:μ' y=some (.func (.yield B.heap.size) #[] #[]):=p3 y (by rw[hst0];simp[CT]) _ hmy;rw[hyy]at hb2;cases hb2;have hbs2:∀k∈bs2,I' k=none/\k<w3.heap.size:=λk K=>p2.apart j2 _ _ k hly hg2 (Do.2 K);let⟨r,ν,bsN,e1,hrr,⟨hr2',hr3⟩,⟨hr4,hr5,hr6,hr7,hr8⟩,hE3,hS3,hownN,hnbN,hFN⟩:=Wr hP2 (aa:=ids') (by rw[hL];exact hfree) p2.imm hbs2;subst e1;have hend:=run_endLoop (P:=P) hrr (by rw[hr2'];cases cf<;>simp)
  obtain⟨w4,hw4⟩:∃w4:World,w4=w3.putObj B.heap.size (.loop { r with state:=.exhausted }):=⟨_,rfl⟩
  have hend':(Instr.endLoop B.heap.size).run P w3=.ok cf w4:=by rw[hw4,hend,hr3]
  refine⟨cf,w4,hend',?_⟩;have hlb:B.heap.size<w3.heap.size:=Cx hrr;have hoth:∀i,i≠B.heap.size->w4.heap[i]?=w3.heap[i]?:=λi G=>by
   rw[hw4];unfold World.putObj;simp[Hd (b7 G)]
  have hw4s:w4.heap.size=w3.heap.size:=by rw[hw4];unfold World.putObj;simp
  let⟨hIb,_⟩:=hbs2 _ (Ro ..);have hS4:StRep I' ν stB ids' w4:=hS3.other (by omega) (λi o G=>hoth i (λe=>by rw[e,hIb]at G;cases G)) (λi G=>hoth i (λe=>hnbN ((hownN _).2 (e▸G))));have hsz3:=p4.size;have hno0:∀k,k<w.heap.size->¬AX μ st k->¬AX C bl k:=λk K V h=>by
   rcases hown0 k h with h|h|⟨i,A,g,q1,q2⟩
   ·omega
   ·exact V (S k h)
   ·exact V ⟨i,A,g,H i A q1,q2⟩
  have hblk:∀k,k<W.heap.size->k≠B.heap.size->¬AX C bl k->w4.heap[k]?=W.heap[k]?:=λk K hne V=>(hoth k hne).trans (p4.block k K V);have hfr:∀k,k<W.heap.size->AX ν stB k->AX C bl k:=λk K ho=>p4.fresh k K ⟨j2,_,_,hly,hg2,Do.2 (Gr _ ((hownN k).2 ho))⟩;have hExt:Ext I μ st w I' ν stB w4 :=
   {imm:=p4.imm
    os:=by rw[hw4];unfold World.putObj;exact p4.os.trans (by rw[hw1,hwa];rfl)
    tape:=by rw[hw4];unfold World.putObj;exact p4.tape.trans (by rw[hw1,hwa];rfl)
    output:=by rw[hw4];unfold World.putObj;exact p4.output.trans (by rw[hw1,hwa];rfl)
    size:=by omega
    block:=λk K V=>(hblk k (by omega) (by omega) (hno0 k K V)).trans (hw1o k K)
    fresh:=λk K ho=>by
     rcases hown0 k (hfr k (by omega) ho)with h|h|⟨i,A,g,q1,q2⟩
     ·omega
     ·exact S k h
     ·exact⟨i,A,g,H i A q1,q2⟩
    old:=λk K V=>p4.old k (by omega) (hno0 k K V) }
  have hMk:MarksOk I' ν stB w4 ([{ target:=.collected w.heap.size,args:=#[] }]++a.defers):=by
   obtain⟨rs,r1,r2,r3⟩:=hc.defers;refine⟨w.heap.size::rs,by rw[r1];rfl,Fr.2 ⟨λhm=>?_,r2⟩,λr hr=>?_⟩
   ·have:=Cx (r3 _ hm).1;omega
   have V:¬AX C bl r/\r<W.heap.size/\r≠B.heap.size/\W.heap[r]?=some (.deferred (some []))/\I r=none:=by
    rcases Ck.1 hr with rfl|hr
    ·refine⟨λh=>?_,by omega,by omega,hw1m,hInew _ (BO _)⟩;rcases hown0 _ h with h|h|⟨i,A,g,q1,q2,q3⟩
     ·omega
     ·have:=hltx _ h;omega
     ·have:=Fo hc.toStRep ⟨i,A,g,H i A q1,q2,q3⟩;omega
    ·let⟨N,J,h3⟩:=r3 r hr;have hlt:=Cx N;exact⟨hno0 r hlt h3,by omega,by omega,(hw1o r hlt).trans N,J⟩
   obtain⟨N,J,h3,h4,h5⟩:=V;exact⟨(hblk r J h3 N).trans h4,(p4.old r J N).trans h5,λho=>N (hfr r J ho)⟩
  have hC:Conc n I' ν E stB ids' { a with defers:=[{ target:=.collected w.heap.size,args:=#[] }]++a.defers } w4 :=
   {hS4 with size:=hc.size,env:=λt d hl=>by have:=hE3 t d (by rw[hL];exact hl);rw[hL]at this;exact this,defers:=hMk }
  have hden:bW (zl6 cf++k) ((cf.map Item.code).toList++is):=by
   cases cf with
   |none=>exact s
   |some c=>exact⟨rfl,s⟩
  refine Reach.mono (λe a' w' hp=>?_) (K b cs I' ν _ w4 _ hden hC);obtain⟨x',u,au,ids2,I2,μ2,t1,t2,t3,t4,t5,t6⟩:=hp;have hpin:Pin F μ ν:=by rw[hL]at hFN;exact hFN
  refine⟨x',u,au,ids2,I2,μ2,t1,t2,t3,hpin.trans t4,hExt.trans t5,λr hr=>?_⟩;rcases t6 r hr with h|h
  ·simp only[Lv,Ck]at h;rcases h with h|h
   ·simp only[mkD,Deferred.mk.injEq,Target.collected.injEq,be]at h;exact .inr (by omega)
   ·exact .inl h
  ·exact .inr (by omega)
def JW (t:Nat) {id:Nat} {H:TypeId} (he:lk env t=some (.ref id off)) (hl:lk st id=some (some (.immb H sz xs))) (h:DGo P n F Q todo ((t,.ip H xs off)::env) ((id,none)::st) aa) :
  DGo P n F Q todo env st aa:=by
 intro b cs I μ a w K hd q;have p:Aw st id (.immb H sz xs):=hl;obtain⟨g,l,hlen,C,m,rfl,L,y,V⟩:=q.blk id _ p;let⟨z,A⟩:=q.apart id _ _ C p l rfl;obtain⟨J,r⟩:∃J:U,J=λk=>if k=C then some (.cells m H (0,0))else I k:=⟨_,rfl⟩
 have B:I.le J:=λk o h=>by
  have:k≠C:=λe=>by rw[e,z]at h;cases h
  rw[r];simp[this,h]
 have W:∀k o,J k=some o->I k=some o\/(k=C/\w.heap[k]?=some o):=λk o h=>by
  rw[r]at h;by_cases c:k=C
  ·subst c;simp at h;subst h;exact .inr ⟨rfl,L⟩
  ·simp[c]at h;exact .inl h
 have hE:Ext I μ st w J μ ((id,none)::st) w :=
  {imm:=B,os:=rfl,tape:=rfl,output:=rfl,size:=BO _
   block:=λ_ _ _=>rfl
   fresh:=λk _ ⟨i,D,G,E,R,h3⟩=>⟨i,D,G,(B3.1 E).2,R,h3⟩
   old:=λk _ ho=>by
    have:k≠C:=λe=>ho (e▸⟨id,_,_,p,l,rfl⟩);rw[r];simp[this] }
 have hv:X I μ (a.tmps.getD t undef) (.ref id off):=q.env t _ he;have f:a.tmps.getD t undef=.pointer (some ⟨C,off,none⟩):=by
  generalize a.tmps.getD t undef=v at hv;cases hv with
  |ref b' _ _ hm=>rw[l]at hm;cases hm;rfl
 have S:X J μ (a.tmps.getD t undef) (.ip H xs off):=by
  rw[f];have:=X.ip (I:=J) (μ:=μ) C 0 H xs off (λj=>(m[j]?).getD undef) (λj x s=>?_) (λj x s=>?_)
  ·simpa using this
  ·have T:j<m.size:=by have:=y.1;have:=(A9.1 s).1;simp at *;omega
   rw[r];simp only[U.cell,ar,BS,PW T,KF,ay];exact V _ (by simp)
  ·have T:j<m.size:=by have:=y.1;have:=(A9.1 s).1;simp at *;omega
   simp only[PW T,KF];exact(y.2 j _ x (by simp[T]) s).mono B
 have hc':Conc n J μ ((t,.ip H xs off)::env) ((id,none)::st) aa a w :=
  {imm:=λk o h=>(W k o h).elim (λh=>q.imm k o h) λh=>h.2
   blk:=λi D N=>by
    let⟨_,R⟩:=B3.1 N;let⟨G,u,hr⟩:=q.blk i D R;exact⟨G,u,hr.mono B (Mu.le_refl μ)⟩
   apart:=λi D G k N u c=>by
    let⟨E,R⟩:=B3.1 N;let⟨q1,q2⟩:=q.apart i D G k R u c;refine⟨?_,q2⟩;cases hJk:J k with
    |none=>rfl
    |some o=>
     rcases W k o hJk with h|⟨h,_⟩
     ·rw[q1]at h;cases h
     ·exact absurd (q.inj i id D _ G _ k R p u l c (by rw[h];rfl)) E
   inj:=λi j D bj G gj k hi T u hgj hki hkj=>q.inj i j D bj G gj k (B3.1 hi).2 (B3.1 T).2 u hgj hki hkj
   nodup:=q.nodup
   idsFree:=q.idsFree
   size:=q.size
   env:=λt' d A=>by
    by_cases ht:t=t'
    ·subst ht;rw[A7]at A;cases A;exact S
    ·rw[AB _ _ ht]at A;exact(q.env t' d A).mono B (Mu.le_refl μ)
   defers:=q.defers.ext hE }
 exact(h b cs J μ a w K hd hc').mono λe' a' w' hp=>hp.back (.refl _ _) hE
def bG (t:Nat) {y:TypeId} (C:lk env t=some (.imm (.ip y xs off))) (h:DGo P n F Q todo ((t,.ip y xs off)::env) st aa):DGo P n F Q todo env st aa:=by intro b D I μ a w p G u;refine h b D I μ a w p G { u with env:=λA d q=>?_ };by_cases B:t=A;subst B;rw[A7]at q;cases q;exact((u.env t _ C).immInv).ipD;rw[AB _ _ B]at q;exact u.env A d q
def BY (i j:Nat) {blk:Blk} (hl:lk st i=some (some blk)) (hj:(Gg aa j&&Lp ids'&&Oy ids' aa&&!Gg ids' j)=true) (h:DGo P n F Q todo env ((j,some blk)::(i,none)::st) ids'):DGo P n F Q todo env st aa:=by
 intro b cs I μ a w L hd D;simp only[Am,Kq]at hj;obtain⟨⟨⟨hj1,hj2⟩,hj3⟩,N⟩:=hj;have q:Aw st i blk:=hl;let⟨g,f,hr⟩:=D.blk i _ q;have o:μ j=none:=D.idsFree j (Cp.1 hj1);have hij:i≠j:=λe=>by rw[e,o]at f;cases f
 obtain⟨J,r⟩:∃J:Mu,J=λk=>if k=j then some g else μ k:=⟨_,rfl⟩
 have u:J j=some g:=by rw[r];simp
 have p:∀k,k≠j->J k=μ k:=λk A=>by rw[r];simp[A]
 have G:μ.le J:=λk v A=>by
  have:k≠j:=λe=>by rw[e,o]at A;cases A
  rw[p k this];exact A
 have H:∀k B,Aw ((j,some blk)::(i,none)::st) k B->(k=j/\B=blk)\/(k≠j/\k≠i/\Aw st k B):=λk B h=>by
  rcases A1.1 h with h|⟨R,h⟩
  ·exact .inl h
  ·let⟨T,h3⟩:=B3.1 h;exact .inr ⟨R,T,h3⟩
 have hE:Ext I μ st w I J ((j,some blk)::(i,none)::st) w :=
  {imm:=U.le_refl I,os:=rfl,tape:=rfl,output:=rfl,size:=BO _,block:=λ_ _ _=>rfl
   fresh:=λk _ ⟨x,bx,gx,R,T,h3⟩=>by
    rcases H x bx R with⟨rfl,rfl⟩|⟨V,_,K⟩
    ·rw[u]at T;cases T;exact⟨i,_,_,q,f,h3⟩
    ·exact⟨x,bx,gx,K,by rw[<- p x V];exact T,h3⟩
   old:=λ_ _ _=>rfl }
 have hc':Conc n I J env ((j,some blk)::(i,none)::st) ids' a w :=
  {imm:=D.imm
   blk:=λk B A=>by
    rcases H k B A with⟨rfl,rfl⟩|⟨V,_,K⟩
    ·exact⟨g,u,hr.mono (U.le_refl I) G⟩
    ·let⟨g',R,T⟩:=D.blk k B K;exact⟨g',G _ _ R,T.mono (U.le_refl I) G⟩
   apart:=λk B gk m A y l=>by
    rcases H k B A with⟨rfl,rfl⟩|⟨V,_,K⟩
    ·rw[u]at y;cases y;exact D.apart i _ _ m q f l
    ·exact D.apart k B gk m K (by rw[<- p k V];exact y) l
   inj:=λk s B W gk z m A hk' y C l c=>by
    rcases H k B A with⟨rfl,rfl⟩|⟨V,p1,K⟩<;>rcases H s W hk' with⟨rfl,rfl⟩|⟨E,p1',S⟩
    ·rfl
    ·rw[u]at y;cases y;exact absurd (D.inj s i W _ z _ m S q (by rw[<- p s E];exact C) f c l) p1'
    ·rw[u]at C;cases C;exact absurd (D.inj k i B _ gk _ m K q (by rw[<- p k V];exact y) f l c) p1
    ·exact D.inj k s B W gk z m K S (by rw[<- p k V];exact y) (by rw[<- p s E];exact C) l c
   nodup:=JG hj2
   idsFree:=λk A=>by
    have R:=D.idsFree k (GH hj3 k A);have:k≠j:=λe=>by rw[<- e]at N;rw[Cp.2 A]at N;cases N
    rw[p k this];exact R
   size:=D.size
   env:=λt d hlt=>(D.env t d hlt).mono (U.le_refl I) G
   defers:=D.defers.ext hE }
 exact(h b cs I J a w L hd hc').mono λe' a' w' hp=>hp.back (.of_le G) hE
inductive Yields (P:Program):List D->Bun->Bool->Bun->Prop where
 |nil (S:Bun):Yields P [] S true S
 |cons {d:D} {l:List D} {S S1 S2:Bun} {r:Bool} (h:La P [d] S true S1) (h1:Yields P l S1 r S2):Yields P (d::l) S r S2
 |stop {d:D} {l:List D} {S S1:Bun} (h:La P [d] S false S1):Yields P (d::l) S false S1
def Yields.split {m:L1 D} (h:Yields P (l++m) S r S2):(∃S1,Yields P l S true S1/\Yields P m S1 r S2)\/(r=false/\Yields P l S false S2):=by induction l generalizing S with|nil=>exact .inl ⟨S,.nil S,h⟩|cons d l u=>{cases h with|cons h y=>rcases u y with⟨S1,p,q⟩|⟨p,q⟩;exact .inl ⟨S1,.cons h p,q⟩;exact .inr ⟨p,.cons h q⟩|stop h=>{exact .inr ⟨rfl,.stop h⟩}}
def Yields.nilInv (h:Yields P [] S r S2):r=true/\S2=S:=by cases h;exact⟨rfl,rfl⟩
def Yields.all (S:Nat->Bun) (h:∀i d,l[i]?=some d->La P [d] (S i) true (S (i+1))):Yields P l (S 0) true (S l.length):=by have:∀(l:L1 D) (k:Nat),(∀i d,l[i]?=some d->La P [d] (S (k+i)) true (S (k+i+1)))->Yields P l (S k) true (S (k+l.length)):=by{intro l;induction l with|nil=>intro k _;exact .nil _|cons d l q=>{intro k h;have:=q (k+1) λi d p=>by{have:=h (i+1) d (by simpa using p);rwa [show k+1+i=k+(i+1) by omega]};rw[show k+1+l.length=k+(d::l).length by simp;omega]at this;exact .cons (h 0 d O) this}};have:=this l 0 λi d p=>by{simpa using h i d p};simpa using this
def rS:TT:=ttA++[
 (270,⟨.ptr 182,false,1,8,[.imm .nilp]⟩),
 (235,⟨.ptr 9,false,1,8,[.imm .nilp]⟩),
 (233,⟨.func,false,1,8,[.imm .nilfn]⟩),
 (232,⟨.func,false,1,8,[.imm .nilfn]⟩),
 (268,⟨.func,false,1,8,[.imm .nilfn]⟩),
 (312,⟨.func,false,1,8,[.imm .nilfn]⟩),
 (230,⟨.ptr 49,false,1,8,[.imm .nilp]⟩)]
def Cj:TTok prog rS:=.of_eq (l:=[4,3,9,49,25,182,45,47,5,23,22,73,46,180,71,43,178,40,41,113,111,28,293,195,1,139,296,190,183,185,187,26,246,191,270,235,233,232,268,312,230]) (by kernel_rfl)
def nd (p:L1 Pt) (h:run rS n 300 p todo env st aa []=.at k u au ids' ob) (q:A8 ob) (y:Tq1 n F Q k u au ids'):Tq2 n F Q todo env st aa:=JY Cj mixed 300 p h q y
def yF (h:run rS n 300 [] todo env st aa []=.at k u au ids' ob) (q:Tq1 n F Q k u au ids') (p:A8 ob:=by simp):Tq2 n F Q todo env st aa:=nd [] h p q
def Ee (h:run rS n 300 [] todo env st aa []=.at k u au ids' ob) (q:Tq1 n F Q k u au ids') (p:A8 ob:=by simp[Ap]):Tq2 n F Q todo env st aa:=nd [] h p q
def ng (p:L1 Pt) (h:run rS n 300 p todo env st aa []=.at k u au ids' ob) (q:A8 ob) (y:Tq1 n F Q k u au ids'):Tq1 n F Q todo env st aa:=Iw Cj mixed 300 p h q y
def EI (h:run rS n 300 [] todo env st aa []=.at k u au ids' ob) (q:Tq1 n F Q k u au ids') (p:A8 ob:=by simp[Ap]):Tq1 n F Q todo env st aa:=ng [] h p q
def ni (h:Fm rS n env todo=some ⟨es,m,sz,e,g,ob,some t,q⟩) (u:Ap g->0<=m/\es[m.toNat]?=some c/\c.length=sz) (p:A8 ob) (y:Tq1 n F Q q ((t,gD g (.ip e c 0))::env) st aa):Tq1 n F Q todo env st aa:=G4 Cj h u p y
def niz (h:Fm rS n env todo=some ⟨es,(i:Int),sz,e,g,ob,some t,q⟩) (u:es[i]?=some c) (y:Tq1 n F Q q ((t,gD g (.ip e c 0))::env) st aa) (A:c.length=sz:=by simp) (p:A8 ob:=by simp):Tq1 n F Q todo env st aa:=ni h (λ_=>⟨by omega,by simpa using u,A⟩) p y
def nizc (h:Fm rS n env todo=some ⟨es,(i:Int),sz,e,g,ob,some t,q⟩) (u:es[i]?=some c) (y:Tq1 n F Q q ((t,gD g (.ip e c 0))::env) st aa) (A:c.length=sz:=by simp) (p:A8 ob:=by simp[Ap]):Tq1 n F Q todo env st aa:=ni h (λ_=>⟨by omega,by simpa using u,A⟩) p y
mutual
def Kj:Y->L1 D
 |.mk s n x h=>(if s=2 then[.ip 182 (As (.mk s n x h)) 2]else[])++Nl h
def Nl:L1 Y->L1 D
 |[]=>[]
 |t::r=>Kj t++Nl r
end
def Kt (r:St):St:=(1,some (.cells 268 1 [.yld 3]))::(2,some (.cells 312 1 [.fn (.func 274) [] [.ref 1 0,.ref 2 0]]))::r
def zgj (t:Y) (b:Bool) (S S':Bun):Prop:=Ht prog 274 [.ip 182 (As t) 0,.ref 1 0,.ref 2 0]
 (Kt [(3,some .pin),(4,some (.bun 3 S))]) (.ret (.imm (.bool b)) (Kt [(3,some .pin),(5,some (.bun 3 S'))]))
abbrev T5:List (Nat×Nat):=[(1,1),(2,2),(3,3),(6,4)]
def Y9 (s n:Int) (x:Z) (ps:L1 Y) (D:∀t∈ps,∀{b:Bool} {S S':Bun},Yields prog (Kj t) S b S'->zgj t b S S') {b:Bool} (H:Yields prog (Nl ps) S b S'):Tq2 Tryz.f274.ntmps [1,2,3,4] (KZ rS Tryz.f274.results.toList (.ret (.imm (.bool b)) (Kt [(3,some .pin),(5,some (.bun 3 S'))]))) [.code (ES Tryz.f274 2)] [(0,.ip 182 (As (.mk s n x ps)) 0),(1,.ref 1 0),(2,.ref 2 0)] (Kt [(3,some .pin),(6,some (.bun 3 S))]) [7,8,5]:=by refine Ee O<|Gv (t:=22) O λJ=>?_;have G:ps.length<=9223372036854775807:=by{simp[Gy,maxLen]at J;omega};refine Al (λy:Nat×Bun=>[(24,i7 y.1),(23,i7 ps.length),(0,.ip 182 (As (.mk s n x ps)) 0),(1,.ref 1 0),(2,.ref 2 0)]) (λy=>Kt [(3,some .pin),(6,some (.bun 3 y.2))]) [7,8,5] (λy=>ps.length-y.1) (λy=>y.1<=ps.length/\Yields prog (Nl (ps.drop y.1)) y.2 b S') (0,S) ⟨AK _,H⟩ ⟨rfl,B8 (by simp),AC⟩ B0 O λy K L=>?_;obtain⟨i,N⟩:=y;obtain⟨u,p⟩:=K;simp only at u p;refine Ee O<|Aa O (λh=>?_) (λh=>?_);simp at h;let⟨t,q⟩:=At h;have A:ps.drop i=t::ps.drop (i+1):=Au q;rw[A]at p;refine Ee O<|niz O (AQ q)<|EI O ?_;rcases Yields.split p with⟨S1,B,C⟩|⟨B,C⟩;exact Ao [7] T5 [(5,7)] O (D t (AF q) B) H9 O O<|ng [] O (by simp[Ap];rfl)<|Ag O λh=>yF O<|AR 6 7 O<|Ad (L (i+1,S1) (by simp only;omega) ⟨by simp only;omega,C⟩) ⟨B8 (Gx (by simp only;omega) (by simp only;omega)),B0⟩ B0 O;subst B;exact Ao [7] T5 [(5,7)] O (D t (AF q) C) H9 O O<|ng [] O (by simp[Ap];rfl)<|Aq O λh=>yF O<|BY (ids':=[]) 7 5 O O<|Af ⟨_,rfl,tV O,B0⟩;simp at h;have A:ps.drop i=[]:=Bu (by omega);rw[A]at p;obtain⟨rfl,rfl⟩:=p.nilInv;exact Az O<|yF O<|BY (ids':=[]) 6 5 O O<|Af ⟨_,rfl,tV O,B0⟩
def cr:=@List.sizeOf_lt_of_mem
def uP:∀(t:Y) {b:Bool} {S S':Bun},Yields prog (Kj t) S b S'->zgj t b S S'
 |.mk s n x u,b,S,S',q=>by have y:∀t∈u,∀{b:Bool} {S S':Bun},Yields prog (Kj t) S b S'->zgj t b S S':=λt A {b S S'} h=>uP t h;refine uY Cj func274 (by decide +kernel) O [6,7,8,5] O O ?_;refine EI O ?_;simp only[Kj]at q;by_cases p:s=2;rw[ae p]at q;cases q with|cons h B=>refine HQ (j:=4) (j2:=6) O (by simp[Ap]) (by simp[Ap,p]) h O O O O O ?_;refine ng [] O (by simp[Ap];rfl) ?_;refine Aa O (λh=>by simp[p]at h) (λh=>?_);refine Gu ?_;exact Ad (Y9 s n x u y B) ⟨rfl,rfl,rfl,ab⟩ ⟨rfl,rfl,rfl,rfl,ab⟩ O|stop h=>{refine HQ (j:=4) (j2:=6) O (by simp[Ap]) (by simp[Ap,p]) h O O O O O ?_;refine ng [] O (by simp[Ap];rfl) ?_;refine Aa O (λh=>?_) (λh=>by simp[p]at h);refine yF O ?_;refine BY (ids':=[]) 6 5 O O ?_;exact Af ⟨_,rfl,tV O,rfl,rfl,rfl,rfl,ab⟩};rw[ac p]at q;refine Nz (.imm (.bool true)) O (by simp[Ap,p]) ?_;refine ng [] O (by simp[Ap];rfl) ?_;refine Aa O (λh=>by simp[p]at h) (λh=>?_);refine Gu ?_;refine BY (ids':=[7,8,5]) 4 6 O O ?_;exact Ad (Y9 s n x u y q) ⟨rfl,rfl,rfl,ab⟩ ⟨rfl,rfl,rfl,rfl,ab⟩ O
termination_by t=>SizeOf.sizeOf t
decreasing_by all_goals(have:=cr A;simp_wf;omega)
def bO (t:Y):St:=[(6,some (.cells 270 1 [.ip 182 (As t) 0]))]
abbrev c6:List (Nat×Nat):=[(1,1),(2,2),(3,3),(4,4)]
def yI (t:Y) {b:Bool} (h:Yields prog (Kj t) S b S'):Tq4 273 [.yld 3,.ref 6 0] ((3,some .pin)::(4,some (.bun 3 S))::bO t) (.ret (.tup []) ((3,some .pin)::(5,some (.bun 3 S'))::bO t)):=by exact Ac Cj func273 O [1,2,7,5]<|EI O<|Ao [7] c6 [(5,7)] O (uP t h) H9 O O<|EI O<|BY (ids':=[]) 7 5 O O<|Bw ⟨[],BD⟩
def zea (t:Y):Tq4 232 [.ip 182 (As t) 0] [] (.ret (.fn (.func 273) [] [.ref 6 0]) (bO t)):=by exact Ac Cj func232 O [6]<|EI O<|Af ⟨_,AC⟩
mutual
def Ej:Y->L1 Y
 |.mk s n x h=>(if s=2 then[.mk s n x h]else[])++CQ h
def CQ:L1 Y->L1 Y
 |[]=>[]
 |t::r=>Ej t++CQ r
end
mutual
def Rd:∀t:Y,Kj t=(Ej t).map λu=>.ip 182 (As u) 2
 |.mk s n x p=>by simp only[Kj,Ej,Cy,UQ p];by_cases h:s=2<;>simp[h]
def UQ:∀h:L1 Y,Nl h=(CQ h).map λu=>.ip 182 (As u) 2
 |[]=>rfl
 |t::r=>by simp only[Nl,CQ,Cy,Rd t,UQ r]
end
def F7:Y->Z
 |.mk _ _ x _=>x
def C4 (t:Y):L1 Z:=(Ej t).map F7
def zc8:Code->Option (Code×Code)
 |.rangeFunc _ _ a b=>some (a,b)
 |.seq x y=>match zc8 x with
  |some r=>some r
  |none=>zc8 y
 |.block _ c=>zc8 c
 |_=>none
def zlo (f:Func):Code:=match zc8 (ES f 0)with
 |some (a,_)=>a
 |none=>.skip
def zc6 (f:Func):Code:=match zc8 (ES f 0)with
 |some (_,b)=>b
 |none=>.skip
def ttL:TT:=[
 (3,⟨.int .i64,false,1,8,[.imm (.int .i64 0)]⟩),
 (9,⟨.str,false,1,16,[.imm (.str [])]⟩),
 (4,⟨.bool,false,1,1,[.imm (.bool false)]⟩),
 (139,⟨.map 9 4,false,1,8,[.imm .nilmap]⟩),
 (313,⟨.func,false,1,8,[.imm .nilfn]⟩),
 (2,⟨.int .i64,false,1,8,[.imm (.int .i64 0)]⟩),
 (272,⟨.func,false,1,8,[.imm .nilfn]⟩),
 (69,⟨.func,false,1,8,[.imm .nilfn]⟩),
 (21,⟨.int .i32,false,1,4,[.imm (.int .i32 0)]⟩),
 (73,⟨.sl 9,false,1,24,[.nils]⟩),
 (271,⟨.func,false,1,8,[.imm .nilfn]⟩)]
def IY:TTok prog ttL:=.of_eq (l:=[3,9,4,139,313,2,272,69,21,73,271]) (by kernel_rfl)
def ld (p:L1 Pt) (h:run ttL n 300 p todo env st aa []=.at k u au ids' ob) (q:A8 ob) (y:Tq1 n F Q k u au ids'):Tq2 n F Q todo env st aa:=JY IY mixed 300 p h q y
def oI (h:run ttL n 300 [] todo env st aa []=.at k u au ids' ob) (q:Tq1 n F Q k u au ids') (p:A8 ob:=by simp):Tq2 n F Q todo env st aa:=ld [] h p q
def aF (h:run ttL n 300 [] todo env st aa []=.at k u au ids' ob) (q:Tq1 n F Q k u au ids') (p:A8 ob:=by simp[Ap]):Tq2 n F Q todo env st aa:=ld [] h p q
def lg (p:L1 Pt) (h:run ttL n 300 p todo env st aa []=.at k u au ids' ob) (q:A8 ob) (y:Tq1 n F Q k u au ids'):Tq1 n F Q todo env st aa:=Iw IY mixed 300 p h q y
def zpc (h:run ttL n 300 [] todo env st aa []=.at k u au ids' ob) (q:Tq1 n F Q k u au ids') (p:A8 ob:=by simp):Tq1 n F Q todo env st aa:=lg [] h p q
def M4 (h:run ttL n 300 [] todo env st aa []=.at k u au ids' ob) (q:Tq1 n F Q k u au ids') (p:A8 ob:=by simp[Ap]):Tq1 n F Q todo env st aa:=lg [] h p q
def li (h:Fm ttL n env todo=some ⟨es,m,sz,e,g,ob,some t,q⟩) (u:Ap g->0<=m/\es[m.toNat]?=some c/\c.length=sz) (p:A8 ob) (y:Tq1 n F Q q ((t,gD g (.ip e c 0))::env) st aa):Tq1 n F Q todo env st aa:=G4 IY h u p y
def liz (h:Fm ttL n env todo=some ⟨es,(i:Int),sz,e,g,ob,some t,q⟩) (u:es[i]?=some c) (y:Tq1 n F Q q ((t,gD g (.ip e c 0))::env) st aa) (A:c.length=sz:=by simp) (p:A8 ob:=by simp):Tq1 n F Q todo env st aa:=li h (λ_=>⟨by omega,by simpa using u,A⟩) p y
def lizc (h:Fm ttL n env todo=some ⟨es,(i:Int),sz,e,g,ob,some t,q⟩) (u:es[i]?=some c) (y:Tq1 n F Q q ((t,gD g (.ip e c 0))::env) st aa) (A:c.length=sz:=by simp) (p:A8 ob:=by simp[Ap]):Tq1 n F Q todo env st aa:=li h (λ_=>⟨by omega,by simpa using u,A⟩) p y
def zcq (f:Nat->L1 Z):Nat->Nat->L1 Z
 |_,0=>[]
 |k,n+1=>f k++zcq f (k+1) n
def Hg:Nat->Z->L1 Z
 |0,b=>[b]
 |m+1,b=>zcq (λk=>Hg m (b++[UInt8.ofNat (97+k)])) 0 26
def dS (l:L1 Z):L1 D:=l.map λs=>.imm (.str s)
def sR (r:St):St:=(1,some (.cells 69 1 [.yld 3]))::(2,some (.cells 313 1 [.fn (.func 276) [] [.ref 1 0,.ref 2 0]]))::r
def zm8 (b:Z) (m:Int) (r:Bool) (S S':Bun):Prop:=Ht prog 276 [.imm (.str b),.imm (.int .i64 m),.ref 1 0,.ref 2 0]
 (sR [(3,some .pin),(4,some (.bun 3 S))]) (.ret (.imm (.bool r)) (sR [(3,some .pin),(5,some (.bun 3 S'))]))
def xD (f:Nat->L1 Z) (k n:Nat):zcq f k (n+1)=f k++zcq f (k+1) n:=rfl
def qR (a b:L1 Z):dS (a++b)=dS a++dS b:=by simp[dS]
def zde:∀(m:Nat) (b:Z) {r:Bool} {S S':Bun},m<=1000->b.length+m<=1000000->Yields prog (dS (Hg m b)) S r S'->zm8 b m r S S'
 |0,b,r,S,S',_,R,u=>by refine uY IY func276 (by decide +kernel) O [6,7,8,5] O O ?_;refine M4 O ?_;refine Aq O λh=>?_;refine aF O ?_;cases u with|cons h T=>obtain⟨rfl,rfl⟩:=T.nilInv;refine HQ (j:=4) (j2:=6) O (by simp[Ap]) ab h O O O O O ?_;refine M4 O ?_;refine BY (ids':=[]) 6 5 O O ?_;exact Af ⟨_,rfl,tV O,rfl,rfl,rfl,rfl,ab⟩|stop h=>{refine HQ (j:=4) (j2:=6) O (by simp[Ap]) ab h O O O O O ?_;refine M4 O ?_;refine BY (ids':=[]) 6 5 O O ?_;exact Af ⟨_,rfl,tV O,rfl,rfl,rfl,rfl,ab⟩}
 |m+1,b,r,S,S',d,R,u=>by refine uY IY func276 (by decide +kernel) O [6,7,8,5] O O ?_;refine M4 O ?_;refine Aa O (λh=>by simp at h;omega) (λh=>?_);refine aF O ?_;refine BY (ids':=[7,8,5]) 4 6 O O ?_;refine Al (λy:Nat×Bun=>[(13,i7 y.1),(0,.imm (.str b)),(1,i7 (((m+1:Nat):Int))),(2,.ref 1 0),(3,.ref 2 0)]) (λy=>sR [(3,some .pin),(6,some (.bun 3 y.2))]) [7,8,5] (λy=>26-y.1) (λy=>y.1<=26/\Yields prog (dS (zcq (λk=>Hg m (b++[UInt8.ofNat (97+k)])) y.1 (26-y.1))) y.2 r S') (0,S) ⟨Nat.zero_le _,u⟩ ⟨rfl,rfl,rfl,rfl,rfl,ab⟩ ⟨rfl,rfl,rfl,rfl,ab⟩ O λy V W=>?_;obtain⟨k,K⟩:=y;obtain⟨A,p⟩:=V;simp only at A p;refine aF O ?_;refine Aa O (λh=>?_) (λh=>?_);simp at h;have B:26-k=(26-(k+1))+1:=by{omega};rw[B,xD,qR]at p;have C:IntKind.i64.wrap (97+(k:Int))=97+k:=Gx (by omega) (by omega);have D:IntKind.i32.wrap (97+(k:Int))=97+k:=by{simp only[IntKind.wrap,IntKind.bits,IntKind.signed];simp;omega};have L:(97+(k:Int)).toNat=97+k:=by{omega};have N:IntKind.i64.wrap (((m+1:Nat):Int)-1)=m:=by{rw[Gx (by omega) (by omega)];omega};refine ld [] O (by simp only[C,D];simp[Ap];omega) ?_;have q:∀(x:Z) (y:Int) (G:Bool) (S1:Bun),x=b++[UInt8.ofNat (97+k)]->y=m->Yields prog (dS (Hg m (b++[UInt8.ofNat (97+k)]))) K G S1->zm8 x y G K S1:=λx y G S1 a c h=>by{rw[a,c];exact zde m _ (by omega) (by simp;omega) h};rcases Yields.split p with⟨S1,H,J⟩|⟨H,J⟩;refine L6 (fr:=[7]) T5 [(5,7)] O (by simp) (q _ _ true S1 (by rw[C,D,L]) (by rw[N]) H) ⟨⟨rfl,rfl,rfl⟩,⟨rfl,rfl,rfl⟩,⟨rfl,rfl,rfl⟩,⟨rfl,rfl,rfl⟩,ab⟩ O O O O ?_;refine M4 O ?_;refine Ag O λh=>?_;refine oI O ?_;refine AR 6 7 O ?_;exact Ad (W (k+1,S1) (by simp only;omega) ⟨by simp only;omega,J⟩) ⟨B8 (Gx (by simp only;omega) (by simp only;omega)),rfl,rfl,rfl,rfl,ab⟩ ⟨rfl,rfl,rfl,rfl,ab⟩ O;subst H;refine L6 (fr:=[7]) T5 [(5,7)] O (by simp) (q _ _ false S' (by rw[C,D,L]) (by rw[N]) J) ⟨⟨rfl,rfl,rfl⟩,⟨rfl,rfl,rfl⟩,⟨rfl,rfl,rfl⟩,⟨rfl,rfl,rfl⟩,ab⟩ O O O O ?_;refine M4 O ?_;refine Aq O λh=>?_;refine oI O ?_;refine BY (ids':=[]) 7 5 O O ?_;exact Af ⟨_,rfl,tV O,rfl,rfl,rfl,rfl,ab⟩;simp at h;have B:26-k=0:=by{omega};rw[B]at p;obtain⟨rfl,rfl⟩:=p.nilInv;refine Az O ?_;refine oI O ?_;refine BY (ids':=[]) 6 5 O O ?_;exact Af ⟨_,rfl,tV O,rfl,rfl,rfl,rfl,ab⟩
def cR (D:Yields prog (dS (Hg 1 []++Hg 2 [])) S false S'):Tq4 275 [.yld 3] [(3,some .pin),(4,some (.bun 3 S))] (.ret (.tup []) [(3,some .pin),(5,some (.bun 3 S'))]):=by refine Ac IY func275 O [1,2,6,7,8,5]<|M4 O<|BY (ids':=[7,8,5]) 4 6 O O<|Al (λy:Nat×Bun=>[(3,i7 y.1),(1,.ref 1 0),(2,.ref 2 0)]) (λy=>sR [(3,some .pin),(6,some (.bun 3 y.2))]) [7,8,5] (λy=>3-y.1) (λy=>(y.1=1/\Yields prog (dS (Hg 1 []++Hg 2 [])) y.2 false S')\/(y.1=2/\Yields prog (dS (Hg 2 [])) y.2 false S')) (1,S) (.inl ⟨rfl,D⟩) AC B0 O λy q G=>?_;obtain⟨k,C⟩:=y;simp only at q;refine aF O ?_;have p:∀(n:Nat) (y:Int) (A:Bool) (S1:Bun),n<=2->y=n->Yields prog (dS (Hg n [])) C A S1->zm8 [] y A C S1:=λn y A S1 K H h=>by{rw[H];exact zde n _ (by omega) (by simp;omega) h};rcases q with⟨u,q⟩|⟨u,q⟩;rw[qR]at q;rcases Yields.split q with⟨S1,J,B⟩|⟨_,B⟩;exact Ao [7] T5 [(5,7)] O (p 1 _ true S1 (by omega) (by rw[u]) J) H9 O O<|M4 O<|Aq O λh=>oI O<|AR 6 7 O<|Ad (G (k+1,S1) (by simp only;omega) (.inr ⟨by simp only;omega,B⟩)) ⟨B8 (Gx (by simp only;omega) (by simp only;omega)),AP⟩ B0 O;exact Ao [7] T5 [(5,7)] O (p 1 _ false S' (by omega) (by rw[u]) B) H9 O O<|M4 O<|Ag O λh=>Az O<|BY (ids':=[]) 7 5 O O<|Bw ⟨[],B0⟩;exact Ao [7] T5 [(5,7)] O (p 2 _ false S' (by omega) (by rw[u]) q) H9 O O<|M4 O<|Ag O λh=>Az O<|BY (ids':=[]) 7 5 O O<|Bw ⟨[],B0⟩
def lE:Tq3 234 [] (.fn (.func 275)):=by exact Ac IY func234 O []<|M4 O<|Ab O O O
def TI (l:L1 Z) (s:Z):L1 Z:=if Bm l s then l else l++[s]
def dK (l:L1 Z) (s:Z):Gn (E3 l) (.str s) (.bool true)=E3 (TI l s):=by unfold TI;by_cases h:Bm l s=true;rw[ae h];induction l with|nil=>simp[Bm]at h|cons x r q=>{simp only[Bm,Fg]at h;simp only[E3,C0,Gn,eqK];by_cases p:s=x;subst p;simp;have u:Bm r s=true:=by{rcases h with h|h;exact absurd (by simpa using h) (λe:x=s=>p e.symm);exact h};have:=q u;simp only[E3]at this;simp[p,this]};rw[ac h];exact U6 l s (by simpa using h)
def Ic (l m:L1 Z) (x:Z):Bm (l++m) x=(Bm l x||Bm m x):=by induction l with|nil=>simp[Bm]|cons y r h=>{simp[Bm,h,ZU]}
def iA (l:L1 Z) (s x:Z):Bm (TI l s) x=Bm (l++[s]) x:=by unfold TI;by_cases h:Bm l s=true;rw[ae h,Ic];by_cases p:s=x;subst p;rw[h];rfl;simp[Bm,p];rw[ac h]
def bH (t:Nat) {f:Fn} (B:lk env t=some (.imm (.fn f))) (h:DGo P n F Q todo ((t,.fn f [] [])::env) st aa):DGo P n F Q todo env st aa:=by intro b C I μ a w p D u;refine h b C I μ a w p D { u with env:=λy d q=>?_ };by_cases A:t=y;subst A;rw[A7]at q;cases q;rw[(u.env t _ B).immInv.fnInv];exact .fn _ #[] #[] [] [] O O (λi v d h=>by simp at h) (λi v d h=>by simp at h);rw[AB _ _ A]at q;exact u.env y d q
def Yields.pre {m:L1 D} (h:∀x∈l,La P [x] S true S) (p:La P [d] S false S'):Yields P (l++d::m) S false S':=by induction l with|nil=>exact .stop p|cons x r q=>{exact .cons (h x (by simp)) (q λy u=>h y (by simp[u]))}
def stF (h:L1 Z) (s:Z):St:=[(1,some (.immb 9 1 [.str s])),(2,some (.map (E3 h))),(3,some (.cells 139 1 [.mapr 2]))]
def dZ:Code->Option (Code×Code)
 |.rangeFunc _ _ a b=>some (a,b)
 |.seq x y=>match dZ x with
  |some r=>some r
  |none=>dZ y
 |.block _ c=>dZ c
 |_=>none
def zc7 (f:Func):Code:=match dZ (ES f 0)with
 |some (a,_)=>a
 |none=>.skip
def sL (f:Func):Code:=match dZ (ES f 0)with
 |some (_,b)=>b
 |none=>.skip
def EL (l:L1 Z) (s:Z):Bool:=BV s&&!Bm l s
def zh4 (p:L1 Z) (u:Z) (B:EL p u=false) {L:I0} (C:prog.funcs[L.fn]?.isSome) (D:L.tmps.size=Tryz.f167.ntmps) (G:L.ps = #[18]) (H:L.asg=zc7 Tryz.f167) (J:L.body=sL Tryz.f167) (y:L.E=[(2,.ref 1 0),(3,.ref 3 0)]) (A:L.F=[]):La prog [.imm (.str u)] (Cg L (stF p []) none) true (Cg L (stF p []) none):=by let⟨T,K⟩:=Mz.1 C;refine Qw (cf:=none) (d:=.imm (.str u)) (aa:=[7,8]) (t:=6) (p:=18) K G (H.trans O) D O O O O (by decide) (by decide) ?_ ?_;rw[y,A];refine⟨by decide,?_⟩;simp[stF,PM,Hb,Dx,LM,FQ];rw[J,y,A];refine aF O<|Bt O (Gk u)<|M4 O<|Dd IY 2 O O O (EC p) (by simp[Ap]) (z:=.bool false) O (λ_=>.bool _) (IN p u)<|M4 O ?_;have q:(BV u&&!Bm p u)=false:=B;refine Aa O (λh=>?_) (λh=>?_);exfalso;cases N:BV u<;>cases R:Bm p u<;>simp[N,R]at h q;refine aF O<|Bw (?_:Gl _ (stF p []));exact AC
def rL (p:L1 Z) (u:Z) (B:EL p u=true) {L:I0} (C:prog.funcs[L.fn]?.isSome) (D:L.tmps.size=Tryz.f167.ntmps) (G:L.ps = #[18]) (H:L.asg=zc7 Tryz.f167) (J:L.body=sL Tryz.f167) (y:L.E=[(2,.ref 1 0),(3,.ref 3 0)]) (A:L.F=[]):La prog [.imm (.str u)] (Cg L (stF p []) none) false (Cg L (stF p u) (some .ret)):=by let⟨T,K⟩:=Mz.1 C;refine Qw (cf:=some .ret) (d:=.imm (.str u)) (aa:=[7,8]) (t:=6) (p:=18) K G (H.trans O) D O O O O (by decide) (by decide) ?_ ?_;rw[y,A];refine⟨by decide,?_⟩;simp[stF,PM,Hb,Dx,LM,FQ];rw[J,y,A];refine aF O<|Bt O (Gk u)<|M4 O<|Dd IY 2 O O O (EC p) (by simp[Ap]) (z:=.bool false) O (λ_=>.bool _) (IN p u)<|M4 O ?_;have q:(BV u&&!Bm p u)=true:=B;refine Aa O (λh=>?_) (λh=>?_);refine aF O<|Af (?_:Gl _ (stF p u));exact AC;exfalso;cases N:BV u<;>cases R:Bm p u<;>simp[N,R]at h q
def zh5 (l:L1 Z) (s:Z) (A B:L1 Z) (j:l.length<=1000000) (K:Hg 1 []++Hg 2 []=A++s::B) (C:∀x∈A,EL l x=false) (d:EL l s=true):Tq3 167 [.sl (Cq l)] (.str s):=by refine Ac IY func167 O [1,2,3,4,7,8]<|M4 O<|E5 O<|M4 O<|Al (λy:Nat×L1 Z=>[(10,i7 y.1),(9,i7 l.length),(8,.imm (.sl (Cq l))),(2,.ref 1 0),(3,.ref 3 0)]) (λy=>stF y.2 []) [7,8] (λy=>l.length-y.1) (λy=>y.1<=l.length/\∀x,Bm y.2 x=Bm (l.take y.1) x) (0,[]) ⟨AK _,λ_=>rfl⟩ ⟨rfl,B8 (by simp),AC⟩ AC O λy H f=>?_;obtain⟨i,p⟩:=y;obtain⟨N,q⟩:=H;simp only at N q;refine aF O<|Aa O (λh=>?_) (λh=>?_);simp at h;let⟨x,J⟩:=At h;refine oI O<|li O (c:=[.str x]) (λ_=>⟨by simp,by simpa using MQ J,rfl⟩) (by simp)<|zpc O<|FD IY O O O (EC p)<|zpc O ?_;rw[dK];exact Ad (f (i+1,TI p x) (by simp only;omega) ⟨by simp only;omega,λy=>by simp only;rw[iA,Ic,q y,Ba J,Ic]⟩) ⟨B8 (Gx (by simp only;omega) (by simp only;omega)),B0⟩ AC O;simp at h;have G:∀x,EL p x=EL l x:=λx=>by{have:=q x;rw[CA (by omega)]at this;simp only[EL,this]};refine Az O<|oI O<|Ah O lE<|oI O<|bH 17 O<|FU (y:=3) (j:=4) (j2:=5) (stc:=[]) (stc':=[]) (stx:=stF p []) (stB:=stF p s) (cf:=some .ret) (E:=[(2,.ref 1 0),(3,.ref 3 0)]) (ids':=[7,8,9]) (d:=.tup []) O func275 (by decide +kernel) O (by decide) AP (CH AC) (λL R T V W a b c=>cR ?_) ?_ ?_ ?_ ?_ ?_;rw[K,qR];refine Yields.pre (λx J=>?_) (rL p s (by rw[G];exact d) R T V W a b c);obtain⟨u,g,rfl⟩:=C7.1 J;exact zh4 p u (by rw[G];exact C u g) R T V W a b c;simp[CT];simp[CT];intro i H;have e:FQ (([]:L1 D)++[])=[]:=rfl;rw[e]at H;simp[Dx]at H;refine⟨by decide,?_⟩;simp[stF,PM,Hb,Dx,LM,FQ,CT];exact Ab O O O
def jX (t:Tm):St:=[(6,some (.cells 230 1 [.ip 49 (dTmc t) 0]))]
def BN (op h:Int):Bool:=op==5||op==27||(op==7&&h==1)
def rD (op n:Int) (x:Z) (ks:L1 Tm) (ps:L1 Y) (p:Int) (h:BN op p=true):Tq4 166 [.ip 49 (dTmc (.mk op n x ks ps)) 0,i7 p] [] (.ret (.fn (.func 231) [] [.ref 6 0]) (jX (.mk op n x ks ps))):=by refine Ac Cj func166 O [6]<|EI O ?_;have A:(op==5||op==27||(op==7&&p==1))=true:=h;refine Aa rfl (λy=>?_) (λy=>?_);refine Ee O<|Aa O (λ_=>?_) (λq=>by rw[y]at q;cases q);exact Ee O<|Af ⟨_,AC⟩;refine Ee O<|Aa O (λq=>?_) (λq=>?_);refine Ee O<|Aa O (λ_=>?_) (λu=>by rw[q]at u;cases u);exact Ee O<|Af ⟨_,AC⟩;refine Ee O<|Aa O (λ_=>?_) (λu=>?_);exact Ee O<|Af ⟨_,AC⟩;exfalso;rw[y,q]at A;cases B:(op==7)<;>cases C:(p==1)<;>simp[B,C]at A u
def C5 (op h:Int):Bool:=op==15&&decide (0<h)
def za9 (op n:Int) (x:Z) (ks:L1 Tm) (ps:L1 Y) (q:Int) (h:BN op q=false) (D:C5 op q=true) (p:Y) (G:ps[(q-1).toNat]?=some p) (R:q<=1000000):Tq4 166 [.ip 49 (dTmc (.mk op n x ks ps)) 0,i7 q] [] (.ret (.fn (.func 273) [] [.ref 6 0]) (bO p)):=by refine Ac Cj func166 O [7,6]<|EI O ?_;have A:(op==5||op==27||(op==7&&q==1))=false:=h;have u:(op==15&&decide (0<q))=true:=D;simp only[Lu]at A;obtain⟨⟨H,J⟩,K⟩:=A;simp only[Am,al]at u;refine Aa rfl (λy=>by rw[H]at y;cases y) (λy=>?_);refine Ee O<|Aa O (λy=>by rw[J]at y;cases y) (λy=>?_);refine Ee O<|Aa O (λB=>?_) (λB=>?_);exfalso;cases L:(op==7)<;>cases N:(q==1)<;>simp[L,N]at K B;refine Ee O<|Aa O (λC=>?_) (λC=>by simp[u.1,u.2]at C);exact Ee O<|ni O (c:=As p) (λ_=>⟨by rw[Gx (by omega) (by omega)];omega,by rw[Gx (by omega) (by omega)];exact AQ G,by simp⟩) (by simp)<|EI O<|L6 (bl:=[]) (fr:=[6]) [] [(6,6)] O (by simp) (zea p) ab O O O O<|EI O<|Af ⟨_,AC⟩
def rE (op n:Int) (x:Z) (ks:L1 Tm) (ps:L1 Y) (p:Int) (h:BN op p=false) (G:C5 op p=false):Tq4 166 [.ip 49 (dTmc (.mk op n x ks ps)) 0,i7 p] [] (.ret (.imm (.fn (.func 233))) []):=by refine Ac Cj func166 O [7,6]<|EI O ?_;have B:(op==5||op==27||(op==7&&p==1))=false:=h;have u:(op==15&&decide (0<p))=false:=G;simp only[Lu]at B;obtain⟨⟨H,J⟩,K⟩:=B;refine Aa rfl (λq=>by rw[H]at q;cases q) (λq=>?_);refine Ee O<|Aa O (λq=>by rw[J]at q;cases q) (λq=>?_);refine Ee O<|Aa O (λC=>?_) (λC=>?_);exfalso;cases y:(op==7)<;>cases A:(p==1)<;>simp[y,A]at K C;refine Ee O<|Aa O (λD=>?_) (λD=>?_);{exfalso;cases y:(op==15)<;>cases A:decide (0<p)<;>simp[y,A]at u D<;>simp_all};exact Ee O<|Ab O O O
def zba (t:Tm) (p:Yields prog [.ip 49 (dTmc t) 2] S r S'):Tq4 231 [.yld 3,.ref 6 0] ((3,some .pin)::(4,some (.bun 3 S))::jX t) (.ret (.tup []) ((3,some .pin)::(5,some (.bun 3 S'))::jX t)):=by obtain⟨u,n,x,y,A⟩:=t;refine Ac Cj func231 O [7,5]<|EI O ?_;cases p with|cons h q=>{obtain⟨rfl,rfl⟩:=q.nilInv;exact HQ (j:=4) (j2:=7) O (by simp[Ap]) ab h O O O O O<|EI O<|BY (ids':=[]) 7 5 O O<|Bw ⟨[],BD⟩}|stop h=>{exact HQ (j:=4) (j2:=7) O (by simp[Ap]) ab h O O O O O<|EI O<|BY (ids':=[]) 7 5 O O<|Bw ⟨[],BD⟩}
def YX:Tq4 233 [.yld 3] [(3,some .pin),(4,some (.bun 3 S))] (.ret (.tup []) [(3,some .pin),(5,some (.bun 3 S))]):=by exact Ac Cj func233 O [7,5]<|EI O<|BY (ids':=[]) 4 5 O O<|Bw ⟨[],B0⟩
def stL (l:L1 Z):Nat->St
 |0=>[(1,some (.cells 73 1 [.nils]))]
 |k+1=>[(1,some (.cells 73 1 [.own 4 (Cq (l.take (k+1))).length])),(4,some (.row 9 1 (Cq (l.take (k+1)))))]
def fT (l:L1 Z) (p:l.length<=1000000) (i:Nat) (u:Tm) (h:l[i]?=some (match u with|.mk _ _ x _ _=>x)) {L:I0} (A:prog.funcs[L.fn]?.isSome) (B:L.tmps.size=Tryz.f164.ntmps) (C:L.ps = #[10]) (D:L.asg=zlo Tryz.f164) (G:L.body=zc6 Tryz.f164) (q:L.E=[(5,.ref 1 0)]) (y:L.F=[]):La prog [.ip 49 (dTmc u) 2] (Cg L (stL l i) none) true (Cg L (stL l (i+1)) none):=by let⟨V,H⟩:=Mz.1 A;obtain⟨J,K,x,N,R⟩:=u;have T:i<l.length:=(A9.1 h).1;refine Qw (cf:=none) (d:=.ip 49 (dTmc (.mk J K x N R)) 2) (aa:=[7,8]) (t:=6) (p:=10) H C (D.trans O) B O O O O (by decide) (by decide) ?_ ?_;rw[q,y];cases i<;>refine⟨by decide,?_⟩<;>simp[stL,PM,Hb,Dx,LM,FQ];rw[G,q,y];cases i with|zero=>refine Ee O<|BK Cj O ⟨by simp,by simp[maxLen],by simp,ab⟩<|ng [] O (by simp[Ap];rfl)<|AR 4 7 O<|Bw (?_:Gl _ (stL l (0+1)));have e:Cq (l.take (0+1))=[]++[[.str x]]:=by{rw[Ba h];rfl};simp only[stL,e];exact AP|succ i=>{refine Ee O<|BK Cj O ⟨by simp,by simp[maxLen];omega,by simp;omega,ab⟩<|ng [] O (by simp[Ap];rfl)<|AR 4 7 O<|Bw (?_:Gl _ (stL l (i+1+1)));have e:Cq (l.take (i+1+1))=Cq (l.take (i+1))++[[.str x]]:=by{rw[Ba h,Ka];rfl};simp only[stL,e];exact⟨by simp only[AZ];rfl,AG⟩}
def fU (l:L1 Z) (p:l.length<=1000000) (i:Nat) (u:Y) (h:l[i]?=some (F7 u)) {L:I0} (A:prog.funcs[L.fn]?.isSome) (B:L.tmps.size=Tryz.f164.ntmps) (C:L.ps = #[10]) (D:L.asg=zlo Tryz.f164) (G:L.body=zc6 Tryz.f164) (q:L.E=[(5,.ref 1 0)]) (y:L.F=[]):La prog [.ip 182 (As u) 2] (Cg L (stL l i) none) true (Cg L (stL l (i+1)) none):=by let⟨T,H⟩:=Mz.1 A;obtain⟨J,K,x,N⟩:=u;have R:i<l.length:=(A9.1 h).1;refine Qw (cf:=none) (d:=.ip 182 (As (.mk J K x N)) 2) (aa:=[7,8]) (t:=6) (p:=10) H C (D.trans O) B O O O O (by decide) (by decide) ?_ ?_;rw[q,y];cases i<;>refine⟨by decide,?_⟩<;>simp[stL,PM,Hb,Dx,LM,FQ];rw[G,q,y];cases i with|zero=>refine Ee O<|BK Cj O ⟨by simp,by simp[maxLen],by simp,ab⟩<|ng [] O (by simp[Ap];rfl)<|AR 4 7 O<|Bw (?_:Gl _ (stL l (0+1)));have e:Cq (l.take (0+1))=[]++[[.str x]]:=by{rw[Ba h];rfl};simp only[stL,e];exact AP|succ i=>{refine Ee O<|BK Cj O ⟨by simp,by simp[maxLen];omega,by simp;omega,ab⟩<|ng [] O (by simp[Ap];rfl)<|AR 4 7 O<|Bw (?_:Gl _ (stL l (i+1+1)));have e:Cq (l.take (i+1+1))=Cq (l.take (i+1))++[[.str x]]:=by{rw[Ba h,Ka];rfl};simp only[stL,e];exact⟨by simp only[AZ];rfl,AG⟩}
def Rr (l:L1 Z):Tq2 Tryz.f164.ntmps [] (KZ rS Tryz.f164.results.toList (.ret (.imm (.sl (Cq l))) [])) [.inBlock 0,.code (ES Tryz.f164 3)] [(5,.ref 1 0)] (stL l l.length) [7,8,9]:=by cases l with|nil=>{exact Ee O<|Ab O O O}|cons x r=>{have e:Cq ((x::r).take ((x::r).length))=Cq (x::r):=by{rw[CA (BO _)]};have h:stL (x::r) (x::r).length=[(1,some (.cells 73 1 [.own 4 (Cq (x::r)).length])),(4,some (.row 9 1 (Cq (x::r))))]:=by{simp only[Co,stL]at e ⊢;rw[e]};rw[h];exact Cn 4 O<|Ee O<|Ab O O O}
def A0:Tm->Int->L1 Z
 |.mk q _ x _ u,h=>if BN q h then[x]else if C5 q h then(match u[(h-1).toNat]? with|some p=>C4 p|none=>[])else[]
def zjs (op n:Int) (x:Z) (ks:L1 Tm) (ps:L1 Y) (q:Int) (V:q<=1000000) (W:BN op q=false->C5 op q=true->∃p,ps[(q-1).toNat]?=some p/\(C4 p).length<=1000000):Tq3 164 [.ip 49 (dTmc (.mk op n x ks ps)) 0,.int .i64 q] (.sl (Cq (A0 (.mk op n x ks ps) q))):=by refine Ac Cj func164 O [1,6,7,8,9]<|bG 0 O<|Ee O ?_;cases h:BN op q with|true=>have e:A0 (.mk op n x ks ps) q=[x]:=by{simp[A0,h]};rw[e];refine L6 (bl:=[]) (fr:=[6]) [] [(6,6)] O (by simp) (rD op n x ks ps q h) ab O O O O<|Ee O<|FU (y:=3) (j:=4) (j2:=5) (stc:=jX (.mk op n x ks ps)) (stc':=jX (.mk op n x ks ps)) (stx:=stL [x] 0) (stB:=stL [x] 1) (cf:=none) (E:=[(5,.ref 1 0)]) (ids':=[7,8,9]) (d:=.tup []) O func231 (by decide +kernel) O (by decide) AG (CH AP) (λL C A G H J K N=>zba (r:=true) (.mk op n x ks ps) (.cons (fT [x] (by simp) 0 (.mk op n x ks ps) O C A G H J K N) (.nil _))) ?_ ?_ ?_ ?_ (Rr [x]);simp[jX,stL,CT];simp[jX,CT];intro i y;have e:FQ (F1 (DZ (Bg []++[(6,6)])) []++F1 (DZ (Bg []++[(6,6)])) [.ref 6 0])=[6]:=rfl;rw[e]at y;simpa[jX,CT,Dx,LM,FQ,Hb]using y;refine⟨by decide,?_⟩;simp[stL,PM,Hb,Dx,LM,FQ,CT]|false=>{cases A:C5 op q with|true=>let⟨p,B,R⟩:=W h A;have e:A0 (.mk op n x ks ps) q=C4 p:=by{show(if BN op q then[x]else if C5 op q then(match ps[(q-1).toNat]? with|some p=>C4 p|none=>[])else[])=C4 p;rw[h,A,B];rfl};rw[e];refine L6 (bl:=[]) (fr:=[6]) [] [(6,6)] O (by simp) (za9 op n x ks ps q h A p B V) ab O O O O<|Ee O<|FU (y:=3) (j:=4) (j2:=5) (stc:=bO p) (stc':=bO p) (stx:=stL (C4 p) 0) (stB:=stL (C4 p) (C4 p).length) (cf:=none) (E:=[(5,.ref 1 0)]) (ids':=[7,8,9]) (d:=.tup []) O func273 (by decide +kernel) O (by decide) AG (CH AP) (λL C A G H J K N=>yI (b:=true) p ?_) ?_ ?_ ?_ ?_ (Rr (C4 p));have:=Yields.all (P:=prog) (l:=Kj p) (λi=>Cg L (stL (C4 p) i) none) λi d y=>by{rw[Rd,Ct]at y;cases T:(Ej p)[i]? with|none=>rw[T]at y;cases y|some u=>{rw[T]at y;cases y;exact fU (C4 p) R i u (by simp[C4,T]) C A G H J K N}};have a:(Kj p).length=(C4 p).length:=by{simp[Rd,C4]};rw[a]at this;exact this;cases(C4 p).length<;>simp[bO,stL,CT];simp[bO,CT];intro i y;have e:FQ (F1 (DZ (Bg []++[(6,6)])) []++F1 (DZ (Bg []++[(6,6)])) [.ref 6 0])=[6]:=rfl;rw[e]at y;simpa[bO,CT,Dx,LM,FQ,Hb]using y;refine⟨by decide,?_⟩;cases(C4 p).length<;>simp[stL,PM,Hb,Dx,LM,FQ,CT]|false=>{have e:A0 (.mk op n x ks ps) q=[]:=by{simp[A0,h,A]};rw[e];refine L6 (bl:=[]) (fr:=[]) [] [] O (by simp) (rE op n x ks ps q h A) ab O O O O<|Ee O<|bH 9 O<|FU (y:=3) (j:=4) (j2:=5) (stc:=[]) (stc':=[]) (stx:=stL [] 0) (stB:=stL [] 0) (cf:=none) (E:=[(5,.ref 1 0)]) (ids':=[7,8,9]) (d:=.tup []) O func233 (by decide +kernel) O (by decide) AG (CH AG) (λL C A G H J K N=>YX) ?_ ?_ ?_ ?_ (Rr []);simp[CT];simp[CT];intro i y;have e:FQ (([]:L1 D)++[])=[]:=rfl;rw[e]at y;simp[Dx]at y;refine⟨by decide,?_⟩;simp[stL,PM,Hb,Dx,LM,FQ,CT]}}
def ttF:TT:=rS++[
 (225,⟨.ptr 264,false,1,8,[.imm .nilp]⟩),
 (262,⟨.struct [(0,9),(1,9)],true,2,32,[.imm (.str []),.imm (.str [])]⟩),
 (264,⟨.struct [(0,262),(2,225)],true,3,40,[.imm (.str []),.imm (.str []),.imm .nilp]⟩)]
def C3:TTok prog ttF:=.of_eq (l:=[4,3,9,49,25,182,45,47,5,23,22,73,46,180,71,43,178,40,41,113,111,28,293,195,1,139,296,190,183,185,187,26,246,191,270,235,233,232,268,312,230,225,262,264]) (by kernel_rfl)
def fd_ (p:L1 Pt) (h:run ttF n 300 p todo env st aa []=.at k u au ids' ob) (q:A8 ob) (y:Tq1 n F Q k u au ids'):Tq2 n F Q todo env st aa:=JY C3 mixed 300 p h q y
def jJ (p:L1 Pt) (h:run ttF n 300 p todo env st aa []=.at k u au ids' ob) (y:Tq1 n F Q k u au ids') (q:A8 ob:=by simp):Tq2 n F Q todo env st aa:=fd_ p h q y
def DH (h:run ttF n 300 [] todo env st aa []=.at k u au ids' ob) (q:Tq1 n F Q k u au ids') (p:A8 ob:=by simp):Tq2 n F Q todo env st aa:=fd_ [] h p q
def fg_ (p:L1 Pt) (h:run ttF n 300 p todo env st aa []=.at k u au ids' ob) (q:A8 ob) (y:Tq1 n F Q k u au ids'):Tq1 n F Q todo env st aa:=Iw C3 mixed 300 p h q y
def DF (h:run ttF n 300 [] todo env st aa []=.at k u au ids' ob) (q:Tq1 n F Q k u au ids') (p:A8 ob:=by simp):Tq1 n F Q todo env st aa:=fg_ [] h p q
def fi_ (h:Fm ttF n env todo=some ⟨es,m,sz,e,g,ob,some t,q⟩) (u:Ap g->0<=m/\es[m.toNat]?=some c/\c.length=sz) (p:A8 ob) (y:Tq1 n F Q q ((t,gD g (.ip e c 0))::env) st aa):Tq1 n F Q todo env st aa:=G4 C3 h u p y
def fi_z (h:Fm ttF n env todo=some ⟨es,(i:Int),sz,e,g,ob,some t,q⟩) (u:es[i]?=some c) (y:Tq1 n F Q q ((t,gD g (.ip e c 0))::env) st aa) (A:c.length=sz:=by simp) (p:A8 ob:=by simp):Tq1 n F Q todo env st aa:=fi_ h (λ_=>⟨by omega,by simpa using u,A⟩) p y
def fi_zc (h:Fm ttF n env todo=some ⟨es,(i:Int),sz,e,g,ob,some t,q⟩) (u:es[i]?=some c) (y:Tq1 n F Q q ((t,gD g (.ip e c 0))::env) st aa) (A:c.length=sz:=by simp) (p:A8 ob:=by simp[Ap]):Tq1 n F Q todo env st aa:=fi_ h (λ_=>⟨by omega,by simpa using u,A⟩) p y
def Mg:L1 Z->V
 |[]=>.nilp
 |x::r=>.ip 264 [.str x,.str x,Mg r] 0
def zjr (l:L1 Z) (s:Z):Tq3 162 [Mg l,.str s] (.tup [.str (if Bm l s then s else[]),.bool (Bm l s)]):=by refine Ac C3 func162 O [1]<|DF O<|Al (λr:L1 Z=>[(0,.imm (Mg r)),(1,.imm (.str s))]) (λ_=>[]) [1] (λr=>r.length) (λr=>Bm l s=Bm r s) l O AP ab O λr p u=>?_;cases r with|nil=>refine DH O<|Ag O λh=>Az O<|DH O<|Ab O O (af _ ?_);rw[p];rfl|cons x r=>{refine bG 0 O<|DH O<|Aq O λh=>DH O<|Aa O (λq=>?_) (λq=>?_);refine DH O<|Ab O O (af _ ?_);have e:x=s:=by{simpa using q};subst e;have:Bm l x=true:=by{rw[p];simp[Bm]};rw[this];rfl;refine DH O ?_;have e:Bm (x::r) s=Bm r s:=by{simp[Bm,q]};exact Ad (u r (by simp) (by rw[p,e])) AP ab O}
def zie (l ns:L1 Z):Tq3 163 [Mg l,.sl (Cq ns)] (Mg (ns.reverse++l)):=by refine BH λD=>?_;have A:ns.length<=9223372036854775807:=by{simp[D8,Gy,maxLen]at D;omega};refine Ac C3 func163 O [1]<|DF O<|Al (λy:Nat×L1 Z=>[(9,i7 y.1),(8,i7 ns.length),(7,.imm (.sl (Cq ns))),(0,.imm (Mg y.2))]) (λ_=>[]) [1] (λy=>ns.length-y.1) (λy=>y.1<=ns.length/\y.2=(ns.take y.1).reverse++l) (0,l) ⟨AK _,rfl⟩ ⟨rfl,B8 (by simp),AP⟩ ab O λy G B=>?_;obtain⟨i,r⟩:=y;obtain⟨u,q⟩:=G;simp only at u q;refine DH O<|Aa O (λh=>?_) (λh=>?_);simp at h;let⟨x,C⟩:=At h;have p:x::r=(ns.take (i+1)).reverse++l:=by{rw[Ba C,List.reverse_append,q];rfl};refine DH O<|fi_ O (c:=[.str x]) (λ_=>⟨by simp,by simpa using MQ C,rfl⟩) (by simp) ?_;cases r with|nil=>{exact DF O<|JW 0 O O<|Ad (B (i+1,[x]) (by simp only;omega) ⟨by simp only;omega,p⟩) ⟨B8 (Gx (by simp only;omega) (by simp only;omega)),AC⟩ ab O}|cons y r=>{exact DF O<|JW 0 O O<|Ad (B (i+1,x::y::r) (by simp only;omega) ⟨by simp only;omega,p⟩) ⟨B8 (Gx (by simp only;omega) (by simp only;omega)),AC⟩ ab O};simp at h;refine Az O<|DH O<|Ab O O ?_;rw[q,CA (by omega)]
mutual
def Gd:Tm->L1 Z->L1 Z->L1 Z
 |.mk h n x p q,s,m=>if h=4 then(if Bm s x then m else TI m x)else FG (.mk h n x p q) 0 p s m
def FG (t:Tm):Nat->L1 Tm->L1 Z->L1 Z->L1 Z
 |_,[],_,m=>m
 |i,k::r,s,m=>FG t (i+1) r s (Gd k ((A0 t i).reverse++s) m)
end
mutual
def Mk:Tm->Prop
 |.mk q _ _ h u=>h.length<=1000000/\(∀i:Nat,i<h.length->BN q i=false->C5 q i=true->∃p,u[((i:Int)-1).toNat]?=some p/\(C4 p).length<=1000000)/\TQ h
def TQ:L1 Tm->Prop
 |[]=>True
 |k::r=>Mk k/\TQ r
end
def Mj:∀{l:L1 Tm} {t:Tm},TQ l->t∈l->Mk t
 |[],_,_,h=>by simp at h
 |k::r,t,h,hm=>by rcases Ck.1 hm with rfl|hm;exact h.1;exact Mj h.2 hm
def zph (t:Tm) (s m:L1 Z):Prop:=Ht prog 108 [.imm (.agg (dTmc t)),.imm (Mg s),.mapr 1] [(1,some (.map (E3 m)))] (.ret (.tup []) [(1,some (.map (E3 (Gd t s m))))])
def dq:=@List.mem_of_getElem?
def uR:∀(t:Tm) (s m:L1 Z),Mk t->zph t s m
 |.mk q n x p A,s,m,G=>by obtain⟨N,H,J⟩:=G;refine uY C3 func108 (by decide +kernel) O [2,3,4,5] O O ?_;refine DF O ?_;refine Aa O (λh=>?_) (λh=>?_);have e:q=4:=by{simpa using h};refine DH O ?_;refine Ah O (zjr s x) ?_;refine DF O ?_;refine Aa O (λB=>?_) (λB=>?_);refine DH O ?_;refine FD C3 O O O (EC m) ?_;refine DF O ?_;rw[dK];have C:Gd (.mk q n x p A) s m=TI m x:=by{simp at B;simp[Gd,e,B]};rw[C];exact Af ⟨[],rfl,rfl,rfl,ab⟩;refine DH O ?_;have C:Gd (.mk q n x p A) s m=m:=by{simp at B;simp[Gd,e,B]};rw[C];exact Af ⟨[],rfl,rfl,rfl,ab⟩;have e:¬q=4:=by{simpa using h};have C:Gd (.mk q n x p A) s m=FG (.mk q n x p A) 0 p s m:=by{simp[Gd,e]};rw[C];refine DH O ?_;refine JW 3 O O ?_;refine Al (λy:Nat×L1 Z=>[(28,i7 y.1),(27,i7 p.length),(26,.imm (.sl (Cz p))),(1,.imm (Mg s)),(2,.mapr 1),(3,.ip 49 (dTmc (.mk q n x p A)) 0)]) (λy=>[(1,some (.map (E3 y.2)))]) [3,4,5] (λy=>p.length-y.1) (λy=>y.1<=p.length/\FG (.mk q n x p A) 0 p s m=FG (.mk q n x p A) y.1 (p.drop y.1) s y.2) (0,m) ⟨Nat.zero_le _,rfl⟩ ⟨rfl,B8 (by simp),rfl,rfl,rfl,rfl,ab⟩ ⟨rfl,ab⟩ O λy R T=>?_;obtain⟨i,L⟩:=y;obtain⟨K,u⟩:=R;simp only at K u;refine DH O ?_;refine Aa O (λh=>?_) (λh=>?_);simp at h;let⟨k,D⟩:=At h;rw[Au D]at u;refine DH O ?_;refine fi_ O (c:=dTmc k) (λ_=>⟨by simp,by simpa using Et D,by simp⟩) (by simp) ?_;refine DF O ?_;refine Ah O (zjs q n x p A i (by omega) (H i h)) ?_;refine DF O ?_;refine Ah O (zie s _) ?_;refine DF O ?_;refine L6 (fr:=[]) [(1,1)] [] O (by simp) (uR k _ L (Mj J (dq D))) ⟨⟨rfl,rfl,rfl⟩,ab⟩ O O O O ?_;refine fg_ [] O (by simp;rfl) ?_;exact Ad (T (i+1,Gd k ((A0 (.mk q n x p A) i).reverse++s) L) (by simp only;omega) ⟨by simp only;omega,u⟩) ⟨B8 (Gx (by simp only;omega) (by simp only;omega)),rfl,rfl,rfl,rfl,rfl,ab⟩ ⟨rfl,ab⟩ O;simp at h;rw[List.drop_eq_nil_of_le (by omega)]at u;refine Az O ?_;refine DH O ?_;rw[u];exact Bw ⟨[],rfl,rfl,rfl,ab⟩
termination_by t=>SizeOf.sizeOf t
decreasing_by all_goals(have:=cr (dq D);simp_wf;omega)
def Cu:Tm->Int->L1 Z
 |.mk q _ x _ u,h=>if BN q h then[x]else if C5 q h then(match u[(h-1).toNat]? with|some p=>AS p|none=>[])else[]
def Rb:L1 Z->Z->L1 Z
 |[],s=>[s]
 |x::r,s=>if Op.bytesLess x s then x::Rb r s else if x==s then x::r else s::x::r
def Jy (b:L1 Z):L1 Z->L1 Z->L1 Z
 |[],h=>h
 |x::r,h=>Jy b r (if Bm b x then h else Rb h x)
mutual
def Gp:Tm->L1 Z
 |.mk h n x p q=>if h=4 then[x]else GZ (.mk h n x p q) 0 p []
def GZ (t:Tm):Nat->L1 Tm->L1 Z->L1 Z
 |_,[],h=>h
 |i,k::r,h=>GZ t (i+1) r (Jy (Cu t i) (Gp k) h)
end
mutual
def Hn:Tm->Nat
 |.mk _ _ _ h _=>1+Eu h
def Eu:L1 Tm->Nat
 |[]=>0
 |k::r=>Hn k+Eu r
end
mutual
def ZF:Tm->Prop
 |.mk q _ _ h u=>h.length<=1000000/\(∀i:Nat,i<h.length->BN q i=false->C5 q i=true->∃p,u[((i:Int)-1).toNat]?=some p/\Bn p<=1000000)/\US h
def US:L1 Tm->Prop
 |[]=>True
 |k::r=>ZF k/\US r
end
def eG:∀(l:L1 Z) (s:Z),(Rb l s).length<=l.length+1
 |[],s=>by simp[Rb]
 |x::r,s=>by have:=eG r s;simp only[Rb];split;simp only[Co];omega;split<;>simp
def W5 (b:L1 Z):∀(l h:L1 Z),(Jy b l h).length<=h.length+l.length
 |[],h=>by simp[Jy]
 |x::r,h=>by simp only[Jy];have p:=W5 b r (if Bm b x then h else Rb h x);have q:=eG h x;have u:(if Bm b x then h else Rb h x).length<=h.length+1:=by{split<;>omega};simp only[Co];omega
mutual
def XN:∀t:Tm,(Gp t).length<=Hn t
 |.mk p n x h q=>by simp only[Gp,Hn];split;simp;have:=Si (.mk p n x h q) 0 h [];simp at this;omega
def Si (t:Tm):∀(i:Nat) (ks:L1 Tm) (h:L1 Z),(GZ t i ks h).length<=h.length+Eu ks
 |_,[],h=>by simp[GZ,Eu]
 |i,k::r,h=>by simp only[GZ,Eu];have p:=Si t (i+1) r (Jy (Cu t i) (Gp k) h);have q:=W5 (Cu t i) (Gp k) h;have u:=XN k;omega
end
mutual
def Ul:∀(t:Y) (l:Int),(Bn t:Int)<=l->0<=B6 t l
 |.mk _ _ _ p,l,h=>by simp only[Bn]at h;simp only[B6];rw[ac (by omega)];exact RP p (l-1) (by omega)
def RP:∀(p:L1 Y) (l:Int),(A6 p:Int)<=l->0<=BA p l
 |[],l,h=>by simpa[BA,A6]using h
 |t::r,l,h=>by simp only[A6]at h;simp only[BA];rw[ae (by omega)];have q:=Ul t l (by omega);have u:=Ey t l q;exact RP r _ (by omega)
end
def QN (t:Y) (l:Nat):decide (0<=B6 t l)=decide (Bn t<=l):=by by_cases h:Bn t<=l;rw[bf h,bf (Ul t l (by omega))];rw[aq h];refine aq λp=>h ?_;have:=Ey t l p;omega
def SN (t:Y):AW true t=NY t:=by simp only[AW,NY];rw[<- QN t 12];rfl
def Qp (t:Y):AW false t=G6 t:=by simp only[AW,G6];rw[<- QN t 12];rfl
def za5 (t:Y):Dr t=CI t:=by simp only[Dr,CI];rw[<- QN t 12,OT];rfl
def kW (p:Nat) (h:p<=1000):IntKind.i64.wrap (1+(p:Int))=1+(p:Int):=Gx (by omega) (by omega)
def eV (op n:Int) (x:Z) (k:Nat) (ps:L1 Y) (l:ps.length<=1000):Du op n x k ps=(Bl op n x k ps.length&&ps.all CI):=by have m:Dr=CI:=funext za5;have o:=kW ps.length l;by_cases a:op=1;{subst a;cases ps<;>simp[Du,DC,BE,CY,Bl,AY,AT,DP,Bb]<;>grind};by_cases b:op=2;{subst b;cases ps<;>simp[Du,DC,BE,CY,Bl,AY,AT,DP,Bb]<;>grind};by_cases c:op=3;{subst c;cases ps<;>simp[Du,DC,BE,CY,Bl,AY,AT,DP,Bb]<;>grind};by_cases d:op=4;{subst d;cases ps<;>simp[Du,DC,BE,CY,Bl,AY,AT,DP,Bb]<;>grind};by_cases e:op=5;{subst e;cases ps<;>simp[Du,DC,BE,CY,Bl,AY,AT,DP,Bb]<;>grind};by_cases f:op=6;{subst f;cases ps<;>simp[Du,DC,BE,CY,Bl,AY,AT,DP,Bb]<;>grind};by_cases g:op=7;{subst g;cases ps<;>simp[Du,DC,BE,CY,Bl,AY,AT,DP,Bb]<;>grind};by_cases i:op=8;{subst i;cases ps<;>simp[Du,DC,BE,CY,Bl,AY,AT,DP,Bb]<;>grind};by_cases j:op=9;{subst j;cases ps<;>simp[Du,DC,BE,CY,Bl,AY,AT,DP,Bb]<;>grind};by_cases h:op=10;{subst h;cases ps<;>simp[Du,DC,BE,CY,Bl,AY,AT,DP,Bb]<;>grind};by_cases p:op=11;{subst p;cases ps<;>simp[Du,DC,BE,CY,Bl,AY,AT,DP,Bb]<;>grind};by_cases q:op=12;{subst q;cases ps<;>simp[Du,DC,BE,CY,Bl,AY,AT,DP,Bb]<;>grind};by_cases u:op=13;{subst u;cases ps<;>simp[Du,DC,BE,CY,Bl,AY,AT,DP,Bb]<;>grind};by_cases y:op=14;{subst y;have r:(if(3:Int)<k then 3 else(k:Int))=k↔(k:Int)<=3:=by{split<;>omega};cases ps<;>simp[Du,DC,BE,CY,Bl,AY,AT]<;>grind};by_cases A:op=15;{subst A;simp only[Du,DC,BE,CY,Bl,AY,AT,DP,m];simp[o];grind};by_cases B:op=16;{subst B;cases ps<;>simp[Du,DC,BE,CY,Bl,AY,AT,DP,Bb]<;>grind};by_cases C:op=17;{subst C;cases ps<;>simp[Du,DC,BE,CY,Bl,AY,AT,DP,Bb]<;>grind};by_cases D:op=18;{subst D;cases ps<;>simp[Du,DC,BE,CY,Bl,AY,AT,DP,Bb]<;>grind};by_cases G:op=19;{subst G;cases ps<;>simp[Du,DC,BE,CY,Bl,AY,AT,DP,Bb]<;>grind};by_cases H:op=20;{subst H;cases ps<;>simp[Du,DC,BE,CY,Bl,AY,AT,DP,Bb]<;>grind};by_cases J:op=21;{subst J;cases ps<;>simp[Du,DC,BE,CY,Bl,AY,AT,DP,Bb]<;>grind};by_cases K:op=22;{subst K;cases ps<;>simp[Du,DC,BE,CY,Bl,AY,AT,DP,Bb]<;>grind};by_cases L:op=23;{subst L;cases ps<;>simp[Du,DC,BE,CY,Bl,AY,AT,DP,Bb]<;>grind};by_cases N:op=24;{subst N;cases ps<;>simp[Du,DC,BE,CY,Bl,AY,AT,DP,Bb]<;>grind};by_cases R:op=25;{subst R;cases ps<;>simp[Du,DC,BE,CY,Bl,AY,AT,DP,Bb]<;>grind};by_cases T:op=26;{subst T;cases ps<;>simp[Du,DC,BE,CY,Bl,AY,AT,DP,Bb]<;>grind};by_cases V:op=27;{subst V;cases ps<;>simp[Du,DC,BE,CY,Bl,AY,AT,DP,Bb]<;>grind};by_cases W:op=28;{subst W;cases ps<;>simp[Du,DC,BE,CY,Bl,AY,AT,DP,Bb]<;>grind};simp[Du,DC,Bl,AY,a,b,c,d,e,f,g,i,j,h,p,q,u,y,A,B,C,D,G,H,J,K,L,N,R,T,V,W]
mutual
def UY:∀(t:Tm),GX t=true->Ha t=AV t
 |.mk q n x p u,h=>by simp only[GX,Am,al]at h;simp only[Ha,AV];rw[eV q n x p.length u (by omega),Su p h.2]
def Su:∀(p:L1 Tm),E9 p=true->FB p=Br p
 |[],_=>rfl
 |t::r,h=>by simp only[E9,Am]at h;simp only[FB,Br];rw[UY t h.1,Su r h.2]
end
def qV (t:Tm) (h:DU t=true):FI t=Cs t:=by simp only[DU,Am]at h;simp only[FI,Cs];rw[UY t h.2]
def zkz (c:Cd):SU c=Pc c:=by simp only[SU,Pc];rw[show AW false=G6 from funext Qp]
def zg5 (d:Dt):Js d=Jt d:=by simp only[Js,Jt,DP];rw[show SU=Pc from funext zkz];simp only[OT]
def uO (f:Fd) (h:FN f=true):MH f=Qm f:=by simp only[FN,Am]at h;simp only[MH,Qm,Qp,qV f.body h.2]
def zjk (m:Md) (h:DL m=true):KB m=DA m:=by simp only[DL,Am]at h;have p:m.funs.all MH=m.funs.all Qm:=by{rw[FC];simp only[CJ];exact⟨λq f p=>by rw[<- uO f (CJ.1 h.2 f p)];exact q f p,λq f p=>by rw[uO f (CJ.1 h.2 f p)];exact q f p⟩};simp only[KB,DA,DP];rw[show Js=Jt from funext zg5,p];simp only[OT]
mutual
def XQ:∀t:Y,(Ej t).length<=Bn t
 |.mk s n x h=>by have:=UO h;simp only[Ej,Bn,AZ];split<;>simp<;>omega
def UO:∀h:L1 Y,(CQ h).length<=A6 h
 |[]=>by simp[CQ]
 |t::r=>by have p:=XQ t;have q:=UO r;simp only[CQ,A6,AZ];omega
end
mutual
def Nk:∀t:Y,BI t=true->(Ej t).map F7=AS t
 |.mk s n x p,h=>by simp only[BI,Am]at h;have y:=UP p h.2;simp only[Ej,AS,Cy,y];by_cases q:s=2;have u:=h.1;simp[Fc,q]at u;have:p=[]:=by{cases p with|nil=>rfl|cons=>{simp at u}};subst this;simp[q,F7,AI];simp[q]
def UP:∀p:L1 Y,BX p=true->(CQ p).map F7=AI p
 |[],_=>rfl
 |t::r,h=>by simp only[BX,Am]at h;simp only[CQ,AI,Cy,Nk t h.1,UP r h.2]
end
def Tb (op n:Int) (x:Z) (ks:L1 Tm) (ps:L1 Y) (q:Int) (h:∀p∈ps,BI p=true):A0 (.mk op n x ks ps) q=Cu (.mk op n x ks ps) q:=by show(if BN op q then[x]else if C5 op q then(match ps[(q-1).toNat]? with|some p=>C4 p|none=>[])else[])=(if BN op q then[x]else if C5 op q then(match ps[(q-1).toNat]? with|some p=>AS p|none=>[])else[]);cases u:ps[(q-1).toNat]? with|none=>rfl|some p=>{simp only[C4,Nk p (h p (AF u))]}
def eF (l:L1 Z) (s x:Z):x∈Rb l s↔x=s\/x∈l:=by induction l with|nil=>simp[Rb]|cons y r p=>{simp only[Rb];split;simp only[Ck,p];constructor;rintro (h|h|h);exact .inr (.inl h);exact .inl h;exact .inr (.inr h);rintro (h|h|h);exact .inr (.inl h);exact .inl h;exact .inr (.inr h);split;rename_i h;have e:y=s:=by{simpa using h};subst e;simp only[Ck];constructor;intro h;exact .inr h;rintro (h|h);exact .inl h;exact h;simp only[Ck]}
def W4 (b:L1 Z) (x:Z):∀(l p:L1 Z),x∈Jy b l p↔x∈p\/(x∈l/\Bm b x=false)
 |[],p=>by simp[Jy]
 |y::r,p=>by simp only[Jy];rw[W4 b x r];cases h:Bm b y with|true=>simp only[ar,Ck];constructor;rintro (h1|⟨h1,q⟩);exact .inl h1;exact .inr ⟨.inr h1,q⟩;rintro (h1|⟨h1|h1,q⟩);exact .inl h1;subst h1;rw[h]at q;cases q;exact .inr ⟨h1,q⟩|false=>{simp only[DN,aw,eF,Ck];constructor;rintro ((h1|h1)|⟨h1,q⟩);subst h1;exact .inr ⟨.inl O,h⟩;exact .inl h1;exact .inr ⟨.inr h1,q⟩;rintro (h1|⟨h1|h1,q⟩);exact .inl (.inr h1);exact .inl (.inl h1);exact .inr ⟨h1,q⟩}
mutual
def tZ:Tm->Z->Prop
 |.mk h n x p q,y=>if h=4 then y=x else VF (.mk h n x p q) 0 p y
def VF (t:Tm):Nat->L1 Tm->Z->Prop
 |_,[],_=>False
 |i,k::r,y=>(tZ k y/\Bm (Cu t i) y=false)\/VF t (i+1) r y
end
mutual
def UF:∀(t:Tm) (y:Z),y∈Gp t↔tZ t y
 |.mk p n x h q,y=>by simp only[Gp,tZ];split;simp;rw[UG (.mk p n x h q) 0 h [] y];simp
def UG (t:Tm):∀(i:Nat) (ks:L1 Tm) (p:L1 Z) (y:Z),y∈GZ t i ks p↔y∈p\/VF t i ks y
 |_,[],p,y=>by simp[GZ,VF]
 |i,k::r,p,y=>by simp only[GZ,VF];rw[UG t (i+1) r _ y,W4,UF k y];constructor;rintro ((h|h)|h);exact .inl h;exact .inr (.inl h);exact .inr (.inr h);rintro (h|h|h);exact .inl (.inl h);exact .inl (.inr h);exact .inr h
end
def FR {l:L1 Z}:Bm l s=true↔s∈l:=by induction l with|nil=>simp[Bm]|cons x r p=>{simp only[Bm,Fg,ao,Ck,p];constructor;rintro (h|h);exact .inl h.symm;exact .inr h;rintro (h|h);exact .inl h.symm;exact .inr h}
def zhq (m:L1 Z) (x y:Z):y∈TI m x↔y∈m\/y=x:=by rw[<- FR,iA,FR];simp
def zf1 (a s:L1 Z) (y:Z):Bm (a.reverse++s) y=(Bm a y||Bm s y):=by rw[FC,Fg,FR,FR,FR];simp
mutual
def Nm:Tm->Prop
 |.mk _ _ _ h q=>(∀p∈q,BI p=true)/\P7 h
def P7:L1 Tm->Prop
 |[]=>True
 |k::r=>Nm k/\P7 r
end
mutual
def iK:∀(t:Tm) (s m:L1 Z) (y:Z),Nm t->(y∈Gd t s m↔y∈m\/(tZ t y/\Bm s y=false))
 |.mk A n x p B,s,m,y,h=>by simp only[Gd,tZ];split;cases q:Bm s x with|true=>simp only[ar];constructor;exact .inl;rintro (h1|⟨h1,u⟩);exact h1;subst h1;rw[q]at u;cases u|false=>{simp only[DN,aw,zhq];constructor;rintro (h1|h1);exact .inl h1;subst h1;exact .inr ⟨rfl,q⟩;rintro (h1|⟨h1,_⟩);exact .inl h1;exact .inr h1};exact YA A n x p B h.1 0 p s m y h.2
def fx:=@or_assoc
def YA (op n:Int) (x:Z) (q:L1 Tm) (ps:L1 Y) (u:∀p∈ps,BI p=true):∀(i:Nat) (ks:L1 Tm) (s m:L1 Z) (y:Z),P7 ks->(y∈FG (.mk op n x q ps) i ks s m↔y∈m\/(VF (.mk op n x q ps) i ks y/\Bm s y=false))
 |_,[],s,m,y,_=>by simp[FG,VF]
 |i,k::r,s,m,y,h=>by simp only[FG,VF];rw[YA op n x q ps u (i+1) r s _ y h.2,iK k _ m y h.1,zf1,Tb op n x q ps i u];cases A:Bm (Cu (.mk op n x q ps) i) y<;>cases B:Bm s y<;>simp[A,B,fx]
end
end Go.Hk
