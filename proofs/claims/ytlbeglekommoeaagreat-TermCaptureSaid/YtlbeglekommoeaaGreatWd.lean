/- Terms that are owned by address, whatever their texts: what is known of the tree is the term; the places of the names that it binds. (And what it stands on.) -/
import Derived.Test.YtlbeglekommoeaaGreatWc
import Derived.Sort.Walk0
set_option linter.unusedSimpArgs false
set_option linter.unusedVariables false

/- Nothing appended, slices compared with nil; values that are hidden; stores of values that own memory. -/
namespace Go.Hk
structure PA0 where
  dx : D
  dst : Option Nat
  todo : List DI
def papp0 (tt : TT) (n : Nat) (env : Env) (todo : List DI) : Option PA0 :=
  match zce todo ([], []) with
  | some (_, o, todo') => match o.guard, o.op with
    | none, .call { callee := .builtin .append, args := ⟨[x, y]⟩, argTypes := ⟨[t, t']⟩ } => match Nat.beq t t', lk tt t, evO env x, evO env y with
      | true, some { sh := .sl e, .. }, some (.clip es), some (.imm (.sl [])) => match lk tt e, zc2 n o.dst with
        | some _, true => some ⟨.clip es, o.dst, todo'⟩
        | _, _ => none
      | true, some { sh := .sl e, .. }, some (.imm (.sl es)), some (.imm (.sl [])) => match lk tt e, zc2 n o.dst with
        | some _, true => some ⟨.imm (.sl es), o.dst, todo'⟩
        | _, _ => none
      | _, _, _, _ => none
    | _, _ => none
  | none => none
structure PEn where
  es : List (List V)
  eq : Bool
  dst : Option Nat
  todo : List DI
def peqn (tt : TT) (n : Nat) (env : Env) (todo : List DI) : Option PEn :=
  match zce todo ([], []) with
  | some (_, o, todo') => match o.guard, o.op with
    | none, .binOp .eql t x y _ => match lk tt t, evO env x, evO env y, zc2 n o.dst with
      | some { sh := .sl _, .. }, some (.imm (.sl es)), some .nils, true => some ⟨es, true, o.dst, todo'⟩
      | _, _, _, _ => none
    | none, .binOp .neq t x y _ => match lk tt t, evO env x, evO env y, zc2 n o.dst with
      | some { sh := .sl _, .. }, some (.imm (.sl es)), some .nils, true => some ⟨es, false, o.dst, todo'⟩
      | _, _, _, _ => none
    | _, _ => none
  | none => none
def ImmA (x : V) : Asn where
  P := fun vs I _ bs => bs = [] ∧ ∃ v, vs = [v] ∧ RepV I v x ∧ v.oneCell' = true
  mono := fun h ⟨h1, v, h2, h3, h4⟩ => ⟨h1, v, h2, h3.mono h, h4⟩
  loc := fun _ h => h
def RowH (e : TypeId) (sz : Nat) (es : List (List V)) : Asn where
  P := fun vs I w bs => ∃ v, vs = [v] ∧ (RowA e sz es v).P [] I w bs
  mono := fun h ⟨v, h1, h2⟩ => ⟨v, h1, (RowA e sz es v).mono h h2⟩
  loc := fun h ⟨v, h1, h2⟩ => ⟨v, h1, (RowA e sz es v).loc h h2⟩
def ynp (I : Imm) (j : Nat) (vs : List Value) (c : Value) (d : D) : Prop := match d with
  | .hv i k => i = j ∧ vs[k]? = some c
  | d => RepD I noMu c d
def zh3 (A B : Asn) (A' : Asn) (j b off : Nat) (ds : List D) : Prop := ∀ us vs I w b1 b2, A.P us I w b1 → B.P vs I w b2 → (∀ b ∈ b1, b ∉ b2) → b ∈ b1 ∧ ∃ cur t, w.heap[b]? = some (.cells cur t (0, 0)) ∧ off + ds.length ≤ cur.size ∧
  ∀ cs : List Value, cs.length = ds.length → (∀ (i : Nat) (c : Value) (d : D), cs[i]? = some c → ds[i]? = some d → ynp I j vs c d) → (∀ c ∈ cs, c.oneCell' = true) →
    ∃ bs, (∀ b ∈ bs, b ∈ b1 ∨ b ∈ b2) ∧ A'.P [] I (w.setRow b (cur.toList.take off ++ cs ++ cur.toList.drop (off + ds.length)).toArray) bs
def yc0 (j : Nat) : List D → Bool
  | [] => true
  | .hv i _ :: r => Nat.beq i j && yc0 j r
  | d :: r => (match nmD d with | [] => true | _ => false) && yc0 j r
structure PRj where
  b : Nat
  off : Nat
  ds : List D
  todo : List DI
def ybe (tt : TT) (env : Env) (id j id' : Nat) (todo : List DI) : Option PRj :=
  match zce todo ([id, j], [id', id, j]) with
  | some (_, o, todo') => match o.guard, o.dst, o.op with
    | none, none, .store t p x => match lk tt t, evO env p, evO env x with
      | some i, some (.raw (.pointer (some ⟨b, off, none⟩))), some dx => match zmq dx with
        | some ds => match Nat.beq ds.length i.size, yc0 j ds with
          | true, true => some ⟨b, off, ds, todo'⟩
          | _, _ => none
        | none => none
      | _, _, _ => none
    | _, _, _ => none
  | none => none
section
variable {P : Program} {n : Nat} {F : List Nat} {Q : DQ} {tt : TT} {env env' : Env} {st st' : St} {ids ids' : List Nat} {k todo todo' : List DI} {I J : Imm} {μ : Mu} {w : World} {a : Act} {d : D}
theorem zuf {v : Value} {es : List (List V)} (h : RepV I v (.sl es)) : ∃ ad len cap, v = .slice ad len cap ∧ len ≤ cap ∧ len = es.length := by
  cases h with
  | slnil => exact ⟨_, _, _, rfl, Nat.le_refl _, rfl⟩
  | sl0 ad => exact ⟨_, _, _, rfl, Nat.le_refl _, rfl⟩
  | sl b o len cap sz _ vs hl hc => exact ⟨_, _, _, rfl, hc, hl⟩
theorem zqp (htt : TTok P tt) {c : PA0} (h : papp0 tt n env todo = some c) (hk : G P n F Q c.todo (zdz c.dst c.dx env) st ids) : G P n F Q todo env st ids := by
  have key : ∀ {todo' : List DI} {o : Oper} {all : List Oper} {x y : Operand} {t e : TypeId} {dx : D} {es : List (List V)} {ti : TyI}, zce todo ([], []) = some (all, o, todo') → o.guard = none → o.op = .call { callee := .builtin .append, args := ⟨[x, y]⟩, argTypes := ⟨[t, t]⟩ } →
      P.underlying t = some (.slice e) → lk tt e = some ti → evO env x = some dx → evO env y = some (.imm (.sl [])) → (∀ I μ v, RepD I μ v dx → RepV I v (.sl es)) → zc2 n o.dst = true → G P n F Q todo' (zdz o.dst dx env) st ids → G P n F Q todo env st ids := by
    intro todo' o all x y t e dx es ti h1 hg hop hu hi hx hy hd hdst hk
    refine zcv (fr := []) (wr := []) (rd := []) h1 ?_ hdst (fun c hc => by rw [hop] at hc; cases hc) hk
    intro I μ st1 ids1 a w hag hst hon
    refine ⟨fun _ => ?_, fun hw => by rw [zau hg] at hw; cases hw⟩
    have hops := zbi hon
    rw [hop] at hops
    have rx := hops x (by simp [Op.operands, Call.operands]) _ hx
    have ry := (hops y (by simp [Op.operands, Call.operands]) _ hy).immInv
    obtain ⟨ad, len, cap, e1, e2, _⟩ := zuf (hd _ _ _ rx)
    obtain ⟨ady, ly, capy, e3, e4, e5⟩ := zuf ry
    obtain ⟨inf, z, z1, z2, z3, z4, z5, z6⟩ := (htt e ti hi).info
    simp only [List.length_nil] at e5
    subst e5
    have hr : (Builtin.append_ #[t, t] o.type #[a.eval x, a.eval y]).run P w = .ok (a.eval x) w := by
      rw [e1, e3]
      cases ad <;> cases ady <;> simp [Builtin.append_, run_underlying hu, sizeOf, typeInfo, z1, Builtin.lenOf, e2, Builtin.firstCells, loadCells, loadCellsFrom, storeCells]
    have hrun : (execOp a.eval o).run P w = .ok (.value (a.eval x)) w := by
      simp only [execOp, hop, resolve, invoke, builtin, Sem.run_bind, Sem.run_pure, Result.andThen_ok, List.map_toArray, List.map_cons, List.map_nil, hr]
    rw [hrun]
    exact ⟨I, μ, hst, rx, Mu.le_refl μ, Ext.refl _ _ _ _⟩
  unfold papp0 at h
  split at h
  · rename_i all o todo' h1
    split at h
    · rename_i x y t t' hg hop
      split at h
      · rename_i e _ _ _ _ es htt' ht hx hy
        have := Nat.eq_of_beq_eq_true htt'
        subst this
        split at h
        · rename_i ti hi hd
          cases h
          exact key h1 hg hop (htt.sh ht) hi hx hy (fun I μ v h => by cases h; assumption) hd hk
        · cases h
      · rename_i e _ _ _ _ es htt' ht hx hy
        have := Nat.eq_of_beq_eq_true htt'
        subst this
        split at h
        · rename_i ti hi hd
          cases h
          exact key h1 hg hop (htt.sh ht) hi hx hy (fun I μ v h => h.immInv) hd hk
        · cases h
      · cases h
    · cases h
  · cases h
theorem ylv {α : Type} {all rest : List Oper} {o : Oper} (f : α → D) (good : α → Prop) (hnd : ∀ c, o.op ≠ .defer c) (hg : o.guard = none) (hn : ∀ t, o.dst = some t → t < n)
    (hy : ∀ I μ a w, StRep I μ st ids w → ze6 I μ env a o.op → ∃ x v, good x ∧ (execOp a.eval o).run P w = .ok (.value v) w ∧ RepD I μ v (f x))
    (h : ∀ x, good x → DGo P n F Q (.ops all rest :: k) (zdz o.dst (f x) env) st ids) : DGo P n F Q (.ops all (o :: rest) :: k) env st ids := by
  intro b cs I μ a w items hd hc
  obtain ⟨j, is, rfl, hr, hk⟩ := zjd hd
  obtain ⟨hj, hr'⟩ := zd0 hr
  have hon : zr0 (o.looksAt all.toArray) I μ env a := fun t _ d hl => hc.env t d hl
  obtain ⟨x, v, hx, hrun, hv⟩ := hy I μ a w hc.toStRep (zbi hon)
  obtain ⟨p1, p2, p3⟩ := zit (n := n) (w := w) (dst := o.dst) (fun t d hl => hc.env t d hl) hc.size hn hv
  have := h x hx b cs I μ (a.put o.dst v) w (.inRegion all.toArray (List.range' (j + 1) rest.length) :: is) ⟨⟨rfl, j + 1, hr', rfl⟩, hk⟩
    { hc.toStRep with size := p2, env := by cases hdst : o.dst <;> simpa [zdz, hdst] using p1, defers := by rw [p3]; exact hc.defers }
  rw [p3] at this
  have hlen : (o :: rest).length = rest.length + 1 := rfl
  rw [hlen, List.range'_succ]
  refine zfh hj (zau hg) hnd ?_
  unfold zwb
  rw [hrun]
  exact this
theorem zvc (m : Nat) {t e : TypeId} (hs : P.underlying t = some (.slice e)) (ad : Option Addr) (len cap : Nat) : (Op.equalIn (m + 1) t (.slice ad len cap) (.slice none 0 0)).run P w = .ok ad.isNone w := by
  cases ad <;> simp [Op.equalIn, run_underlying hs]
theorem zq0 {t e : TypeId} (hs : P.underlying t = some (.slice e)) (ad : Option Addr) (len cap : Nat) : (Op.equal t (.slice ad len cap) (.slice none 0 0)).run P w = .ok ad.isNone w := zvc 9999 hs ad len cap
theorem zme {t e : TypeId} (hs : P.underlying t = some (.slice e)) (x y : Operand) (ad : Option Addr) (len cap : Nat) :
    (do eqGuard .eql t x y (.slice ad len cap) (.slice none 0 0); binOp .eql t (.slice ad len cap) (.slice none 0 0) : Sem Value).run P w = .ok (.bool ad.isNone) w ∧
    (do eqGuard .neq t x y (.slice ad len cap) (.slice none 0 0); binOp .neq t (.slice ad len cap) (.slice none 0 0) : Sem Value).run P w = .ok (.bool (!ad.isNone)) w := by
  constructor
  · simp only [Sem.run_bind, zdd .eql t x y (.slice ad len cap) (.slice none 0 0) (by simp) (by simp), Result.andThen_ok, binOp, zq0 hs, Sem.run_pure]
  · simp only [Sem.run_bind, zdd .neq t x y (.slice ad len cap) (.slice none 0 0) (by simp) (by simp), Result.andThen_ok, binOp, zq0 hs, Sem.run_pure]
theorem zg4 (htt : TTok P tt) {all rest : List Oper} {o : Oper} {c : PEn} (h : peqn tt n env (.ops all (o :: rest) :: k) = some c) (hk : ∀ b : Bool, (c.es ≠ [] → b = !c.eq) → DGo P n F Q c.todo (zdz c.dst (.imm (.bool b)) env) st ids) :
    DGo P n F Q (.ops all (o :: rest) :: k) env st ids := by
  unfold peqn at h
  simp only [zce] at h
  have hnone : ∀ {I : Imm} {v : Value} {es : List (List V)}, RepV I v (.sl es) → ∃ ad len cap, v = .slice ad len cap ∧ (es ≠ [] → ad.isNone = false) := by
    intro I v es h
    cases h with
    | slnil => exact ⟨_, _, _, rfl, fun h => absurd rfl h⟩
    | sl0 ad => exact ⟨_, _, _, rfl, fun _ => rfl⟩
    | sl b o len cap sz _ vs hl hc => exact ⟨_, _, _, rfl, fun _ => rfl⟩
  split at h
  · rename_i t x y t' hg hop
    split at h
    · rename_i e _ _ _ _ es ht hx hy hd
      cases h
      have hn : ∀ t, o.dst = some t → t < n := fun t ht => by
        unfold zc2 at hd; rw [ht] at hd; simpa [Nat.blt_eq] using hd
      refine ylv (fun b => .imm (.bool b)) (fun b => es ≠ [] → b = false) (fun c hc => by rw [hop] at hc; cases hc) hg hn (fun I μ a w hst hops => ?_) fun b hb => hk b hb
      rw [hop] at hops
      obtain ⟨ad, len, cap, e1, e2⟩ := hnone (hops x (by simp [Op.operands]) _ hx).immInv
      have e3 : a.eval y = .slice none 0 0 := by
        have := hops y (by simp [Op.operands]) _ hy
        generalize a.eval y = v at this
        cases this; rfl
      refine ⟨ad.isNone, .bool ad.isNone, e2, ?_, .imm _ _ (.bool _)⟩
      simp only [execOp, hop, e1, e3]
      exact zan (zme (htt.sh ht) x y ad len cap).1
    · cases h
  · rename_i t x y t' hg hop
    split at h
    · rename_i e _ _ _ _ es ht hx hy hd
      cases h
      have hn : ∀ t, o.dst = some t → t < n := fun t ht => by
        unfold zc2 at hd; rw [ht] at hd; simpa [Nat.blt_eq] using hd
      refine ylv (fun b => .imm (.bool b)) (fun b => es ≠ [] → b = true) (fun c hc => by rw [hop] at hc; cases hc) hg hn (fun I μ a w hst hops => ?_) fun b hb => hk b hb
      rw [hop] at hops
      obtain ⟨ad, len, cap, e1, e2⟩ := hnone (hops x (by simp [Op.operands]) _ hx).immInv
      have e3 : a.eval y = .slice none 0 0 := by
        have := hops y (by simp [Op.operands]) _ hy
        generalize a.eval y = v at this
        cases this; rfl
      refine ⟨!ad.isNone, .bool (!ad.isNone), fun h => by rw [e2 h]; rfl, ?_, .imm _ _ (.bool _)⟩
      simp only [execOp, hop, e1, e3]
      exact zan (zme (htt.sh ht) x y ad len cap).2
    · cases h
  · cases h
theorem zhu (t j : Nat) {d0 : D} {x : V} (ht : lk env t = some d0) (hd : toV d0 = some x) (hx : V.one x = true) (h : DGo P n F Q todo ((t, .hv j 0) :: env) ((j, some (.hp (ImmA x))) :: st) ids') : DGo P n F Q todo env st (j :: ids') := by
  refine zd1 fun I μ a w hc => ?_
  have hr : RepV I (a.tmps.getD t undef) x := zub hd (hc.env t _ ht)
  have h1 := hr.one hx
  obtain ⟨q1, q2, q3⟩ := StRep.relay (R := []) (new := [(j, hpG [a.tmps.getD t undef] [], .hp (ImmA x))]) (ids' := ids') hc.toStRep
    (fun p hp b hb => by rw [List.mem_singleton.1 hp] at hb; cases za0.1 hb)
    (fun p hp q hq b _ _ => by rw [List.mem_singleton.1 hp, List.mem_singleton.1 hq]) (Imm.le_refl I) hc.imm (fun b o h => .inl h)
    (fun _ p hp => by rw [List.mem_singleton.1 hp]; exact ⟨_, [], rfl, rfl, _, rfl, hr, h1⟩)
  refine ⟨I, _, _, _, ids', q2, fun t' d hd => ?_, q3, .of_le q1, h⟩
  by_cases e : t = t'
  · subst e
    rw [zaj] at hd; cases hd
    exact .hv _ j 0 [a.tmps.getD t undef] [] (by simp [zg2, lk]) rfl h1
  · rw [zam _ _ e] at hd; exact (hc.env t' d hd).mono (Imm.le_refl I) q1
theorem zra (t id j : Nat) {len : Nat} {e : TypeId} {sz : Nat} {es : List (List V)} (ht : lk env t = some (.own id len)) (hl : lk st id = some (some (.row e sz es))) (h : DGo P n F Q todo ((t, .hv j 0) :: env) ((j, some (.hp (RowH e sz es))) :: (id, none) :: st) ids') : DGo P n F Q todo env st (j :: ids') := by
  refine zd1 fun I μ a w hc => ?_
  obtain ⟨g, hg, xs, ⟨_, hown⟩, hrep, hsz, hone, hp⟩ := hc.blk id _ hl
  have hv : a.tmps.getD t undef = g := by
    have := hc.env t _ ht
    generalize a.tmps.getD t undef = v at this
    cases this with
    | own _ _ ad cap hm => rw [hm] at hg; cases hg; rfl
  have hg1 : g.oneCell' = true := by
    rcases hown with ⟨rfl, _⟩ | ⟨b, cap, cur, rfl, _⟩ <;> rfl
  obtain ⟨bs, hP, hbs⟩ : ∃ bs, (RowA e sz es g).P [] I w bs ∧ ∀ b ∈ bs, zgd g b := by
    rcases hown with ⟨rfl, h0⟩ | ⟨b, cap, cur, rfl, _, h2, h3, h4, h5, h6⟩
    · exact ⟨[], .inl ⟨rfl, List.eq_nil_of_length_eq_zero h0, rfl⟩, fun b hb => by cases hb⟩
    · rw [← h6] at hrep
      exact ⟨[b], .inr ⟨b, cap, cur, rfl, rfl, h2, h3, h4, h5, hrep, hsz, hone, hp⟩, fun b hb => by rw [List.mem_singleton.1 hb]; rfl⟩
  obtain ⟨q1, q2, q3⟩ := StRep.relay (R := [id]) (new := [(j, hpG [g] bs, .hp (RowH e sz es))]) (ids' := ids') hc.toStRep
    (fun p hp b hb => by
      rw [List.mem_singleton.1 hp] at hb
      exact ⟨id, _, _, by simp, hl, hg, hbs b (za0.1 hb)⟩)
    (fun p hp q hq b _ _ => by rw [List.mem_singleton.1 hp, List.mem_singleton.1 hq]) (Imm.le_refl I) hc.imm (fun b o h => .inl h)
    (fun _ p hp => by rw [List.mem_singleton.1 hp]; exact ⟨_, bs, rfl, _, rfl, hP⟩)
  refine ⟨I, _, _, _, ids', q2, fun t' d hd => ?_, q3, .of_le q1, h⟩
  by_cases e : t = t'
  · subst e
    rw [zaj] at hd; cases hd
    rw [hv]
    exact .hv _ j 0 [g] bs (by simp [zg2, lk]) rfl hg1
  · rw [zam _ _ e] at hd; exact (hc.env t' d hd).mono (Imm.le_refl I) q1
theorem ybm {j : Nat} : ∀ {ds : List D} {i : Nat} {d : D}, yc0 j ds = true → ds[i]? = some d → (∃ k, d = .hv j k) ∨ nmD d = []
  | [], i, d, _, h => by simp at h
  | x :: r, i, d, hn, h => by
    cases i with
    | zero =>
      simp at h; subst h
      cases x <;> simp only [yc0, Bool.and_eq_true] at hn <;> first
        | exact .inl ⟨_, by rw [Nat.eq_of_beq_eq_true hn.1]⟩
        | (right; revert hn; split <;> simp_all)
    | succ i =>
      refine ybm (ds := r) (i := i) ?_ (by simpa using h)
      cases x <;> simp only [yc0, Bool.and_eq_true] at hn <;> exact hn.2
theorem zl9 (htt : TTok P tt) (id j id' : Nat) {A B : Asn} (A' : Asn) {c : PRj} (h : ybe tt env id j id' todo = some c) (hl : lk st id = some (some (.hp A))) (hlj : lk st j = some (some (.hp B))) (hne : id ≠ j) (hA : zh3 A B A' j c.b c.off c.ds)
    (hk : G P n F Q c.todo env ((id', some (.hp A')) :: (id, none) :: (j, none) :: st) ids') : G P n F Q todo env st (id' :: ids') := by
  unfold ybe at h
  split at h
  · rename_i all o todo' h1
    split at h
    · rename_i t p x hgd hdst hop
      split at h
      · rename_i i b off dx ht hp hx
        split at h
        · rename_i ds hds
          split at h
          · rename_i hsz hnm
            cases h
            simp only at hA hk
            have hk : G P n F Q todo' (zdz o.dst .undef env) ([(id', some (.hp A')), (id, none), (j, none)] ++ st) ids' := by rw [hdst]; exact hk
            refine zcv (fr := [id']) (wr := [(id', some (.hp A')), (id, none), (j, none)]) (rd := [id, j]) h1 ?_ (by simp [zc2, hdst]) (fun c hc => by rw [hop] at hc; cases hc) hk
            intro I μ st1 ids1 a w hag hst hon
            refine ⟨fun _ => ?_, fun hw => by rw [zau hgd] at hw; cases hw⟩
            have hops := zbi hon
            rw [hop] at hops
            have rp := (hops p (by simp [Op.operands]) _ hp).rawInv
            obtain ⟨r1, r2⟩ := zg8 hds (hops x (by simp [Op.operands]) _ hx)
            have hl1 : zap st1 id (.hp A) := by unfold zap; rw [hag id (by simp)]; exact hl
            have hl2 : zap st1 j (.hp B) := by unfold zap; rw [hag j (by simp)]; exact hlj
            obtain ⟨g1, hg1, us, b1, rfl, hP1⟩ := hst.blk id _ hl1
            obtain ⟨g2, hg2, vs, b2, rfl, hP2⟩ := hst.blk j _ hl2
            obtain ⟨k1, cur, bt, k2, k3, k4⟩ := hA us vs I w b1 b2 hP1 hP2 fun b h1 h2 => hne (hst.inj id j _ _ _ _ b hl1 hl2 hg1 hg2 (za0.2 h1) (za0.2 h2))
            have hvl : (a.eval x).cells.toList.length = ds.length := r1.1
            have hs := Nat.eq_of_beq_eq_true hsz
            have hrun : (execOp a.eval o).run P w = .ok .skip (w.setRow b (cur.toList.take off ++ (a.eval x).cells.toList ++ cur.toList.drop (off + (a.eval x).cells.toList.length)).toArray) := by
              simp only [execOp, hop, rp, Sem.run_bind, zfs (htt t i ht) k2 (by rw [← hs, ← hvl]; simp) r2 (show off + (a.eval x).cells.toList.length ≤ cur.size by rw [hvl]; exact k3), Result.andThen_ok, Sem.run_pure]
            rw [hrun, hvl]
            obtain ⟨bs, z1, z2⟩ := k4 (a.eval x).cells.toList hvl (fun q c d hc hd => by
              have hr := r1.2 q c d hc hd
              rcases ybm hnm hd with ⟨kk, rfl⟩ | hno
              · cases hr with
                | hv _ _ _ us' bs' hm hi h1 =>
                  rw [hg2] at hm
                  have : vs = us' := by
                    simp only [hpG, Option.some.injEq, Value.tuple.injEq, Array.mk.injEq, List.cons.injEq, Value.agg.injEq, and_true] at hm
                    simpa using hm.1
                  exact ⟨rfl, by rw [this]; exact hi⟩
              · have : RepD I noMu c d := hr.sub fun j hj => by rw [hno] at hj; cases hj
                cases d <;> first | exact this | simp [nmD] at hno) r2
            -- the store, and the names
            obtain ⟨p1, p2⟩ := hst.update (id := id) (blk := .hp A) (blk' := .hp { P := fun _ _ w' bs' => w' = w.setRow b (cur.toList.take off ++ (a.eval x).cells.toList ++ cur.toList.drop (off + ds.length)).toArray ∧ bs' = b1 ∨ True, mono := fun _ h => h, loc := fun _ _ => .inr trivial }) (g := hpG us b1) (b := b) hl1 hg1 (za0.2 k1) (w' := w.setRow b (cur.toList.take off ++ (a.eval x).cells.toList ++ cur.toList.drop (off + ds.length)).toArray) (setRow_size w b _) rfl rfl rfl (fun k hk => setRow_other w b k _ hk) ⟨us, b1, rfl, .inr trivial⟩
            obtain ⟨q1, q2, q3⟩ := StRep.relay (R := [id, j]) (new := [(id', hpG [] bs, .hp A')]) (ids' := ids1) p1
              (fun p hp b hb => by
                rw [List.mem_singleton.1 hp] at hb
                rcases z1 b (za0.1 hb) with h | h
                · exact ⟨id, _, _, by simp, zah.2 (.inl ⟨rfl, rfl⟩), hg1, za0.2 h⟩
                · exact ⟨j, _, _, by simp, zah.2 (.inr ⟨fun e => hne e.symm, hl2⟩), hg2, za0.2 h⟩)
              (fun p hp q hq b _ _ => by rw [List.mem_singleton.1 hp, List.mem_singleton.1 hq]) (Imm.le_refl I) p1.imm (fun b o h => .inl h)
              (fun _ p hp => by rw [List.mem_singleton.1 hp]; exact ⟨[], bs, rfl, z2⟩)
            have hsame : ∀ i bb, zap ([(id', some (.hp A')), (id, none), (j, none)] ++ st1) i bb → zap (zxe [(id', hpG [] bs, Blk.hp A')] ++ (zd3 [id, j] ++ (id, some (.hp { P := fun _ _ w' bs' => w' = w.setRow b (cur.toList.take off ++ (a.eval x).cells.toList ++ cur.toList.drop (off + ds.length)).toArray ∧ bs' = b1 ∨ True, mono := fun _ h => h, loc := fun _ _ => .inr trivial })) :: st1)) i bb := by
              intro i bb hlb
              rcases zah.1 hlb with ⟨h1, h2⟩ | ⟨h1, h2⟩
              · exact zah.2 (.inl ⟨h1, h2⟩)
              · obtain ⟨h3, h4⟩ := za7.1 h2
                obtain ⟨h5, h6⟩ := za7.1 h4
                exact zah.2 (.inr ⟨h1, za7.2 ⟨h3, za7.2 ⟨h5, zah.2 (.inr ⟨h3, h6⟩)⟩⟩⟩)
            obtain ⟨y1, y2⟩ := q2.retell (st1 := [(id', some (.hp A')), (id, none), (j, none)] ++ st1) fun i bb hlb => ⟨bb, hsame i bb hlb, fun _ h => h⟩
            exact ⟨I, _, y1, .undef _, q1, (p2.trans q3).trans y2⟩
          · cases h
        · cases h
      · cases h
    · cases h
  · cases h
end
end Go.Hk

/- Trees that are zbx: terms and patterns whose rows are known by address. -/
namespace Go.Hk
open Go.Proofs
def zv1 (l : Str) : Value := .string ⟨l.toArray⟩
inductive An where
  | mk (s : Bool) (o n : Int) (x : Str) (v : Value) (ks : List An) (u : Value) (ps : List An)
  | im (s : Bool) (cs : List Value) (c : List V)
def tyA : Bool → TypeId
  | true => 26
  | false => 58
def szA : Bool → Nat
  | true => 5
  | false => 4
def zcu : An → Bool
  | .mk s _ _ _ _ _ _ _ => s
  | .im s _ _ => s
def yco : An → List Value
  | .mk s _ _ _ v _ u _ => match s with
    | true => [v, u]
    | false => [v]
  | .im _ _ _ => []
def cA : An → List Value
  | .mk s o n x v _ u _ => match s with
    | true => [.int .i64 o, .int .i64 n, zv1 x, v, u]
    | false => [.int .i64 o, .int .i64 n, zv1 x, v]
  | .im _ cs _ => cs
mutual
def vA : An → List V
  | .mk s o n x _ ks _ ps => match s with
    | true => [.int .i64 o, .int .i64 n, .str x, .sl (vAs ks), .sl (vAs ps)]
    | false => [.int .i64 o, .int .i64 n, .str x, .sl (vAs ks)]
  | .im _ _ c => c
def vAs : List An → List (List V)
  | [] => []
  | a :: r => vA a :: vAs r
end
theorem zgf : ∀ l : List An, vAs l = l.map vA
  | [] => rfl
  | a :: r => by simp [vAs, zgf r]
@[simp] theorem vAs_length (l : List An) : (vAs l).length = l.length := by rw [zgf]; simp
mutual
def zi9 : An → Prop
  | .mk _ _ _ _ _ ks _ ps => zcw ks ∧ zcw ps
  | .im _ _ _ => False
def zcw : List An → Prop
  | [] => True
  | a :: r => zi9 a ∧ zcw r
end
theorem zfl : ∀ {a b : List An}, zcw a → zcw b → zcw (a ++ b)
  | [], _, _, h => h
  | x :: r, b, h, k => ⟨h.1, zfl h.2 k⟩
theorem zm9 : ∀ {l : List An} {i : Nat} {a : An}, zcw l → l[i]? = some a → zi9 a
  | [], i, a, _, h => by simp at h
  | x :: r, 0, a, hf, h => by simp at h; subst h; exact hf.1
  | x :: r, i + 1, a, hf, h => zm9 hf.2 (by simpa using h)
theorem zmp (a b : List An) : vAs (a ++ b) = vAs a ++ vAs b := by simp [zgf]
def zb9 : Value → Nat
  | .slice (some a) _ _ => a.block
  | _ => 0
def zdj (v : Value) : Nat → List Nat
  | 0 => []
  | _ + 1 => [zb9 v]
def yi7 (w : World) (ty : TypeId) (sz : Nat) (v : Value) (len : Nat) : Prop :=
  (len = 0 ∧ (∃ a c, v = .slice a 0 c) ∧ ∀ I, RepV I v (.sl [])) ∨
  (0 < len ∧ ∃ b cap cur, v = .slice (some ⟨b, 0, none⟩) len cap ∧ w.heap[b]? = some (.cells cur ty (0, 0)) ∧ len ≤ cap ∧ cap ≤ maxLen ∧ cur.size = cap * sz)
def atW (w : World) (b off : Nat) (cs : List Value) : Prop := ∃ cur ty k, w.heap[b]? = some (.cells cur ty k) ∧ ∀ (j : Nat) (c : Value), cs[j]? = some c → cur[off + j]? = some c
mutual
def anW (I : Imm) (w : World) : An → Prop
  | .mk s _ _ _ v ks u ps => (yi7 w (tyA s) (szA s) v ks.length ∧ zfa I w s (zb9 v) 0 ks) ∧ (s = true → yi7 w (tyA false) (szA false) u ps.length ∧ zfa I w false (zb9 u) 0 ps)
  | .im s cs c => RepVL I cs c ∧ (∀ y ∈ cs, y.oneCell' = true) ∧ c.length = szA s
def zfa (I : Imm) (w : World) (s : Bool) (b : Nat) : Nat → List An → Prop
  | _, [] => True
  | i, a :: r => (zcu a = s ∧ atW w b (i * szA s) (cA a) ∧ anW I w a) ∧ zfa I w s b (i + 1) r
end
mutual
def anB : An → List Nat
  | .mk s _ _ _ v ks u ps => (zdj v ks.length ++ zdv ks) ++ match s with
    | true => zdj u ps.length ++ zdv ps
    | false => []
  | .im _ _ _ => []
def zdv : List An → List Nat
  | [] => []
  | a :: r => anB a ++ zdv r
end
theorem zle (a b : List An) : zdv (a ++ b) = zdv a ++ zdv b := by
  induction a with
  | nil => rfl
  | cons x r ih => simp [zdv, ih]
theorem zda {I : Imm} {w : World} {s : Bool} {b : Nat} : ∀ {gs : List An} {i j : Nat} {a : An}, zfa I w s b i gs → gs[j]? = some a → zcu a = s ∧ atW w b ((i + j) * szA s) (cA a) ∧ anW I w a
  | [], i, j, a, _, h => by simp at h
  | x :: r, i, 0, a, hw, h => by
    simp at h; subst h
    simp only [zfa] at hw
    exact hw.1
  | x :: r, i, j + 1, a, hw, h => by
    simp only [zfa] at hw
    have := zda hw.2 (j := j) (by simpa using h)
    rwa [show i + 1 + j = i + (j + 1) by omega] at this
theorem zh1 {I : Imm} {w : World} {s : Bool} {b : Nat} : ∀ {gs bs : List An} {i : Nat}, zfa I w s b i (gs ++ bs) ↔ zfa I w s b i gs ∧ zfa I w s b (i + gs.length) bs
  | [], bs, i => by simp [zfa]
  | x :: r, bs, i => by
    simp only [List.cons_append, zfa, List.length_cons]
    rw [zh1, show i + 1 + r.length = i + (r.length + 1) by omega, ← and_assoc]
theorem zlt {w w' : World} {ty : TypeId} {sz : Nat} {v : Value} {len : Nat} (h : ∀ k ∈ zdj v len, w'.heap[k]? = w.heap[k]?) (hr : yi7 w ty sz v len) : yi7 w' ty sz v len := by
  rcases hr with hr | ⟨h0, b, cap, cur, rfl, h1, h2⟩
  · exact .inl hr
  · refine .inr ⟨h0, b, cap, cur, rfl, (h b ?_).trans h1, h2⟩
    cases len with
    | zero => omega
    | succ n => simp [zdj, zb9]
theorem zru {w w' : World} {b off : Nat} {cs : List Value} (h : w'.heap[b]? = w.heap[b]?) (ha : atW w b off cs) : atW w' b off cs := by
  obtain ⟨cur, ty, k, h1, h2⟩ := ha
  exact ⟨cur, ty, k, h.trans h1, h2⟩
mutual
theorem zjk {I : Imm} {w w' : World} : ∀ {a : An}, (∀ k ∈ anB a, w'.heap[k]? = w.heap[k]?) → anW I w a → anW I w' a
  | .im s cs c, _, ha => ha
  | .mk s o n x v ks u ps, h, ha => by
    simp only [anW] at ha ⊢
    simp only [anB, List.mem_append] at h
    obtain ⟨⟨h1, h2⟩, h3⟩ := ha
    refine ⟨⟨zlt (fun k hk => h k (.inl (.inl hk))) h1, ?_⟩, fun hs => ?_⟩
    · exact zfo (fun hne => h (zb9 v) (.inl (.inl (by cases ks with | nil => exact absurd rfl hne | cons => simp [zdj])))) (fun k hk => h k (.inl (.inr hk))) h2
    · subst hs
      obtain ⟨h4, h5⟩ := h3 rfl
      simp only [List.mem_append] at h
      exact ⟨zlt (fun k hk => h k (.inr (.inl hk))) h4, zfo (fun hne => h (zb9 u) (.inr (.inl (by cases ps with | nil => exact absurd rfl hne | cons => simp [zdj])))) (fun k hk => h k (.inr (.inr hk))) h5⟩
theorem zfo {I : Imm} {w w' : World} {s : Bool} {b : Nat} : ∀ {gs : List An} {i : Nat}, (gs ≠ [] → w'.heap[b]? = w.heap[b]?) → (∀ k ∈ zdv gs, w'.heap[k]? = w.heap[k]?) → zfa I w s b i gs → zfa I w' s b i gs
  | [], _, _, _, _ => by simp [zfa]
  | a :: r, i, hb, h, ha => by
    simp only [zfa] at ha ⊢
    simp only [zdv, List.mem_append] at h
    exact ⟨⟨ha.1.1, zru (hb (by simp)) ha.1.2.1, zjk (fun k hk => h k (.inl hk)) ha.1.2.2⟩, zfo (fun _ => hb (by simp)) (fun k hk => h k (.inr hk)) ha.2⟩
end
mutual
theorem zvr {I J : Imm} {w : World} (h : I.le J) : ∀ {a : An}, anW I w a → anW J w a
  | .mk s o n x v ks u ps, ha => by
    simp only [anW] at ha ⊢
    exact ⟨⟨ha.1.1, zjj h ha.1.2⟩, fun hs => ⟨(ha.2 hs).1, zjj h (ha.2 hs).2⟩⟩
  | .im s cs c, ha => ⟨ha.1.mono h, ha.2⟩
theorem zjj {I J : Imm} {w : World} (h : I.le J) {s : Bool} {b : Nat} : ∀ {gs : List An} {i : Nat}, zfa I w s b i gs → zfa J w s b i gs
  | [], _, _ => by simp [zfa]
  | a :: r, i, ha => by
    simp only [zfa] at ha ⊢
    exact ⟨⟨ha.1.1, ha.1.2.1, zvr h ha.1.2.2⟩, zjj h ha.2⟩
end
theorem zv8 {I : Imm} {w : World} {a : An} (h : anW I w a) : (vA a).length = szA (zcu a) := by
  cases a with
  | mk s o n x v ks u ps => cases s <;> simp [vA, zcu, szA]
  | im s cs c => exact h.2.2
theorem zrn {I : Imm} {w : World} {a : An} (h : anW I w a) : (cA a).length = szA (zcu a) := by
  cases a with
  | mk s o n x v ks u ps => cases s <;> simp [cA, zcu, szA]
  | im s cs c => exact h.1.1.trans h.2.2
theorem zjq {w : World} {ty : TypeId} {sz : Nat} {v : Value} {len : Nat} (h : yi7 w ty sz v len) : v.oneCell' = true := by
  rcases h with ⟨_, ⟨a, c, rfl⟩, _⟩ | ⟨_, b, cap, cur, rfl, _⟩ <;> rfl
theorem zyh {I : Imm} {w : World} {a : An} (h : anW I w a) : ∀ c ∈ cA a, c.oneCell' = true := by
  cases a with
  | im s cs c => exact h.2.1
  | mk s o n x v ks u ps =>
  simp only [anW] at h
  have h1 := zjq h.1.1
  intro c hc
  cases s with
  | true =>
    have h2 := zjq (h.2 rfl).1
    simp only [cA, List.mem_cons, List.not_mem_nil, or_false] at hc
    rcases hc with rfl | rfl | rfl | rfl | rfl <;> first | rfl | assumption
  | false =>
    simp only [cA, List.mem_cons, List.not_mem_nil, or_false] at hc
    rcases hc with rfl | rfl | rfl | rfl <;> first | rfl | assumption
theorem RepV.encStr (I : Imm) (l : List UInt8) : RepV I (zv1 l) (.str l) := .str _ _ (by simp)
theorem yfl {w : World} {I J : Imm} {s : Bool} {v : Value} {gs : List An} (hr : yi7 w (tyA s) (szA s) v gs.length) (hw : zfa I w s (zb9 v) 0 gs) (hJ : ∀ k ∈ zdj v gs.length, J k = w.heap[k]?)
    (ih : ∀ a ∈ gs, RepVL J (cA a) (vA a)) : RepV J v (.sl (vAs gs)) := by
  rcases hr with ⟨h0, _, h1⟩ | ⟨h0, b, cap, cur, rfl, h1, h2, h3, h4⟩
  · have : gs = [] := List.eq_nil_of_length_eq_zero h0
    subst this
    exact h1 J
  · have hJb : J b = some (.cells cur (tyA s) (0, 0)) := by
      rw [hJ b (by cases gs with | nil => simp at h0 | cons => simp [zdj, zb9]), h1]
    have hb : zb9 (.slice (some ⟨b, 0, none⟩) gs.length cap) = b := rfl
    rw [hb] at hw
    have hget : ∀ (i : Nat) (e : List V) (j : Nat) (x : V), (vAs gs)[i]? = some e → e[j]? = some x → ∃ a c, gs[i]? = some a ∧ (cA a)[j]? = some c ∧ cur[i * szA s + j]? = some c ∧ c.oneCell' = true ∧ RepV J c x := by
      intro i e j x hi hj
      rw [zgf, List.getElem?_map] at hi
      cases ha : gs[i]? with
      | none => rw [ha] at hi; cases hi
      | some a =>
        rw [ha] at hi; cases hi
        obtain ⟨g1, g2, g3⟩ := zda hw ha
        have hrep := ih a (List.mem_of_getElem? ha)
        have hlt : j < (cA a).length := by rw [hrep.1]; exact (List.getElem?_eq_some_iff.1 hj).1
        have hc := List.getElem?_eq_getElem hlt
        obtain ⟨cur', ty, k, q1, q2⟩ := g2
        rw [h1] at q1; cases q1
        refine ⟨a, _, rfl, hc, ?_, zyh g3 _ (List.mem_of_getElem? hc), hrep.2 j _ x hc hj⟩
        have := q2 j _ hc
        rwa [Nat.zero_add] at this
    refine .sl b 0 gs.length cap (szA s) (vAs gs) (fun i j => (cur[i * szA s + j]?).getD undef) (by simp) h2 h3 (fun e he => ?_) (fun i e j x hi hj => ?_) (fun i e j x hi hj => ?_)
    · rw [zgf] at he
      obtain ⟨a, ha, rfl⟩ := List.mem_map.1 he
      obtain ⟨i, hi⟩ := List.getElem?_of_mem ha
      rw [zv8 (zda hw hi).2.2, (zda hw hi).1]
    · obtain ⟨a, c, k1, k2, k3, k4, k5⟩ := hget i e j x hi hj
      simp [Imm.cell, hJb, k3, k4]
    · obtain ⟨a, c, k1, k2, k3, k4, k5⟩ := hget i e j x hi hj
      simpa [k3] using k5
mutual
theorem zt2 {w : World} {I J : Imm} (hIJ : I.le J) : ∀ {a : An}, anW I w a → (∀ k ∈ anB a, J k = w.heap[k]?) → RepVL J (cA a) (vA a)
  | .im s cs c, h, _ => h.1.mono hIJ
  | .mk s o n x v ks u ps, h, hJ => by
    simp only [anW] at h
    simp only [anB, List.mem_append] at hJ
    have hv : RepV J v (.sl (vAs ks)) := yfl h.1.1 h.1.2 (fun k hk => hJ k (.inl (.inl hk))) (yaj hIJ h.1.2 fun k hk => hJ k (.inl (.inr hk)))
    cases s with
    | true =>
      simp only [List.mem_append] at hJ
      obtain ⟨h4, h5⟩ := h.2 rfl
      have hu : RepV J u (.sl (vAs ps)) := yfl h4 h5 (fun k hk => hJ k (.inr (.inl hk))) (yaj hIJ h5 fun k hk => hJ k (.inr (.inr hk)))
      refine ⟨rfl, fun i c y h1 h2 => ?_⟩
      simp only [cA, vA] at h1 h2
      match i with
      | 0 => cases h1; cases h2; exact .int _ _
      | 1 => cases h1; cases h2; exact .int _ _
      | 2 => cases h1; cases h2; exact .encStr _ _
      | 3 => cases h1; cases h2; exact hv
      | 4 => cases h1; cases h2; exact hu
      | i + 5 => simp at h1
    | false =>
      refine ⟨rfl, fun i c y h1 h2 => ?_⟩
      simp only [cA, vA] at h1 h2
      match i with
      | 0 => cases h1; cases h2; exact .int _ _
      | 1 => cases h1; cases h2; exact .int _ _
      | 2 => cases h1; cases h2; exact .encStr _ _
      | 3 => cases h1; cases h2; exact hv
      | i + 4 => simp at h1
theorem yaj {w : World} {I J : Imm} (hIJ : I.le J) {s : Bool} {b : Nat} : ∀ {gs : List An} {i : Nat}, zfa I w s b i gs → (∀ k ∈ zdv gs, J k = w.heap[k]?) → ∀ a ∈ gs, RepVL J (cA a) (vA a)
  | [], _, _, _ => fun a h => by cases h
  | x :: r, i, hw, hJ => by
    simp only [zfa] at hw
    simp only [zdv, List.mem_append] at hJ
    have h1 := zt2 hIJ hw.1.2.2 fun k hk => hJ k (.inl hk)
    have h2 := yaj hIJ hw.2 (fun k hk => hJ k (.inr hk))
    intro a h
    rcases List.mem_cons.1 h with rfl | h
    · exact h1
    · exact h2 a h
end
theorem zim {w : World} {b off : Nat} {cur : Array Value} {ty : TypeId} {k : Nat × Nat} {cs : List Value} (h : w.heap[b]? = some (.cells cur ty k)) :
    (w.setRow b (cur.toList.take off ++ cs ++ cur.toList.drop (off + cs.length)).toArray).heap[b]? = some (.cells (cur.toList.take off ++ cs ++ cur.toList.drop (off + cs.length)).toArray ty k) := setRow_heap w b cur _ ty k h
theorem zft {cur : List Value} {off : Nat} {cs : List Value} (hf : off + cs.length ≤ cur.length) (i : Nat) :
    (cur.take off ++ cs ++ cur.drop (off + cs.length))[i]? = if i < off then cur[i]? else if i < off + cs.length then cs[i - off]? else cur[i]? := by
  rw [List.append_assoc, List.getElem?_append, List.length_take, Nat.min_eq_left (by omega)]
  by_cases h : i < off
  · rw [if_pos h, if_pos h, List.getElem?_take, if_pos h]
  · rw [if_neg h, if_neg h, List.getElem?_append]
    by_cases h2 : i < off + cs.length
    · rw [if_pos h2, if_pos (by omega)]
    · rw [if_neg h2, if_neg (by omega), List.getElem?_drop]
      congr 1; omega
theorem yib {w : World} {b off : Nat} {cur : Array Value} {ty : TypeId} {k : Nat × Nat} {cs : List Value} (h : w.heap[b]? = some (.cells cur ty k)) (hf : off + cs.length ≤ cur.size) :
    atW (w.setRow b (cur.toList.take off ++ cs ++ cur.toList.drop (off + cs.length)).toArray) b off cs := by
  refine ⟨_, ty, k, zim h, fun j c hj => ?_⟩
  have hlt := (List.getElem?_eq_some_iff.1 hj).1
  have := zft (cur := cur.toList) (off := off) (cs := cs) (by simpa using hf) (off + j)
  rw [if_neg (by omega), if_pos (by omega), Nat.add_sub_cancel_left, hj] at this
  simpa using this
theorem yce {w : World} {b off off1 : Nat} {cur : Array Value} {ty : TypeId} {k : Nat × Nat} {cs cs1 : List Value} (h : w.heap[b]? = some (.cells cur ty k)) (hf : off + cs.length ≤ cur.size) (ha : atW w b off1 cs1) (hd : off1 + cs1.length ≤ off ∨ off + cs.length ≤ off1) :
    atW (w.setRow b (cur.toList.take off ++ cs ++ cur.toList.drop (off + cs.length)).toArray) b off1 cs1 := by
  obtain ⟨cur', ty', k', h1, h2⟩ := ha
  rw [h] at h1; cases h1
  refine ⟨_, ty, k, zim h, fun j c hj => ?_⟩
  have hlt := (List.getElem?_eq_some_iff.1 hj).1
  have h3 := h2 j c hj
  have := zft (cur := cur.toList) (off := off) (cs := cs) (by simpa using hf) (off1 + j)
  rcases hd with hd | hd
  · rw [if_pos (by omega)] at this; simpa [h3] using this
  · rw [if_neg (by omega), if_neg (by omega)] at this; simpa [h3] using this
def zyt (a : An) : Asn where
  P := fun _ I w bs => bs = anB a ∧ bs.Nodup ∧ anW I w a
  mono := fun h ⟨h1, h2, h3⟩ => ⟨h1, h2, zvr h h3⟩
  loc := fun h ⟨h1, h2, h3⟩ => ⟨h1, h2, zjk (fun k hk => h k (by rw [h1]; exact hk)) h3⟩
def zvx (s : Bool) (c : List V) : Asn where
  P := fun vs I w bs => ∃ o n x v ks u ps, (vA (.mk s o n x v ks u ps) = c ∧ zi9 (.mk s o n x v ks u ps)) ∧ vs = yco (.mk s o n x v ks u ps) ∧ (zyt (.mk s o n x v ks u ps)).P [] I w bs
  mono := fun h ⟨o, n, x, v, ks, u, ps, h2, h3, h4⟩ => ⟨o, n, x, v, ks, u, ps, h2, h3, (zyt _).mono h h4⟩
  loc := fun h ⟨o, n, x, v, ks, u, ps, h2, h3, h4⟩ => ⟨o, n, x, v, ks, u, ps, h2, h3, (zyt _).loc h h4⟩
def zno (s : Bool) (v : Value) (gs : List An) (rest : List (List V)) : Asn where
  P := fun _ I w bs => yi7 w (tyA s) (szA s) v (gs.length + rest.length) ∧ zfa I w s (zb9 v) 0 gs ∧
    (∀ (j : Nat) (e : List V), rest[j]? = some e → ∃ cs : List Value, atW w (zb9 v) ((gs.length + j) * szA s) cs ∧ RepVL I cs e ∧ (∀ c ∈ cs, c.oneCell' = true) ∧ e.length = szA s) ∧
    bs = zdj v (gs.length + rest.length) ++ zdv gs ∧ bs.Nodup
  mono := fun h ⟨h1, h2, h3, h4⟩ => ⟨h1, zjj h h2, fun j e hj => let ⟨cs, a, b, c⟩ := h3 j e hj; ⟨cs, a, b.mono h, c⟩, h4⟩
  loc := fun {vs I w w' bs} h ⟨h1, h2, h3, h4, h5⟩ => by
    have hb : gs.length + rest.length ≠ 0 → w'.heap[zb9 v]? = w.heap[zb9 v]? := fun hne => h _ (by
      rw [h4]
      cases hl : gs.length + rest.length with
      | zero => exact absurd hl hne
      | succ n => simp [zdj])
    refine ⟨zlt (fun k hk => h k (by rw [h4]; simp [hk])) h1, zfo (fun hne => hb (by cases gs with | nil => exact absurd rfl hne | cons => simp)) (fun k hk => h k (by rw [h4]; simp [hk])) h2, fun j e hj => ?_, h4, h5⟩
    obtain ⟨cs, a, b⟩ := h3 j e hj
    exact ⟨cs, zru (hb (by have := (List.getElem?_eq_some_iff.1 hj).1; omega)) a, b⟩
def MixE (s : Bool) (v : Value) (gs : List An) (e : List V) (rest : List (List V)) : Asn where
  P := fun _ I w bs => ∃ a, (vA a = e ∧ zi9 a) ∧ (zno s v (gs ++ [a]) rest).P [] I w bs
  mono := fun h ⟨a, h1, h2⟩ => ⟨a, h1, (zno s v (gs ++ [a]) rest).mono h h2⟩
  loc := fun h ⟨a, h1, h2⟩ => ⟨a, h1, (zno s v (gs ++ [a]) rest).loc h h2⟩
def zjl (s : Bool) (es : List (List V)) : Asn where
  P := fun vs I w bs => ∃ v, vs = [v] ∧ (zno s v [] es).P [] I w bs
  mono := fun h ⟨v, h1, h2⟩ => ⟨v, h1, (zno s v [] es).mono h h2⟩
  loc := fun h ⟨v, h1, h2⟩ => ⟨v, h1, (zno s v [] es).loc h h2⟩
theorem zmj {I : Imm} {w : World} {vs : List Value} {bs : List Nat} (s : Bool) (h : (ImmA (.sl [])).P vs I w bs) : (zjl s []).P vs I w bs := by
  obtain ⟨rfl, v, rfl, h1, h2⟩ := h
  refine ⟨v, rfl, .inl ⟨rfl, ?_, ?_⟩, by simp [zfa], fun j e hj => by simp at hj, by simp [zdj, zdv], .nil⟩
  · obtain ⟨ad, len, cap, rfl, _, rfl⟩ := zuf h1
    exact ⟨_, _, rfl⟩
  · intro J
    cases h1 with
    | slnil => exact .slnil
    | sl0 a => exact .sl0 a
    | sl b o len cap sz es vs hl hc hm _ _ _ => exact .sl b o len cap sz [] vs hl hc hm (fun e he => by cases he) (fun i e j x hi => by simp at hi) (fun i e j x hi => by simp at hi)
theorem zye {I : Imm} {w : World} {vs : List Value} {bs : List Nat} {s : Bool} {es : List (List V)} (hne : es ≠ []) (h : (RowH (tyA s) (szA s) es).P vs I w bs) : (zjl s es).P vs I w bs := by
  obtain ⟨v, rfl, ⟨_, h0, _⟩ | ⟨b, cap, cur, rfl, rfl, h1, h2, h3, h4, h5, h6, h7, h8⟩⟩ := h
  · exact absurd h0 hne
  have hpos : 0 < es.length := by cases es with | nil => exact absurd rfl hne | cons => simp
  refine ⟨_, rfl, .inr ⟨by simpa using hpos, b, cap, cur, by simp, h1, by simpa using h2, h3, h4⟩, by simp [zfa], fun j e hj => ?_, ?_, by simp⟩
  · have he := h6 e (List.mem_of_getElem? hj)
    have hlt := (List.getElem?_eq_some_iff.1 hj).1
    have hfit : (j + 1) * szA s ≤ es.length * szA s := Nat.mul_le_mul_right _ hlt
    rw [Nat.succ_mul] at hfit
    have hcapz : es.length * szA s ≤ cap * szA s := Nat.mul_le_mul_right _ h2
    have hget : ∀ i, i < szA s → ∃ c x, cur.toList[j * szA s + i]? = some c ∧ e[i]? = some x ∧ RepV I c x ∧ c.oneCell' = true := by
      intro i hi
      obtain ⟨x, hx⟩ : ∃ x, e[i]? = some x := ⟨_, List.getElem?_eq_getElem (by omega)⟩
      have hf := zdp h6 j e i x hj hx
      obtain ⟨c, hc⟩ : ∃ c, cur.toList[j * szA s + i]? = some c := ⟨_, List.getElem?_eq_getElem (by simp; omega)⟩
      have hr := h5.2 (j * szA s + i) c x (by rw [List.getElem?_take, if_pos (by omega)]; exact hc) hf
      exact ⟨c, x, hc, hx, hr, hr.one (h7 e (List.mem_of_getElem? hj) x (List.mem_of_getElem? hx))⟩
    refine ⟨(cur.toList.drop (j * szA s)).take (szA s), ⟨cur, _, _, h1, fun i c hc => ?_⟩, ⟨?_, fun i c x hc hx => ?_⟩, fun c hc => ?_, he⟩
    · rw [List.getElem?_take] at hc
      split at hc
      · rw [List.getElem?_drop] at hc
        simpa using hc
      · cases hc
    · rw [List.length_take, List.length_drop, he]; simp; omega
    · rw [List.getElem?_take] at hc
      split at hc
      · rename_i hi
        rw [List.getElem?_drop] at hc
        obtain ⟨c', x', k1, k2, k3, _⟩ := hget i hi
        rw [k1] at hc; cases hc
        rw [k2] at hx; cases hx
        exact k3
      · cases hc
    · obtain ⟨i, hi⟩ := List.getElem?_of_mem hc
      rw [List.getElem?_take] at hi
      split at hi
      · rename_i hl
        rw [List.getElem?_drop] at hi
        obtain ⟨c', x', k1, _, _, k4⟩ := hget i hl
        rw [k1] at hi; cases hi
        exact k4
      · cases hi
  · cases es with
    | nil => exact absurd rfl hne
    | cons => simp [zdj, zb9, zdv]
theorem zut {I : Imm} {w : World} {vs : List Value} {bs : List Nat} {s : Bool} {v : Value} {gs : List An} {rest : List (List V)} (h : (zno s v gs rest).P vs I w bs) : ∃ a cap, v = .slice a (gs.length + rest.length) cap ∧ (0 < gs.length + rest.length → ∃ b, a = some ⟨b, 0, none⟩) := by
  rcases h.1 with ⟨h0, ⟨a, c, rfl⟩, _⟩ | ⟨h0, b, cap, cur, rfl, _⟩
  · exact ⟨a, c, by rw [h0], fun h => by omega⟩
  · exact ⟨_, cap, rfl, fun _ => ⟨b, rfl⟩⟩
theorem zus {I : Imm} {w : World} {vs : List Value} {bs : List Nat} {s : Bool} {v : Value} {gs : List An} {e : List V} {rest : List (List V)} (h : (zno s v gs (e :: rest)).P vs I w bs) : zc3 I w (zb9 v) (gs.length * szA s) (e.map .imm) := by
  obtain ⟨cs, ⟨cur, ty, k, h1, h2⟩, h3, h4, h5⟩ := h.2.2.1 0 e rfl
  rw [Nat.add_zero] at h2
  refine ⟨cur, ty, k, h1, fun j d hd => ?_⟩
  rw [List.getElem?_map] at hd
  cases hx : e[j]? with
  | none => rw [hx] at hd; cases hd
  | some x =>
    rw [hx] at hd; cases hd
    have hlt : j < cs.length := by rw [h3.1]; exact (List.getElem?_eq_some_iff.1 hx).1
    have hc := List.getElem?_eq_getElem hlt
    exact ⟨_, h2 j _ hc, h4 _ (List.mem_of_getElem? hc), .imm _ _ (h3.2 j _ x hc hx)⟩
def dsA (j : Nat) : Bool → List V → List D
  | true, [o, n, x, _, _] => [.imm o, .imm n, .imm x, .hv j 0, .hv j 1]
  | false, [o, n, x, _] => [.imm o, .imm n, .imm x, .hv j 0]
  | _, _ => []
theorem RepV.strEq {I : Imm} {v : Value} {l : List UInt8} (h : RepV I v (.str l)) : v = zv1 l := by
  cases h with
  | str s _ hs =>
    subst hs
    obtain ⟨⟨l⟩⟩ := s
    rfl
theorem yku {I : Imm} {s : Bool} {o n : Int} {x : Str} {v : Value} {ks : List An} {u : Value} {ps : List An} {j : Nat} {cs : List Value} (hl : cs.length = (dsA j s (vA (.mk s o n x v ks u ps))).length) (h : ∀ (i : Nat) (c : Value) (d : D), cs[i]? = some c → (dsA j s (vA (.mk s o n x v ks u ps)))[i]? = some d → ynp I j (yco (.mk s o n x v ks u ps)) c d) : cs = cA (.mk s o n x v ks u ps) := by
  have imm : ∀ {c : Value} {y : V}, ynp I j (yco (.mk s o n x v ks u ps)) c (.imm y) → RepV I c y := fun h => by
    have h : RepD I noMu _ (.imm _) := h
    exact h.immInv
  cases s with
  | true =>
    simp only [zcu, vA, dsA, List.length_cons, List.length_nil] at hl h
    match cs, hl with
    | [c0, c1, c2, c3, c4], _ =>
      have e0 := (imm (h 0 _ _ rfl rfl)).intInv
      have e1 := (imm (h 1 _ _ rfl rfl)).intInv
      have e2 := (imm (h 2 _ _ rfl rfl)).strEq
      have e3 := h 3 _ _ rfl rfl
      have e4 := h 4 _ _ rfl rfl
      simp only [ynp, yco, true_and] at e3 e4
      simp at e3 e4
      rw [e0, e1, e2, ← e3, ← e4]; rfl
  | false =>
    simp only [zcu, vA, dsA, List.length_cons, List.length_nil] at hl h
    match cs, hl with
    | [c0, c1, c2, c3], _ =>
      have e0 := (imm (h 0 _ _ rfl rfl)).intInv
      have e1 := (imm (h 1 _ _ rfl rfl)).intInv
      have e2 := (imm (h 2 _ _ rfl rfl)).strEq
      have e3 := h 3 _ _ rfl rfl
      simp only [ynp, yco, true_and] at e3
      simp at e3
      rw [e0, e1, e2, ← e3]; rfl
theorem yd4 {s : Bool} {o n : Int} {x : Str} {v : Value} {ks : List An} {u : Value} {ps : List An} {j : Nat} : (dsA j s (vA (.mk s o n x v ks u ps))).length = szA s := by
  cases s <;> simp [vA, dsA, szA]
theorem zp9 {s : Bool} {v : Value} {gs : List An} {e : List V} {rest : List (List V)} {j : Nat} : zh3 (zno s v gs (e :: rest)) (zvx s e) (MixE s v gs e rest) j (zb9 v) (gs.length * szA s) (dsA j s e) := by
  intro us vs I w b1 b2 ⟨h1, h2, h3, h4, h5⟩ ⟨o, n, x, v', ks, u, ps, ⟨k2, kf⟩, k3, k4, k5, k6⟩ hdis
  obtain ⟨a, ha⟩ : ∃ a, a = An.mk s o n x v' ks u ps := ⟨_, rfl⟩
  have k1 : zcu a = s := by rw [ha]; rfl
  have hdl0 : (dsA j (zcu a) (vA a)).length = szA (zcu a) := by rw [ha]; exact yd4
  have hco : ∀ {cs : List Value}, cs.length = (dsA j (zcu a) (vA a)).length → (∀ (i : Nat) (c : Value) (d : D), cs[i]? = some c → (dsA j (zcu a) (vA a))[i]? = some d → ynp I j (yco a) c d) → cs = cA a := by rw [ha]; exact yku
  rw [← ha] at k2 k3 k4 k6 kf
  clear ha
  subst k1; subst k2; subst k3
  rcases h1 with ⟨h0, _⟩ | ⟨h0, b, cap, cur, rfl, hheap, hcap, hcm, hcs⟩
  · simp at h0
  simp only [zb9] at h2 h3 ⊢
  have hbs : b ∈ b1 := by
    rw [h4]
    have : gs.length + (vA a :: rest).length = (gs.length + rest.length) + 1 := by simp; omega
    rw [this]; simp [zdj, zb9]
  have hfit : gs.length * szA (zcu a) + szA (zcu a) ≤ cur.size := by
    rw [hcs, ← Nat.succ_mul]
    exact Nat.mul_le_mul_right _ (by simp at hcap; omega)
  refine ⟨hbs, cur, _, hheap, by rw [hdl0]; exact hfit, fun cs hl hcs' hone => ?_⟩
  have hcA := hco hl hcs'
  have hcl : cs.length = szA (zcu a) := by rw [hcA, zrn k6]
  have hdl : (dsA j (zcu a) (vA a)).length = cs.length := by rw [hdl0, hcl]
  rw [hdl]
  have hf : gs.length * szA (zcu a) + cs.length ≤ cur.size := by rw [hcl]; exact hfit
  have hlen : (gs ++ [a]).length + rest.length = gs.length + (vA a :: rest).length := by simp; omega
  have hnb : ∀ k ∈ zdv gs, k ≠ b := fun k hk e => by
    subst e
    rw [h4] at h5
    have hd := (List.nodup_append.1 h5).2.2 k (by
      have : gs.length + (vA a :: rest).length = (gs.length + rest.length) + 1 := by simp; omega
      rw [this]; simp [zdj, zb9]) k hk
    exact hd rfl
  have hnb2 : ∀ k ∈ anB a, k ≠ b := fun k hk e => by
    subst e
    exact hdis k hbs (by rw [k4]; exact hk)
  refine ⟨zdj (.slice (some ⟨b, 0, none⟩) (gs.length + (vA a :: rest).length) cap) ((gs ++ [a]).length + rest.length) ++ zdv (gs ++ [a]), fun k hk => ?_, a, ⟨rfl, kf⟩, ?_, ?_, ?_, rfl, ?_⟩
  · rw [hlen, zle, ← List.append_assoc, ← h4, List.mem_append] at hk
    rcases hk with hk | hk
    · exact .inl hk
    · right; rw [k4]; simpa [zdv] using hk
  · rw [hlen]
    refine .inr ⟨h0, b, cap, _, rfl, zim hheap, hcap, hcm, ?_⟩
    rw [← hcs]
    have hl2 : cur.toList.length = cur.size := Array.length_toList
    generalize gs.length * szA (zcu a) = off at hf
    show (cur.toList.take off ++ cs ++ cur.toList.drop (off + cs.length)).length = cur.size
    rw [List.length_append, List.length_append, List.length_take, List.length_drop]
    omega
  · rw [zh1]
    constructor
    · -- the others
      have : ∀ {gs' : List An} {i : Nat}, (∀ k ∈ zdv gs', k ≠ b) → i + gs'.length ≤ gs.length → zfa I w (zcu a) b i gs' → zfa I (w.setRow b (cur.toList.take (gs.length * szA (zcu a)) ++ cs ++ cur.toList.drop (gs.length * szA (zcu a) + cs.length)).toArray) (zcu a) b i gs' := by
        intro gs'
        induction gs' with
        | nil => intro i _ _ _; simp [zfa]
        | cons y r ih =>
          intro i hk hi hw
          simp only [zfa] at hw ⊢
          simp only [zdv, List.mem_append] at hk
          simp only [List.length_cons] at hi
          refine ⟨⟨hw.1.1, yce hheap hf hw.1.2.1 (.inl ?_), zjk (fun k hk' => setRow_other w b k _ (hk k (.inl hk'))) hw.1.2.2⟩, ih (fun k hk' => hk k (.inr hk')) (by omega) hw.2⟩
          rw [zrn hw.1.2.2, hw.1.1, ← Nat.succ_mul]
          exact Nat.mul_le_mul_right _ (by omega)
      exact this hnb (by omega) h2
    · simp only [zfa, and_true, Nat.zero_add]
      refine ⟨trivial, ?_, zjk (fun k hk => setRow_other w b k _ (hnb2 k hk)) k6⟩
      rw [← hcA]
      exact yib hheap hf
  · intro i e' he'
    obtain ⟨cs', q1, q2, q3, q4⟩ := h3 (i + 1) e' (by simpa using he')
    refine ⟨cs', ?_, q2, q3, q4⟩
    have e1 : (gs ++ [a]).length + i = gs.length + (i + 1) := by simp; omega
    rw [e1]
    refine yce hheap hf q1 (.inr ?_)
    rw [hcl, ← Nat.succ_mul]
    exact Nat.mul_le_mul_right _ (by omega)
  · rw [hlen, zle, ← List.append_assoc, ← h4]
    refine List.nodup_append.2 ⟨h5, by simpa [zdv, ← k4] using k5, fun k hk k' hk' e => ?_⟩
    subst e
    exact hdis k hk (by rw [k4]; simpa [zdv] using hk')
theorem ymo {I : Imm} {w : World} {vs : List Value} {bs : List Nat} {v : Value} {gs : List An} {o n : Int} {x : Str} (h : (zno false v gs []).P vs I w bs) : (zyt (.mk false o n x v gs (.bool true) [])).P [] I w bs := by
  obtain ⟨h1, h2, _, h4, h5⟩ := h
  exact ⟨by rw [h4]; simp [anB], h5, ⟨h1, h2⟩, fun h => by cases h⟩
theorem yju {I : Imm} {w : World} {vs us : List Value} {b1 b2 : List Nat} {v u : Value} {ks ps : List An} {o n : Int} {x : Str} (h : (zno true v ks []).P vs I w b1) (k : (zno false u ps []).P us I w b2) (hd : ∀ b ∈ b1, b ∉ b2) :
    (zyt (.mk true o n x v ks u ps)).P [] I w (b1 ++ b2) := by
  obtain ⟨h1, h2, _, h4, h5⟩ := h
  obtain ⟨k1, k2, _, k4, k5⟩ := k
  refine ⟨by rw [h4, k4]; simp [anB], List.nodup_append.2 ⟨h5, k5, fun a ha b hb e => hd a ha (e ▸ hb)⟩, ⟨h1, h2⟩, fun _ => ⟨k1, k2⟩⟩
end Go.Hk

/- Blocks by address say other things; a contract of values for one of zbx memory. -/
namespace Go.Hk
section
variable {P : Program} {n : Nat} {F : List Nat} {Q : DQ} {tt : TT} {env env' : Env} {st st' : St} {ids ids' : List Nat} {k todo todo' : List DI} {I J : Imm} {μ : Mu} {w : World} {a : Act} {d : D}
theorem zd2 {α : Type} (id : Nat) {A : Asn} (B : α → Asn) (hl : lk st id = some (some (.hp A))) (hA : ∀ vs I w bs, A.P vs I w bs → ∃ x, (B x).P vs I w bs)
    (h : ∀ x, DGo P n F Q todo env ((id, some (.hp (B x))) :: st) ids) : DGo P n F Q todo env st ids := by
  refine zd1 fun I μ a w hc => ?_
  obtain ⟨g, hg, vs, bs, rfl, hP⟩ := hc.blk id _ hl
  obtain ⟨x, hx⟩ := hA vs I w bs hP
  have hlive : ∀ i b, zap ((id, some (.hp (B x))) :: st) i b → (i = id ∧ b = .hp (B x)) ∨ (i ≠ id ∧ zap st i b) := fun i b hl => by
    rcases zah.1 hl with ⟨rfl, rfl⟩ | h
    · exact .inl ⟨rfl, rfl⟩
    · exact .inr h
  have hold : ∀ i b, zap ((id, some (.hp (B x))) :: st) i b → ∃ b0, zap st i b0 := fun i b hl => by
    rcases hlive i b hl with ⟨rfl, _⟩ | ⟨_, h⟩
    · exact ⟨_, ‹lk st i = _›⟩
    · exact ⟨_, h⟩
  refine ⟨I, μ, env, _, ids, { imm := hc.imm, blk := fun i b hlb => ?_, apart := fun i b g k hlb hg' hk => ?_, inj := fun i j bi bj gi gj k hi hj => ?_, nodup := hc.nodup, idsFree := hc.idsFree }, fun t d hd => hc.env t d hd, ?_, Pin.refl _ _, h x⟩
  · rcases hlive i b hlb with ⟨rfl, rfl⟩ | ⟨_, h⟩
    · exact ⟨_, hg, vs, bs, rfl, hx⟩
    · exact hc.blk i b h
  · obtain ⟨b0, h0⟩ := hold i b hlb
    exact hc.apart i b0 g k h0 hg' hk
  · obtain ⟨b0, h0⟩ := hold i bi hi
    obtain ⟨b1, h1⟩ := hold j bj hj
    exact hc.inj i j b0 b1 gi gj k h0 h1
  · exact { imm := Imm.le_refl I, os := rfl, tape := rfl, output := rfl, size := Nat.le_refl _, block := fun _ _ _ => rfl, old := fun _ _ _ => rfl
            fresh := fun b _ ⟨i, bi, g, h1, h2⟩ => let ⟨b0, q⟩ := hold i bi h1; ⟨i, b0, g, q, h2⟩ }
end
end Go.Hk

/- Contracts of slices.Clone and of the copies of patterns and terms: all that comes out is zbx. -/
namespace Go.Hk
open Go.Proofs
set_option maxRecDepth 100000 in
theorem zr1 (es : List (List V)) (hs : ∀ c ∈ es, c.length = 4) (hlen : es.length ≤ 1000000) :
    zc5 Tryz.prog 90 [.imm (.sl es)] [] (.ret (.hv 1 0) [(1, some (.hp (zjl false es)))]) := by
  cases es with
  | nil =>
    refine zaf zbl Tryz.func90 (by decide +kernel) rfl [1] rfl rfl ?_
    refine fg_ [] rfl (by simp) ?_
    refine zg4 zbl rfl fun b hb => ?_
    cases b with
    | true =>
      refine fd_ [.a] rfl (by simp) ?_
      refine zhu (x := .sl []) 2 1 rfl rfl rfl ?_
      refine zd2 1 (fun _ : Unit => zjl false []) rfl (fun vs I w bs h => ⟨(), zmj false h⟩) fun _ => ?_
      exact zaa ⟨_, rfl, rfl, rfl, trivial⟩
    | false =>
      refine fd_ [.a] rfl (by simp) ?_
      refine zqp zbl rfl ?_
      refine fg_ [] rfl (by simp) ?_
      refine zhu (x := .sl []) 2 1 rfl rfl rfl ?_
      refine zd2 1 (fun _ : Unit => zjl false []) rfl (fun vs I w bs h => ⟨(), zmj false h⟩) fun _ => ?_
      exact zaa ⟨_, rfl, rfl, rfl, trivial⟩
  | cons e r =>
    refine zaf zbl Tryz.func90 (by decide +kernel) rfl [2, 1] rfl rfl ?_
    refine fg_ [] rfl (by simp) ?_
    refine zg4 zbl rfl fun b hb => ?_
    have hb : b = false := hb (by simp)
    subst hb
    refine fd_ [.a] rfl (by simp) ?_
    refine zez zbl rfl ⟨hs, by simp only [maxLen, List.length_nil] at *; omega, by simp only [List.length_nil] at *; omega, fun c hc => by simp at hc, by simp⟩ ?_
    refine fg_ [] rfl (by simp) ?_
    refine zra 2 2 1 rfl rfl ?_
    refine zd2 1 (fun _ : Unit => zjl false (e :: r)) rfl (fun vs I w bs h => ⟨(), zye (s := false) (by simp) h⟩) fun _ => ?_
    exact zaa ⟨_, rfl, rfl, rfl, trivial⟩
set_option maxRecDepth 100000 in
theorem zyp (es : List (List V)) (hs : ∀ c ∈ es, c.length = 5) (hlen : es.length ≤ 1000000) :
    zc5 Tryz.prog 89 [.imm (.sl es)] [] (.ret (.hv 1 0) [(1, some (.hp (zjl true es)))]) := by
  cases es with
  | nil =>
    refine zaf zbl Tryz.func89 (by decide +kernel) rfl [1] rfl rfl ?_
    refine fg_ [] rfl (by simp) ?_
    refine zg4 zbl rfl fun b hb => ?_
    cases b with
    | true =>
      refine fd_ [.a] rfl (by simp) ?_
      refine zhu (x := .sl []) 2 1 rfl rfl rfl ?_
      refine zd2 1 (fun _ : Unit => zjl true []) rfl (fun vs I w bs h => ⟨(), zmj true h⟩) fun _ => ?_
      exact zaa ⟨_, rfl, rfl, rfl, trivial⟩
    | false =>
      refine fd_ [.a] rfl (by simp) ?_
      refine zqp zbl rfl ?_
      refine fg_ [] rfl (by simp) ?_
      refine zhu (x := .sl []) 2 1 rfl rfl rfl ?_
      refine zd2 1 (fun _ : Unit => zjl true []) rfl (fun vs I w bs h => ⟨(), zmj true h⟩) fun _ => ?_
      exact zaa ⟨_, rfl, rfl, rfl, trivial⟩
  | cons e r =>
    refine zaf zbl Tryz.func89 (by decide +kernel) rfl [2, 1] rfl rfl ?_
    refine fg_ [] rfl (by simp) ?_
    refine zg4 zbl rfl fun b hb => ?_
    have hb : b = false := hb (by simp)
    subst hb
    refine fd_ [.a] rfl (by simp) ?_
    refine zez zbl rfl ⟨hs, by simp only [maxLen, List.length_nil] at *; omega, by simp only [List.length_nil] at *; omega, fun c hc => by simp at hc, by simp⟩ ?_
    refine fg_ [] rfl (by simp) ?_
    refine zra 2 2 1 rfl rfl ?_
    refine zd2 1 (fun _ : Unit => zjl true (e :: r)) rfl (fun vs I w bs h => ⟨(), zye (s := true) (by simp) h⟩) fun _ => ?_
    exact zaa ⟨_, rfl, rfl, rfl, trivial⟩
theorem znk {vs : List Value} {I : Imm} {w : World} {bs : List Nat} {s : Bool} {es : List (List V)} (h : (zjl s es).P vs I w bs) : ∃ x : Option Addr × Nat, vs = [.slice x.1 es.length x.2] ∧ (zno s (.slice x.1 es.length x.2) [] es).P [] I w bs := by
  obtain ⟨v, rfl, h⟩ := h
  obtain ⟨a, cap, rfl, _⟩ := zut h
  rw [List.length_nil, Nat.zero_add] at h ⊢
  exact ⟨(a, cap), rfl, h⟩
mutual
def zr4 : Ty → Prop
  | .mk _ _ _ ps => ps.length ≤ 1000000 ∧ zsf ps
def zsf : List Ty → Prop
  | [] => True
  | p :: r => zr4 p ∧ zsf r
end
theorem zjm : ∀ {l : List Ty} {t : Ty}, zsf l → t ∈ l → zr4 t
  | [], _, _, h => by simp at h
  | p :: r, t, h, hm => by
    rcases List.mem_cons.1 hm with rfl | hm
    · exact h.1
    · exact zjm h.2 hm
set_option maxRecDepth 100000 in
theorem ztv : ∀ t : Ty, zr4 t → zc5 Tryz.prog 91 [.imm (.agg (zb5 t))] [] (.ret (.agg (dsA 1 false (zb5 t))) [(1, some (.hp (zvx false (zb5 t))))])
  | .mk f n x ps, hw => by
    obtain ⟨hw1, hw2⟩ := hw
    refine zaf zbl Tryz.func91 (by decide +kernel) rfl [2, 3, 4, 5, 1, 6, 7] rfl rfl ?_
    refine fg_ [] rfl (by simp) ?_
    refine zar (fr := [4]) [] [(1, 4)] rfl (by simp) (zr1 (zcf ps) (fun c hc => by rw [zhy] at hc; obtain ⟨p, _, rfl⟩ := List.mem_map.1 hc; simp) (by simpa using hw1)) trivial rfl rfl rfl rfl ?_
    refine fg_ [] rfl (by simp <;> rfl) ?_
    refine zgk (ids' := [1, 6, 7]) 4 5 (fun x : Option Addr × Nat => [.slice x.1 (zcf ps).length x.2]) (fun x => zno false (.slice x.1 (zcf ps).length x.2) [] (zcf ps)) rfl (fun vs I w bs h => znk h) fun y => ?_
    obtain ⟨ad, cap⟩ := y
    refine fd_ [] rfl (by simp) ?_
    refine zak (fun y : Nat × List An => [(12, .imm (.int .i64 y.1)), (11, .imm (.int .i64 (zcf ps).length)), (10, .raw (.slice ad (zcf ps).length cap)), (1, .ref 2 0), (2, .ref 3 0)])
      (fun y => [(2, some (.cells 58 4 [.imm (.int .i64 f), .imm (.int .i64 n), .imm (.str x), .raw (.slice ad (zcf ps).length cap)])), (3, some (.cells 58 4 [.imm (.int .i64 0), .imm (.int .i64 0), .imm (.str []), .nils])),
        (5, some (.hp (zno false (.slice ad (zcf ps).length cap) y.2 (zcf (ps.drop y.1)))))]) [1, 6, 7] (fun y => ps.length - y.1) (fun y => y.1 ≤ ps.length ∧ y.2.length = y.1 ∧ vAs y.2 = zcf (ps.take y.1) ∧ zcw y.2) (0, [])
      ⟨Nat.zero_le _, rfl, rfl, trivial⟩ ⟨rfl, rfl, rfl, rfl, rfl, trivial⟩ ⟨rfl, rfl, rfl, trivial⟩ rfl fun y hi ih => ?_
    obtain ⟨i, gs⟩ := y
    obtain ⟨hi1, hi2, hi3, hi4⟩ := hi
    simp only at hi1 hi2 hi3 hi4
    subst hi2
    refine fd_ [] rfl (by simp) ?_
    refine zab rfl (fun h => ?_) (fun h => ?_)
    · simp at h
      obtain ⟨k, hk⟩ := zal h
      have hlt : gs.length < (zcf ps).length := by simpa using h
      rw [zaq hk]
      refine zd2 5 (fun _ : { b : Nat // ad = some ⟨b, 0, none⟩ } => zno false (.slice ad (zcf ps).length cap) gs (zcf (k :: ps.drop (gs.length + 1)))) rfl (fun vs I w bs h => ?_) fun z => ?_
      · obtain ⟨a, cap', e1, e2⟩ := zut h
        simp only [Value.slice.injEq] at e1
        obtain ⟨b, hb⟩ := e2 (by simp only [zcf, List.length_cons]; omega)
        exact ⟨⟨b, by rw [e1.1, hb]⟩, h⟩
      obtain ⟨b, rfl⟩ := z
      obtain ⟨kf, kn, kx, kp⟩ := k
      refine fd_ [] rfl (by simp) ?_
      refine zdf zbl rfl rfl (fun _ => ⟨by simp, by simpa using h⟩) (by simp) ?_
      refine fg_ [] rfl (by simp) ?_
      refine zbn zbl 5 ((zb5 (.mk kf kn kx kp)).map .imm) rfl rfl (fun _ vs I w bs h => by have := zus h; simpa [szA, zb9] using this) rfl rfl (by simp) ?_
      refine fg_ [] rfl (by simp) ?_
      refine zar (fr := [6]) [] [(1, 6)] rfl (by simp) (ztv (.mk kf kn kx kp) (zjm hw2 (List.mem_of_getElem? hk))) trivial rfl rfl rfl rfl ?_
      refine fg_ [] rfl (by simp) ?_
      refine zdf zbl rfl rfl (fun _ => ⟨by simp, by simpa using h⟩) (by simp) ?_
      refine fg_ [] rfl (by simp) ?_
      refine zl9 zbl 5 6 7 (MixE false (.slice (some ⟨b, 0, none⟩) (zcf ps).length cap) gs (zb5 (.mk kf kn kx kp)) (zcf (ps.drop (gs.length + 1)))) rfl rfl rfl (by decide) (by
        have e : 0 + ((gs.length : Int)).toNat * 4 = gs.length * szA false := by simp [szA]
        show zh3 _ _ _ 6 b (0 + ((gs.length : Int)).toNat * 4) _
        rw [e]
        exact zp9) ?_
      refine fg_ [] rfl (by simp <;> rfl) ?_
      refine zd2 7 (fun a : { a : An // vA a = zb5 (.mk kf kn kx kp) ∧ zi9 a } => zno false (.slice (some ⟨b, 0, none⟩) (zcf ps).length cap) (gs ++ [a.1]) (zcf (ps.drop (gs.length + 1)))) rfl (fun vs I w bs h => ?_) fun z => ?_
      · obtain ⟨a, h1, h2⟩ := h
        exact ⟨⟨a, h1⟩, h2⟩
      obtain ⟨a, ha, haf⟩ := z
      refine zcq 5 7 rfl ?_
      refine zae (ih (gs.length + 1, gs ++ [a]) (by simp only; omega) ⟨by simp only; omega, by simp, ?_, zfl hi4 ⟨haf, trivial⟩⟩) ⟨zcr (w64 (by simp only; omega) (by simp only; omega)), rfl, rfl, rfl, rfl, trivial⟩ ⟨rfl, rfl, rfl, trivial⟩ rfl
      simp only
      rw [zb7 hk, zrg, zmp, hi3]
      simp [vAs, zcf, ha]
    · simp at h
      have hl : gs.length = ps.length := by omega
      rw [List.drop_eq_nil_of_le (by omega)]
      refine za2 rfl ?_
      refine fd_ [] rfl (by simp) ?_
      refine zx9 5 3 1 [.slice ad (zcf ps).length cap] (A := zvx false (zb5 (.mk f n x ps))) (dsA 1 false (zb5 (.mk f n x ps))) rfl rfl (fun us I w bs h => ?_) ⟨.inl rfl, .inl rfl, .inl rfl, .inr ⟨0, _, rfl, rfl, rfl⟩, trivial⟩ ?_
      · refine ⟨f, n, x, .slice ad (zcf ps).length cap, gs, .bool true, [], ⟨?_, hi4, trivial⟩, rfl, ?_⟩
        · rw [List.take_of_length_le (by omega)] at hi3
          simp [vA, zb5, hi3]
        · exact ymo h
      · exact zaa ⟨_, rfl, rfl, rfl, trivial⟩
termination_by t => SizeOf.sizeOf t
decreasing_by
  all_goals
    have := List.sizeOf_lt_of_mem (List.mem_of_getElem? hk)
    simp_wf
    simp at this
    omega
mutual
def zj8 : Tm → Prop
  | .mk _ _ _ ks ps => ks.length ≤ 1000000 ∧ ps.length ≤ 1000000 ∧ (∀ p ∈ ps, zr4 p) ∧ zpa ks
def zpa : List Tm → Prop
  | [] => True
  | k :: r => zj8 k ∧ zpa r
end
theorem zfr : ∀ {l : List Tm} {t : Tm}, zpa l → t ∈ l → zj8 t
  | [], _, _, h => by simp at h
  | p :: r, t, h, hm => by
    rcases List.mem_cons.1 hm with rfl | hm
    · exact h.1
    · exact zfr h.2 hm
set_option maxRecDepth 100000 in
set_option maxHeartbeats 1000000 in
theorem zg6 : ∀ t : Tm, zj8 t → zc5 Tryz.prog 55 [.imm (.agg (dTmc t))] [] (.ret (.agg (dsA 1 true (dTmc t))) [(1, some (.hp (zvx true (dTmc t))))])
  | .mk o n x ks ps, hw => by
    obtain ⟨hw1, hw2, hw3, hw4⟩ := hw
    refine zaf zbl Tryz.func55 (by decide +kernel) rfl [2, 3, 4, 5, 6, 7, 1, 8, 9, 10] rfl rfl ?_
    refine fg_ [] rfl (by simp) ?_
    refine zar (fr := [4]) [] [(1, 4)] rfl (by simp) (zyp (zdg ks) (fun c hc => by rw [ze9] at hc; obtain ⟨p, _, rfl⟩ := List.mem_map.1 hc; simp) (by simpa using hw1)) trivial rfl rfl rfl rfl ?_
    refine fg_ [] rfl (by simp) ?_
    refine zar (fr := [5]) [] [(1, 5)] rfl (by simp) (zr1 (zcf ps) (fun c hc => by rw [zhy] at hc; obtain ⟨p, _, rfl⟩ := List.mem_map.1 hc; simp) (by simpa using hw2)) trivial rfl rfl rfl rfl ?_
    refine fg_ [] rfl (by simp <;> rfl) ?_
    refine zgk (ids' := [7, 1, 8, 9, 10]) 4 6 (fun x : Option Addr × Nat => [.slice x.1 (zdg ks).length x.2]) (fun x => zno true (.slice x.1 (zdg ks).length x.2) [] (zdg ks)) rfl (fun vs I w bs h => znk h) fun y => ?_
    obtain ⟨ad, cap⟩ := y
    refine zgk (ids' := [1, 8, 9, 10]) 5 7 (fun x : Option Addr × Nat => [.slice x.1 (zcf ps).length x.2]) (fun x => zno false (.slice x.1 (zcf ps).length x.2) [] (zcf ps)) rfl (fun vs I w bs h => znk h) fun y => ?_
    obtain ⟨ad2, cap2⟩ := y
    refine fd_ [] rfl (by simp) ?_
    refine zak (fun y : Nat × List An => [(18, .imm (.int .i64 y.1)), (17, .imm (.int .i64 (zdg ks).length)), (16, .raw (.slice ad (zdg ks).length cap)), (1, .ref 2 0), (2, .ref 3 0)])
      (fun y => [(2, some (.cells 26 5 [.imm (.int .i64 o), .imm (.int .i64 n), .imm (.str x), .raw (.slice ad (zdg ks).length cap), .raw (.slice ad2 (zcf ps).length cap2)])), (3, some (.cells 26 5 [.imm (.int .i64 0), .imm (.int .i64 0), .imm (.str []), .nils, .nils])),
        (6, some (.hp (zno true (.slice ad (zdg ks).length cap) y.2 (zdg (ks.drop y.1))))), (7, some (.hp (zno false (.slice ad2 (zcf ps).length cap2) [] (zcf ps))))]) [1, 8, 9, 10] (fun y => ks.length - y.1) (fun y => y.1 ≤ ks.length ∧ y.2.length = y.1 ∧ vAs y.2 = zdg (ks.take y.1) ∧ zcw y.2) (0, [])
      ⟨Nat.zero_le _, rfl, rfl, trivial⟩ ⟨rfl, rfl, rfl, rfl, rfl, trivial⟩ ⟨rfl, rfl, rfl, rfl, trivial⟩ rfl fun y hi ih => ?_
    obtain ⟨i, gs⟩ := y
    obtain ⟨hi1, hi2, hi3, hi4⟩ := hi
    simp only at hi1 hi2 hi3 hi4
    subst hi2
    refine fd_ [] rfl (by simp) ?_
    refine zab rfl (fun h => ?_) (fun h => ?_)
    · simp at h
      obtain ⟨k, hk⟩ := zal h
      rw [zaq hk]
      refine zd2 6 (fun _ : { b : Nat // ad = some ⟨b, 0, none⟩ } => zno true (.slice ad (zdg ks).length cap) gs (zdg (k :: ks.drop (gs.length + 1)))) rfl (fun vs I w bs h => ?_) fun z => ?_
      · obtain ⟨a, cap', e1, e2⟩ := zut h
        simp only [Value.slice.injEq] at e1
        obtain ⟨b, hb⟩ := e2 (by simp only [zdg, List.length_cons]; omega)
        exact ⟨⟨b, by rw [e1.1, hb]⟩, h⟩
      obtain ⟨b, rfl⟩ := z
      obtain ⟨ko, kn, kx, kk, kp⟩ := k
      refine fd_ [] rfl (by simp) ?_
      refine zdf zbl rfl rfl (fun _ => ⟨by simp, by simpa using h⟩) (by simp) ?_
      refine fg_ [] rfl (by simp) ?_
      refine zbn zbl 6 ((dTmc (.mk ko kn kx kk kp)).map .imm) rfl rfl (fun _ vs I w bs h => by have := zus h; simpa [szA, zb9] using this) rfl rfl (by simp) ?_
      refine fg_ [] rfl (by simp) ?_
      refine zar (fr := [8]) [] [(1, 8)] rfl (by simp) (zg6 (.mk ko kn kx kk kp) (zfr hw4 (List.mem_of_getElem? hk))) trivial rfl rfl rfl rfl ?_
      refine fg_ [] rfl (by simp) ?_
      refine zdf zbl rfl rfl (fun _ => ⟨by simp, by simpa using h⟩) (by simp) ?_
      refine fg_ [] rfl (by simp) ?_
      refine zl9 zbl 6 8 9 (MixE true (.slice (some ⟨b, 0, none⟩) (zdg ks).length cap) gs (dTmc (.mk ko kn kx kk kp)) (zdg (ks.drop (gs.length + 1)))) rfl rfl rfl (by decide) (by
        have e : 0 + ((gs.length : Int)).toNat * 5 = gs.length * szA true := by simp [szA]
        show zh3 _ _ _ 8 b (0 + ((gs.length : Int)).toNat * 5) _
        rw [e]
        exact zp9) ?_
      refine fg_ [] rfl (by simp <;> rfl) ?_
      refine zd2 9 (fun a : { a : An // vA a = dTmc (.mk ko kn kx kk kp) ∧ zi9 a } => zno true (.slice (some ⟨b, 0, none⟩) (zdg ks).length cap) (gs ++ [a.1]) (zdg (ks.drop (gs.length + 1)))) rfl (fun vs I w bs h => ?_) fun z => ?_
      · obtain ⟨a, h1, h2⟩ := h
        exact ⟨⟨a, h1⟩, h2⟩
      obtain ⟨a, ha, haf⟩ := z
      refine zcq 6 9 rfl ?_
      refine zae (ih (gs.length + 1, gs ++ [a]) (by simp only; omega) ⟨by simp only; omega, by simp, ?_, zfl hi4 ⟨haf, trivial⟩⟩) ⟨zcr (w64 (by simp only; omega) (by simp only; omega)), rfl, rfl, rfl, rfl, trivial⟩ ⟨rfl, rfl, rfl, rfl, trivial⟩ rfl
      simp only
      rw [zb7 hk, yab, zmp, hi3]
      simp [vAs, zdg, ha]
    simp at h
    have hl : gs.length = ks.length := by omega
    rw [List.drop_eq_nil_of_le (by omega)]
    rw [List.take_of_length_le (by omega)] at hi3
    clear ih
    refine za2 rfl ?_
    refine fd_ [] rfl (by simp) ?_
    refine zak (fun y : Nat × List An => [(33, .imm (.int .i64 y.1)), (32, .imm (.int .i64 (zcf ps).length)), (31, .raw (.slice ad2 (zcf ps).length cap2)), (1, .ref 2 0), (2, .ref 3 0)])
      (fun y => [(2, some (.cells 26 5 [.imm (.int .i64 o), .imm (.int .i64 n), .imm (.str x), .raw (.slice ad (zdg ks).length cap), .raw (.slice ad2 (zcf ps).length cap2)])), (3, some (.cells 26 5 [.imm (.int .i64 0), .imm (.int .i64 0), .imm (.str []), .nils, .nils])),
        (6, some (.hp (zno true (.slice ad (zdg ks).length cap) gs []))), (7, some (.hp (zno false (.slice ad2 (zcf ps).length cap2) y.2 (zcf (ps.drop y.1)))))]) [8, 1, 9, 10] (fun y => ps.length - y.1) (fun y => y.1 ≤ ps.length ∧ y.2.length = y.1 ∧ vAs y.2 = zcf (ps.take y.1) ∧ zcw y.2) (0, [])
      ⟨Nat.zero_le _, rfl, rfl, trivial⟩ ⟨rfl, rfl, rfl, rfl, rfl, trivial⟩ ⟨rfl, rfl, rfl, rfl, trivial⟩ rfl fun y hi ih => ?_
    obtain ⟨i, fs⟩ := y
    obtain ⟨hj1, hj2, hj3, hj4⟩ := hi
    simp only at hj1 hj2 hj3 hj4
    subst hj2
    refine fd_ [] rfl (by simp) ?_
    refine zab rfl (fun h => ?_) (fun h => ?_)
    · simp at h
      obtain ⟨k, hk⟩ := zal h
      rw [zaq hk]
      refine zd2 7 (fun _ : { b : Nat // ad2 = some ⟨b, 0, none⟩ } => zno false (.slice ad2 (zcf ps).length cap2) fs (zcf (k :: ps.drop (fs.length + 1)))) rfl (fun vs I w bs h => ?_) fun z => ?_
      · obtain ⟨a, cap', e1, e2⟩ := zut h
        simp only [Value.slice.injEq] at e1
        obtain ⟨b, hb⟩ := e2 (by simp only [zcf, List.length_cons]; omega)
        exact ⟨⟨b, by rw [e1.1, hb]⟩, h⟩
      obtain ⟨b, rfl⟩ := z
      obtain ⟨kf, kn, kx, kp⟩ := k
      refine fd_ [] rfl (by simp) ?_
      refine zdf zbl rfl rfl (fun _ => ⟨by simp, by simpa using h⟩) (by simp) ?_
      refine fg_ [] rfl (by simp) ?_
      refine zbn zbl 7 ((zb5 (.mk kf kn kx kp)).map .imm) rfl rfl (fun _ vs I w bs h => by have := zus h; simpa [szA, zb9] using this) rfl rfl (by simp) ?_
      refine fg_ [] rfl (by simp) ?_
      refine zar (fr := [1]) [] [(1, 1)] rfl (by simp) (ztv (.mk kf kn kx kp) (hw3 _ (List.mem_of_getElem? hk))) trivial rfl rfl rfl rfl ?_
      refine fg_ [] rfl (by simp) ?_
      refine zdf zbl rfl rfl (fun _ => ⟨by simp, by simpa using h⟩) (by simp) ?_
      refine fg_ [] rfl (by simp) ?_
      refine zl9 zbl 7 1 9 (MixE false (.slice (some ⟨b, 0, none⟩) (zcf ps).length cap2) fs (zb5 (.mk kf kn kx kp)) (zcf (ps.drop (fs.length + 1)))) rfl rfl rfl (by decide) (by
        have e : 0 + ((fs.length : Int)).toNat * 4 = fs.length * szA false := by simp [szA]
        show zh3 _ _ _ 1 b (0 + ((fs.length : Int)).toNat * 4) _
        rw [e]
        exact zp9) ?_
      refine fg_ [] rfl (by simp <;> rfl) ?_
      refine zd2 9 (fun a : { a : An // vA a = zb5 (.mk kf kn kx kp) ∧ zi9 a } => zno false (.slice (some ⟨b, 0, none⟩) (zcf ps).length cap2) (fs ++ [a.1]) (zcf (ps.drop (fs.length + 1)))) rfl (fun vs I w bs h => ?_) fun z => ?_
      · obtain ⟨a, h1, h2⟩ := h
        exact ⟨⟨a, h1⟩, h2⟩
      obtain ⟨a, ha, haf⟩ := z
      refine zcq 7 9 rfl ?_
      refine zae (ih (fs.length + 1, fs ++ [a]) (by simp only; omega) ⟨by simp only; omega, by simp, ?_, zfl hj4 ⟨haf, trivial⟩⟩) ⟨zcr (w64 (by simp only; omega) (by simp only; omega)), rfl, rfl, rfl, rfl, trivial⟩ ⟨rfl, rfl, rfl, rfl, trivial⟩ rfl
      simp only
      rw [zb7 hk, zrg, zmp, hj3]
      simp [vAs, zcf, ha]
    simp at h
    rw [List.drop_eq_nil_of_le (by omega)]
    rw [List.take_of_length_le (by omega)] at hj3
    refine za2 rfl ?_
    refine fd_ [] rfl (by simp) ?_
    refine zz6 (ids' := [1, 9, 10]) 6 7 8 (fun _ : Unit => zyt (.mk true o n x (.slice ad (zdg ks).length cap) gs (.slice ad2 (zcf ps).length cap2) fs)) rfl rfl (by decide) (fun vs us I w b1 b2 h1 h2 hd => ⟨(), b1 ++ b2, fun b hb => List.mem_append.1 hb, ?_⟩) fun _ => ?_
    · obtain ⟨q1, q2, q3⟩ := yju (o := o) (n := n) (x := x) h1 h2 hd
      exact ⟨q1, q2, q3⟩
    refine zx9 (ids' := [9, 10]) 8 3 1 [.slice ad (zdg ks).length cap, .slice ad2 (zcf ps).length cap2] (A := zvx true (dTmc (.mk o n x ks ps))) (dsA 1 true (dTmc (.mk o n x ks ps))) rfl rfl (fun us I w bs h => ?_) ⟨.inl rfl, .inl rfl, .inl rfl, .inr ⟨0, _, rfl, rfl, rfl⟩, .inr ⟨1, _, rfl, rfl, rfl⟩, trivial⟩ ?_
    · exact ⟨o, n, x, .slice ad (zdg ks).length cap, gs, .slice ad2 (zcf ps).length cap2, fs, ⟨by simp [vA, dTmc, hi3, hj3], hi4, hj4⟩, rfl, h⟩
    · exact zaa ⟨_, rfl, rfl, rfl, trivial⟩
termination_by t => SizeOf.sizeOf t
decreasing_by
  all_goals
    have := List.sizeOf_lt_of_mem (List.mem_of_getElem? hk)
    simp_wf
    simp at this
    omega
end Go.Hk

/- Contracts of term: the names that are free in a term, added to a set (free). -/
namespace Go.Hk
open Go.Proofs
mutual
def zc9 : Tm → List Str → List Str → List Str
  | .mk op n x ks ps, s, m => if op = 4 then (if zbp s x then m else zlj m x) else zep (.mk op n x ks ps) 0 ks s m
def zep (t : Tm) : Nat → List Tm → List Str → List Str → List Str
  | _, [], _, m => m
  | i, k :: r, s, m => zep t (i + 1) r s (zc9 k ((zad t i).reverse ++ s) m)
end
mutual
def zfc : Tm → Prop
  | .mk op _ _ ks ps => ks.length ≤ 1000000 ∧ (∀ i : Nat, i < ks.length → zb2 op i = false → zci op i = true → ∃ p, ps[((i : Int) - 1).toNat]? = some p ∧ (za8 p).length ≤ 1000000) ∧ zk3 ks
def zk3 : List Tm → Prop
  | [] => True
  | k :: r => zfc k ∧ zk3 r
end
theorem zf4 : ∀ {l : List Tm} {t : Tm}, zk3 l → t ∈ l → zfc t
  | [], _, _, h => by simp at h
  | k :: r, t, h, hm => by
    rcases List.mem_cons.1 hm with rfl | hm
    · exact h.1
    · exact zf4 h.2 hm
def freeC (t : Tm) (s m : List Str) : Prop := zc5 Tryz.prog 36 [.imm (.agg (dTmc t)), .imm (zny s), .mapr 1] [(1, some (.map (zem m)))] (.ret (.tup []) [(1, some (.map (zem (zc9 t s m))))])
set_option maxRecDepth 100000 in
theorem zqt : ∀ (t : Tm) (s m : List Str), zfc t → freeC t s m
  | .mk op n x ks ps, s, m, hok => by
    obtain ⟨hk1, hk2, hk3⟩ := hok
    refine zaf zbl Tryz.func36 (by decide +kernel) rfl [2, 3, 4, 5] rfl rfl ?_
    refine fg_ [] rfl (by simp) ?_
    refine zab rfl (fun h => ?_) (fun h => ?_)
    · have e : op = 4 := by simpa using h
      refine fd_ [] rfl (by simp) ?_
      refine zac rfl (fun _ => ymp s x) (by simp) ?_
      refine fg_ [] rfl (by simp) ?_
      refine zab rfl (fun h2 => ?_) (fun h2 => ?_)
      · refine fd_ [] rfl (by simp) ?_
        refine zoa zbl rfl rfl rfl (zc0 m) ?_
        refine fg_ [] rfl (by simp) ?_
        rw [zlp]
        have e2 : zc9 (.mk op n x ks ps) s m = zlj m x := by simp at h2; simp [zc9, e, h2]
        rw [e2]
        exact zaa ⟨[], rfl, rfl, rfl, trivial⟩
      · refine fd_ [] rfl (by simp) ?_
        have e2 : zc9 (.mk op n x ks ps) s m = m := by simp at h2; simp [zc9, e, h2]
        rw [e2]
        exact zaa ⟨[], rfl, rfl, rfl, trivial⟩
    · have e : ¬ op = 4 := by simpa using h
      have e2 : zc9 (.mk op n x ks ps) s m = zep (.mk op n x ks ps) 0 ks s m := by simp [zc9, e]
      rw [e2]
      refine fd_ [] rfl (by simp) ?_
      refine zhv 3 rfl rfl ?_
      refine zak (fun y : Nat × List Str => [(28, .imm (.int .i64 y.1)), (27, .imm (.int .i64 ks.length)), (26, .imm (.sl (zdg ks))), (1, .imm (zny s)), (2, .mapr 1), (3, .ip 26 (dTmc (.mk op n x ks ps)) 0)])
        (fun y => [(1, some (.map (zem y.2)))]) [3, 4, 5] (fun y => ks.length - y.1) (fun y => y.1 ≤ ks.length ∧ zep (.mk op n x ks ps) 0 ks s m = zep (.mk op n x ks ps) y.1 (ks.drop y.1) s y.2) (0, m)
        ⟨Nat.zero_le _, rfl⟩ ⟨rfl, zcr (by simp), rfl, rfl, rfl, rfl, trivial⟩ ⟨rfl, trivial⟩ rfl fun y hi ih => ?_
      obtain ⟨i, m1⟩ := y
      obtain ⟨hi1, hi2⟩ := hi
      simp only at hi1 hi2
      refine fd_ [] rfl (by simp) ?_
      refine zab rfl (fun h => ?_) (fun h => ?_)
      · simp at h
        obtain ⟨k, hk⟩ := zal h
        rw [zaq hk] at hi2
        refine fd_ [] rfl (by simp) ?_
        refine fi_ rfl (c := dTmc k) (fun _ => ⟨by simp, by simpa using zch hk, by simp⟩) (by simp) ?_
        refine fg_ [] rfl (by simp) ?_
        refine zac rfl (fun _ => ygs op n x ks ps i (by omega) (hk2 i h)) (by simp) ?_
        refine fg_ [] rfl (by simp) ?_
        refine zac rfl (fun _ => yl1 s _) (by simp) ?_
        refine fg_ [] rfl (by simp) ?_
        refine zar (fr := []) [(1, 1)] [] rfl (by simp) (zqt k _ m1 (zf4 hk3 (List.mem_of_getElem? hk))) ⟨⟨rfl, rfl, rfl⟩, trivial⟩ rfl rfl rfl rfl ?_
        refine fg_ [] rfl (by simp; rfl) ?_
        exact zae (ih (i + 1, zc9 k ((zad (.mk op n x ks ps) i).reverse ++ s) m1) (by simp only; omega) ⟨by simp only; omega, hi2⟩) ⟨zcr (w64 (by simp only; omega) (by simp only; omega)), rfl, rfl, rfl, rfl, rfl, trivial⟩ ⟨rfl, trivial⟩ rfl
      · simp at h
        rw [List.drop_eq_nil_of_le (by omega)] at hi2
        refine za2 rfl ?_
        refine fd_ [] rfl (by simp) ?_
        rw [hi2]
        exact zb0 ⟨[], rfl, rfl, rfl, trivial⟩
termination_by t => SizeOf.sizeOf t
decreasing_by
  all_goals
    have := List.sizeOf_lt_of_mem (List.mem_of_getElem? hk)
    simp_wf
    omega
end Go.Hk

/- Contracts of hearthref01: the names that a term binds in a part (Binds). -/
namespace Go.Hk
open Go.Proofs
def zrt : Tm → Int → List Str
  | .mk op _ x _ ps, kid => if zb2 op kid then [x] else if zci op kid then (match ps[(kid - 1).toNat]? with | some p => za3 p | none => []) else []
end Go.Hk

/- Contracts of hearthref01: a sorted list with one more (put). -/
namespace Go.Hk
open Go.Proofs
def ylk : List Str → Str → List Str
  | [], s => [s]
  | x :: r, s => if Op.bytesLess x s then x :: ylk r s else if x == s then x :: r else s :: x :: r
end Go.Hk

/- Contracts of hearthref01: the names that are free in a term (Free). -/
namespace Go.Hk
open Go.Proofs
def zrw (b : List Str) : List Str → List Str → List Str
  | [], out => out
  | x :: r, out => zrw b r (if zbp b x then out else ylk out x)
mutual
def zes : Tm → List Str
  | .mk op n x ks ps => if op = 4 then [x] else zir (.mk op n x ks ps) 0 ks []
def zir (t : Tm) : Nat → List Tm → List Str → List Str
  | _, [], out => out
  | i, k :: r, out => zir t (i + 1) r (zrw (zrt t i) (zes k) out)
end
mutual
def zcx : Tm → Nat
  | .mk _ _ _ ks _ => 1 + zco ks
def zco : List Tm → Nat
  | [] => 0
  | k :: r => zcx k + zco r
end
mutual
def zy9 : Tm → Prop
  | .mk op _ _ ks ps => ks.length ≤ 1000000 ∧ (∀ i : Nat, i < ks.length → zb2 op i = false → zci op i = true → ∃ p, ps[((i : Int) - 1).toNat]? = some p ∧ zbk p ≤ 1000000) ∧ zur ks
def zur : List Tm → Prop
  | [] => True
  | k :: r => zy9 k ∧ zur r
end
end Go.Hk

/- Plain laws of layer 1: what the program asks of types, patterns, terms and modules is what the document asks. -/
namespace Go.Hk
mutual
theorem zsh : ∀ (t : Ty) (l : Int), (zbk t : Int) ≤ l → 0 ≤ zbz t l
  | .mk _ _ _ ps, l, h => by
    simp only [zbk] at h
    simp only [zbz]
    rw [if_neg (by omega)]
    exact zpb ps (l - 1) (by omega)
theorem zpb : ∀ (ts : List Ty) (l : Int), (zao ts : Int) ≤ l → 0 ≤ zb1 ts l
  | [], l, h => by simpa [zb1, zao] using h
  | t :: r, l, h => by
    simp only [zao] at h
    simp only [zb1]
    rw [if_pos (by omega)]
    have h1 := zsh t l (by omega)
    have h2 := zdr t l h1
    exact zpb r _ (by omega)
end
theorem ye1 (t : Ty) (l : Nat) : decide (0 ≤ zbz t l) = decide (zbk t ≤ l) := by
  by_cases h : zbk t ≤ l
  · rw [decide_eq_true h, decide_eq_true (zsh t l (by omega))]
  · rw [decide_eq_false h]
    refine decide_eq_false fun h1 => h ?_
    have := zdr t l h1
    omega
theorem yh3 (t : Ty) : zcp t = zcn t := by
  simp only [zcp, zcn]; rw [← ye1 t 12, Bool.and_assoc]; rfl
theorem ych (p : Nat) (h : p ≤ 1000) : IntKind.i64.wrap (1 + (p : Int)) = 1 + (p : Int) := w64 (by omega) (by omega)
theorem yjs (op n : Int) (x : Str) (k : Nat) (ps : List Ty) (hp : ps.length ≤ 1000) : zdk op n x k ps = (za9 op n x k ps.length && ps.all zcn) := by
  have hc : zcp = zcn := funext yh3
  have hw := ych ps.length hp
  by_cases h1 : op = 1
  · subst h1
    cases ps <;> simp [zdk, zdu, zbf, zc4, za9, zay, zbe, inI, zaw] <;> grind
  by_cases h2 : op = 2
  · subst h2
    cases ps <;> simp [zdk, zdu, zbf, zc4, za9, zay, zbe, inI, zaw] <;> grind
  by_cases h3 : op = 3
  · subst h3
    cases ps <;> simp [zdk, zdu, zbf, zc4, za9, zay, zbe, inI, zaw] <;> grind
  by_cases h4 : op = 4
  · subst h4
    cases ps <;> simp [zdk, zdu, zbf, zc4, za9, zay, zbe, inI, zaw] <;> grind
  by_cases h5 : op = 5
  · subst h5
    cases ps <;> simp [zdk, zdu, zbf, zc4, za9, zay, zbe, inI, zaw] <;> grind
  by_cases h6 : op = 6
  · subst h6
    cases ps <;> simp [zdk, zdu, zbf, zc4, za9, zay, zbe, inI, zaw] <;> grind
  by_cases h7 : op = 7
  · subst h7
    cases ps <;> simp [zdk, zdu, zbf, zc4, za9, zay, zbe, inI, zaw] <;> grind
  by_cases h8 : op = 8
  · subst h8
    cases ps <;> simp [zdk, zdu, zbf, zc4, za9, zay, zbe, inI, zaw] <;> grind
  by_cases h9 : op = 9
  · subst h9
    cases ps <;> simp [zdk, zdu, zbf, zc4, za9, zay, zbe, inI, zaw] <;> grind
  by_cases h10 : op = 10
  · subst h10
    cases ps <;> simp [zdk, zdu, zbf, zc4, za9, zay, zbe, inI, zaw] <;> grind
  by_cases h11 : op = 11
  · subst h11
    cases ps <;> simp [zdk, zdu, zbf, zc4, za9, zay, zbe, inI, zaw] <;> grind
  by_cases h12 : op = 12
  · subst h12
    cases ps <;> simp [zdk, zdu, zbf, zc4, za9, zay, zbe, inI, zaw] <;> grind
  by_cases h13 : op = 13
  · subst h13
    cases ps <;> simp [zdk, zdu, zbf, zc4, za9, zay, zbe, inI, zaw] <;> grind
  by_cases h14 : op = 14
  · subst h14
    have hk : (if (3 : Int) < k then 3 else (k : Int)) = k ↔ (k : Int) ≤ 3 := by split <;> omega
    cases ps <;> simp [zdk, zdu, zbf, zc4, za9, zay, zbe] <;> grind
  by_cases h15 : op = 15
  · subst h15
    simp only [zdk, zdu, zbf, zc4, za9, zay, zbe, inI, hc]
    simp [hw]
    grind
  by_cases h16 : op = 16
  · subst h16
    cases ps <;> simp [zdk, zdu, zbf, zc4, za9, zay, zbe, inI, zaw] <;> grind
  by_cases h17 : op = 17
  · subst h17
    cases ps <;> simp [zdk, zdu, zbf, zc4, za9, zay, zbe, inI, zaw] <;> grind
  by_cases h18 : op = 18
  · subst h18
    cases ps <;> simp [zdk, zdu, zbf, zc4, za9, zay, zbe, inI, zaw] <;> grind
  by_cases h19 : op = 19
  · subst h19
    cases ps <;> simp [zdk, zdu, zbf, zc4, za9, zay, zbe, inI, zaw] <;> grind
  by_cases h20 : op = 20
  · subst h20
    cases ps <;> simp [zdk, zdu, zbf, zc4, za9, zay, zbe, inI, zaw] <;> grind
  by_cases h21 : op = 21
  · subst h21
    cases ps <;> simp [zdk, zdu, zbf, zc4, za9, zay, zbe, inI, zaw] <;> grind
  by_cases h22 : op = 22
  · subst h22
    cases ps <;> simp [zdk, zdu, zbf, zc4, za9, zay, zbe, inI, zaw] <;> grind
  by_cases h23 : op = 23
  · subst h23
    cases ps <;> simp [zdk, zdu, zbf, zc4, za9, zay, zbe, inI, zaw] <;> grind
  by_cases h24 : op = 24
  · subst h24
    cases ps <;> simp [zdk, zdu, zbf, zc4, za9, zay, zbe, inI, zaw] <;> grind
  by_cases h25 : op = 25
  · subst h25
    cases ps <;> simp [zdk, zdu, zbf, zc4, za9, zay, zbe, inI, zaw] <;> grind
  by_cases h26 : op = 26
  · subst h26
    cases ps <;> simp [zdk, zdu, zbf, zc4, za9, zay, zbe, inI, zaw] <;> grind
  by_cases h27 : op = 27
  · subst h27
    cases ps <;> simp [zdk, zdu, zbf, zc4, za9, zay, zbe, inI, zaw] <;> grind
  by_cases h28 : op = 28
  · subst h28
    cases ps <;> simp [zdk, zdu, zbf, zc4, za9, zay, zbe, inI, zaw] <;> grind
  simp [zdk, zdu, za9, zay, h1, h2, h3, h4, h5, h6, h7, h8, h9, h10, h11, h12, h13, h14, h15, h16, h17, h18, h19, h20, h21, h22, h23, h24, h25, h26, h27, h28]
end Go.Hk

/- Contracts of hearthref01: names that are the same; the plain law of the names of a pattern. -/
namespace Go.Hk
open Go.Proofs
def yi5 (l m : List Str) : Bool := decide (l = m)
set_option maxRecDepth 100000 in
theorem zol (l m : List Str) : zax Tryz.prog 22 [.sl (zbu l), .sl (zbu m)] (.bool (yi5 l m)) := by
  refine zde fun hv => ?_
  simp [zks, vOk, maxLen] at hv
  refine zaf zby Tryz.func22 (by decide +kernel) rfl [1, 2] rfl rfl ?_
  refine kg [] rfl (by simp) ?_
  refine zab rfl (fun h => ?_) (fun h => ?_)
  · refine kd [] rfl (by simp) ?_
    refine zaa ⟨_, rfl, tV (congrArg _ ?_), trivial⟩
    simp at h
    simp only [yi5]
    symm
    rw [decide_eq_false_iff_not]
    exact fun e => h (by rw [e])
  simp at h
  refine kd [] rfl (by simp) ?_
  refine zak (fun i : Nat => [(5, .imm (.int .i64 i)), (0, .imm (.sl (zbu l))), (1, .imm (.sl (zbu m)))]) (fun _ => []) [1] (fun i => l.length - i) (fun i => i ≤ l.length ∧ l.take i = m.take i) 0
    ⟨Nat.zero_le _, rfl⟩ ⟨rfl, rfl, rfl, trivial⟩ trivial rfl fun i hi ih => ?_
  refine kd [] rfl (by simp) ?_
  refine zab rfl (fun h1 => ?_) (fun h1 => ?_)
  · simp at h1
    obtain ⟨s, hs⟩ := zal h1
    obtain ⟨u, hu⟩ := zal (l := m) (i := i) (by omega)
    refine kd [] rfl (by simp) ?_
    refine ki rfl (c := [.str s]) (fun _ => ⟨by simp, by simpa using zdh hs, rfl⟩) (by simp) ?_
    refine kg [] rfl (by simp) ?_
    refine ki rfl (c := [.str u]) (fun _ => ⟨by simp, by simpa using zdh hu, rfl⟩) (by simp) ?_
    refine kg [] rfl (by simp; rfl) ?_
    refine zab rfl (fun h2 => ?_) (fun h2 => ?_)
    · refine kd [] rfl (by simp) ?_
      refine zaa ⟨_, rfl, tV (congrArg _ ?_), trivial⟩
      simp only [yi5]
      symm
      rw [decide_eq_false_iff_not]
      intro e
      rw [e, hu] at hs
      cases hs
      simp at h2
    · refine kd [] rfl (by simp) ?_
      have e : s = u := by simpa using h2
      refine zae (ih (i + 1) (by omega) ⟨by omega, by rw [zb7 hs, zb7 hu, hi.2, e]⟩) ⟨zcr (w64 (by omega) (by omega)), rfl, rfl, trivial⟩ trivial rfl
  · refine kd [] rfl (by simp) ?_
    refine zaa ⟨_, rfl, tV (congrArg _ ?_), trivial⟩
    simp at h1
    have := hi.2
    rw [List.take_of_length_le (by omega), List.take_of_length_le (by omega)] at this
    simp [yi5, this]
mutual
theorem zw9 : ∀ t : Ty, (zc6 t).length ≤ zbk t
  | .mk s n x ps => by
    have := zs1 ps
    simp only [zc6, zbk, List.length_append]
    split <;> simp <;> omega
theorem zs1 : ∀ ts : List Ty, (zcb ts).length ≤ zao ts
  | [] => by simp [zcb]
  | t :: r => by
    have h1 := zw9 t
    have h2 := zs1 r
    simp only [zcb, zao, List.length_append]; omega
end
mutual
theorem zgz : ∀ t : Ty, zcc t = true → (zc6 t).map zij = za3 t
  | .mk s n x ps, h => by
    simp only [zcc, Bool.and_eq_true] at h
    have h2 := zs2 ps h.2
    simp only [zc6, za3, List.map_append, h2]
    by_cases hs : s = 2
    · have h1 := h.1
      simp [zib, hs] at h1
      have : ps = [] := by
        cases ps with
        | nil => rfl
        | cons => simp at h1
      subst this
      simp [hs, zij, zat]
    · simp [hs]
theorem zs2 : ∀ ts : List Ty, zbr ts = true → (zcb ts).map zij = zat ts
  | [], _ => rfl
  | t :: r, h => by
    simp only [zbr, Bool.and_eq_true] at h
    simp only [zcb, zat, List.map_append, zgz t h.1, zs2 r h.2]
end
end Go.Hk

/- The plain law of free names: what the program's names and the reference's have in common. -/
namespace Go.Hk
open Go.Proofs
theorem zrq (op n : Int) (x : Str) (ks : List Tm) (ps : List Ty) (kid : Int) (h : ∀ p ∈ ps, zcc p = true) : zad (.mk op n x ks ps) kid = zrt (.mk op n x ks ps) kid := by
  show (if zb2 op kid then [x] else if zci op kid then (match ps[(kid - 1).toNat]? with | some p => za8 p | none => []) else []) = (if zb2 op kid then [x] else if zci op kid then (match ps[(kid - 1).toNat]? with | some p => za3 p | none => []) else [])
  cases hp : ps[(kid - 1).toNat]? with
  | none => rfl
  | some p => simp only [za8, zgz p (h p (List.mem_of_getElem? hp))]
theorem ybb (l : List Str) (s x : Str) : x ∈ ylk l s ↔ x = s ∨ x ∈ l := by
  induction l with
  | nil => simp [ylk]
  | cons y r ih =>
    simp only [ylk]
    split
    · simp only [List.mem_cons, ih]
      constructor
      · rintro (h | h | h)
        · exact .inr (.inl h)
        · exact .inl h
        · exact .inr (.inr h)
      · rintro (h | h | h)
        · exact .inr (.inl h)
        · exact .inl h
        · exact .inr (.inr h)
    · split
      · rename_i h
        have e : y = s := by simpa using h
        subst e
        simp only [List.mem_cons]
        constructor
        · intro h; exact .inr h
        · rintro (h | h)
          · exact .inl h
          · exact h
      · simp only [List.mem_cons]
theorem zt3 (b : List Str) (x : Str) : ∀ (l out : List Str), x ∈ zrw b l out ↔ x ∈ out ∨ (x ∈ l ∧ zbp b x = false)
  | [], out => by simp [zrw]
  | y :: r, out => by
    simp only [zrw]
    rw [zt3 b x r]
    cases h : zbp b y with
    | true =>
      simp only [if_true, List.mem_cons]
      constructor
      · rintro (h1 | ⟨h1, h2⟩)
        · exact .inl h1
        · exact .inr ⟨.inr h1, h2⟩
      · rintro (h1 | ⟨h1 | h1, h2⟩)
        · exact .inl h1
        · subst h1; rw [h] at h2; cases h2
        · exact .inr ⟨h1, h2⟩
    | false =>
      simp only [Bool.false_eq_true, if_false, ybb, List.mem_cons]
      constructor
      · rintro ((h1 | h1) | ⟨h1, h2⟩)
        · subst h1; exact .inr ⟨.inl rfl, h⟩
        · exact .inl h1
        · exact .inr ⟨.inr h1, h2⟩
      · rintro (h1 | ⟨h1 | h1, h2⟩)
        · exact .inl (.inr h1)
        · exact .inl (.inl h1)
        · exact .inr ⟨h1, h2⟩
mutual
def inT : Tm → Str → Prop
  | .mk op n x ks ps, y => if op = 4 then y = x else ydw (.mk op n x ks ps) 0 ks y
def ydw (t : Tm) : Nat → List Tm → Str → Prop
  | _, [], _ => False
  | i, k :: r, y => (inT k y ∧ zbp (zrt t i) y = false) ∨ ydw t (i + 1) r y
end
mutual
theorem zuk : ∀ (t : Tm) (y : Str), y ∈ zes t ↔ inT t y
  | .mk op n x ks ps, y => by
    simp only [zes, inT]
    split
    · simp
    · rw [zsx (.mk op n x ks ps) 0 ks [] y]; simp
theorem zsx (t : Tm) : ∀ (i : Nat) (ks : List Tm) (out : List Str) (y : Str), y ∈ zir t i ks out ↔ y ∈ out ∨ ydw t i ks y
  | _, [], out, y => by simp [zir, ydw]
  | i, k :: r, out, y => by
    simp only [zir, ydw]
    rw [zsx t (i + 1) r _ y, zt3, zuk k y]
    constructor
    · rintro ((h | h) | h)
      · exact .inl h
      · exact .inr (.inl h)
      · exact .inr (.inr h)
    · rintro (h | h | h)
      · exact .inl (.inl h)
      · exact .inl (.inr h)
      · exact .inr h
end
theorem za1 {l : List Str} {s : Str} : zbp l s = true ↔ s ∈ l := by
  induction l with
  | nil => simp [zbp]
  | cons x r ih =>
    simp only [zbp, Bool.or_eq_true, beq_iff_eq, List.mem_cons, ih]
    constructor
    · rintro (h | h)
      · exact .inl h.symm
      · exact .inr h
    · rintro (h | h)
      · exact .inl h.symm
      · exact .inr h
theorem yk4 (m : List Str) (x y : Str) : y ∈ zlj m x ↔ y ∈ m ∨ y = x := by
  rw [← za1, ybw, za1]; simp
theorem yj7 (a s : List Str) (y : Str) : zbp (a.reverse ++ s) y = (zbp a y || zbp s y) := by
  rw [Bool.eq_iff_iff, Bool.or_eq_true, za1, za1, za1]; simp
mutual
def zmz : Tm → Prop
  | .mk _ _ _ ks ps => (∀ p ∈ ps, zcc p = true) ∧ zoz ks
def zoz : List Tm → Prop
  | [] => True
  | k :: r => zmz k ∧ zoz r
end
mutual
theorem zu7 : ∀ (t : Tm) (s m : List Str) (y : Str), zmz t → (y ∈ zc9 t s m ↔ y ∈ m ∨ (inT t y ∧ zbp s y = false))
  | .mk op n x ks ps, s, m, y, h => by
    simp only [zc9, inT]
    split
    · cases hs : zbp s x with
      | true =>
        simp only [if_true]
        constructor
        · exact .inl
        · rintro (h1 | ⟨h1, h2⟩)
          · exact h1
          · subst h1; rw [hs] at h2; cases h2
      | false =>
        simp only [Bool.false_eq_true, if_false, yk4]
        constructor
        · rintro (h1 | h1)
          · exact .inl h1
          · subst h1; exact .inr ⟨rfl, hs⟩
        · rintro (h1 | ⟨h1, _⟩)
          · exact .inl h1
          · exact .inr h1
    · exact zxz op n x ks ps h.1 0 ks s m y h.2
theorem zxz (op n : Int) (x : Str) (ks0 : List Tm) (ps : List Ty) (hp : ∀ p ∈ ps, zcc p = true) : ∀ (i : Nat) (ks : List Tm) (s m : List Str) (y : Str), zoz ks →
    (y ∈ zep (.mk op n x ks0 ps) i ks s m ↔ y ∈ m ∨ (ydw (.mk op n x ks0 ps) i ks y ∧ zbp s y = false))
  | _, [], s, m, y, _ => by simp [zep, ydw]
  | i, k :: r, s, m, y, h => by
    simp only [zep, ydw]
    rw [zxz op n x ks0 ps hp (i + 1) r s _ y h.2, zu7 k _ m y h.1, yj7, zrq op n x ks0 ps i hp]
    cases h1 : zbp (zrt (.mk op n x ks0 ps) i) y <;> cases h2 : zbp s y <;> simp [h1, h2, or_assoc]
end
end Go.Hk

/- The plain law of free names: order. -/
namespace Go.Hk
open Go.Proofs
theorem yl6 {a b : Str} (h : ¬ a < b) (hne : a ≠ b) : b < a := by
  have h1 : b ≤ a := List.not_lt.1 h
  rcases Std.le_iff_lt_or_eq.1 h1 with h2 | h2
  · exact h2
  · exact absurd h2.symm hne
theorem zp0 : ∀ (l : List Str) (s : Str), l.Pairwise (· < ·) → (ylk l s).Pairwise (· < ·)
  | [], s, _ => by simp [ylk]
  | y :: r, s, h => by
    obtain ⟨h1, h2⟩ := List.pairwise_cons.1 h
    simp only [ylk, _root_.Go.Proofs.bytesLess_eq]
    by_cases hl : y < s
    · simp only [hl, decide_true, if_true]
      refine List.pairwise_cons.2 ⟨fun z hz => ?_, zp0 r s h2⟩
      rcases (ybb r s z).1 hz with h | h
      · rw [h]; exact hl
      · exact h1 z h
    · simp only [hl, decide_false, Bool.false_eq_true, if_false]
      by_cases he : y = s
      · subst he; simp only [beq_self_eq_true, if_true]; exact h
      · have : (y == s) = false := by simpa using he
        simp only [this, Bool.false_eq_true, if_false]
        have hs := yl6 hl he
        refine List.pairwise_cons.2 ⟨fun z hz => ?_, h⟩
        rcases List.mem_cons.1 hz with h3 | h3
        · rw [h3]; exact hs
        · exact List.lt_trans hs (h1 z h3)
theorem zmm (b : List Str) : ∀ (l out : List Str), out.Pairwise (· < ·) → (zrw b l out).Pairwise (· < ·)
  | [], _, h => h
  | y :: r, out, h => by
    simp only [zrw]
    refine zmm b r _ ?_
    split
    · exact h
    · exact zp0 out y h
theorem zkg (t : Tm) : ∀ (i : Nat) (ks : List Tm) (out : List Str), out.Pairwise (· < ·) → (zir t i ks out).Pairwise (· < ·)
  | _, [], _, h => by simpa [zir] using h
  | i, k :: r, out, h => by
    simp only [zir]
    exact zkg t (i + 1) r _ (zmm _ _ _ h)
theorem zw4 : ∀ t : Tm, (zes t).Pairwise (· < ·)
  | .mk op n x ks ps => by
    simp only [zes]
    split
    · simp
    · exact zkg _ 0 ks [] .nil
theorem zlo : ∀ (a b : List Str), a.Pairwise (· < ·) → b.Pairwise (· < ·) → (∀ x, x ∈ a ↔ x ∈ b) → a = b
  | [], [], _, _, _ => rfl
  | [], y :: r, _, _, h => by have := (h y).2 (by simp); simp at this
  | x :: r, [], _, _, h => by have := (h x).1 (by simp); simp at this
  | x :: r, y :: t, ha, hb, h => by
    obtain ⟨a1, a2⟩ := List.pairwise_cons.1 ha
    obtain ⟨b1, b2⟩ := List.pairwise_cons.1 hb
    have e : x = y := by
      have hx := (h x).1 (by simp)
      have hy := (h y).2 (by simp)
      rcases List.mem_cons.1 hx with h1 | h1
      · exact h1
      · rcases List.mem_cons.1 hy with h2 | h2
        · exact h2.symm
        · exact absurd (List.lt_trans (b1 x h1) (a1 y h2)) (List.lt_irrefl _)
    subst e
    have : r = t := zlo r t a2 b2 fun z => by
      constructor
      · intro hz
        rcases List.mem_cons.1 ((h z).1 (by simp [hz])) with h1 | h1
        · subst h1; exact absurd (a1 z hz) (List.lt_irrefl _)
        · exact h1
      · intro hz
        rcases List.mem_cons.1 ((h z).2 (by simp [hz])) with h1 | h1
        · subst h1; exact absurd (b1 z hz) (List.lt_irrefl _)
        · exact h1
    rw [this]
theorem zxl (l : List Str) (h : l.Nodup) : (l.mergeSort (fun x y => decide (x ≤ y))).Pairwise (· < ·) := by
  have h1 : (l.mergeSort (fun x y => decide (x ≤ y))).Pairwise (fun a b => decide (a ≤ b) = true) := List.pairwise_mergeSort (fun a b c hab hbc => by simp only [decide_eq_true_eq] at *; exact List.le_trans hab hbc) (fun a b => by simp only [Bool.or_eq_true, decide_eq_true_eq]; exact List.le_total a b) l
  have h2 : (l.mergeSort (fun x y => decide (x ≤ y))).Nodup := (List.mergeSort_perm l _).nodup_iff.2 h
  refine (h1.and h2).imp fun {a b} hab => ?_
  have h3 : a ≤ b := by simpa using hab.1
  rcases Std.le_iff_lt_or_eq.1 h3 with h4 | h4
  · exact h4
  · exact absurd h4 hab.2
theorem yek {m : List Str} (h : m.Nodup) (x : Str) : (zlj m x).Nodup := by
  unfold zlj
  split
  · exact h
  · rename_i hs
    have : x ∉ m := fun hm => hs (za1.2 hm)
    refine List.nodup_append.2 ⟨h, by simp, fun a ha b hb => ?_⟩
    simp at hb
    subst hb
    exact fun e => this (e ▸ ha)
mutual
theorem zqu : ∀ (t : Tm) (s m : List Str), m.Nodup → (zc9 t s m).Nodup
  | .mk op n x ks ps, s, m, h => by
    simp only [zc9]
    split
    · split
      · exact h
      · exact yek h x
    · exact zod _ 0 ks s m h
theorem zod (t : Tm) : ∀ (i : Nat) (ks : List Tm) (s m : List Str), m.Nodup → (zep t i ks s m).Nodup
  | _, [], _, _, h => by simpa [zep] using h
  | i, k :: r, s, m, h => by
    simp only [zep]
    exact zod t (i + 1) r s _ (zqu k _ m h)
end
theorem zu6 (t : Tm) (h : zmz t) : (zc9 t [] []).mergeSort (fun x y => decide (x ≤ y)) = zes t :=
  zlo _ _ (zxl _ (zqu t [] [] .nil)) (zw4 t) fun x => by
    rw [List.mem_mergeSort, zu7 t [] [] x h, zuk]; simp [zbp]
end Go.Hk

/- What a formed term has: patterns that are formed. -/
namespace Go.Hk
open Go.Proofs
mutual
theorem zhi : ∀ t : Tm, zag t = true → zmz t
  | .mk op n x ks ps, h => by
    simp only [zag, Bool.and_eq_true] at h
    simp only [zmz]
    refine ⟨fun p hp => ?_, zkh ks h.2⟩
    have h1 : ps.all zcn = true := by
      first
        | exact h.1.2
        | exact h.1.1
    have h2 := List.all_eq_true.1 h1 p hp
    simp only [zcn, Bool.and_eq_true] at h2
    exact h2.1.2
theorem zkh : ∀ ts : List Tm, zas ts = true → zoz ts
  | [], _ => trivial
  | t :: r, h => by
    simp only [zas, Bool.and_eq_true] at h
    exact ⟨zhi t h.1, zkh r h.2⟩
end
theorem zla (t : Tm) : 1 ≤ zcx t := by obtain ⟨_, _, _, _, _⟩ := t; simp [zcx]
theorem zqk : ∀ ks : List Tm, ks.length ≤ zco ks
  | [] => by simp [zco]
  | k :: r => by have := zqk r; have := zla k; simp only [List.length_cons, zco]; omega
theorem zxb {p : Ty} (h : zcn p = true) : zbk p ≤ 12 := by
  simp only [zcn, Bool.and_eq_true, decide_eq_true_eq] at h
  have := zdr p 12 h.1.1
  omega
theorem zm2 {op n : Int} {x : Str} {k p : Nat} (h : za9 op n x k p = true) {i : Nat} (hp : zci op i = true) (hi : i < k) : ((i : Int) - 1).toNat < p := by
  simp only [zci, Bool.and_eq_true, beq_iff_eq, decide_eq_true_eq] at hp
  obtain ⟨rfl, h0⟩ := hp
  simp [za9] at h
  omega
mutual
theorem zhj : ∀ t : Tm, zag t = true → zcx t ≤ 1000000 → zy9 t ∧ zfc t
  | .mk op n x ks ps, h, hc => by
    simp only [zag, Bool.and_eq_true] at h
    obtain ⟨⟨h1, h2⟩, h3⟩ := h
    simp only [zcx] at hc
    have hl := zqk ks
    obtain ⟨q1, q2⟩ := zn4 ks h3 (by omega)
    have get : ∀ i : Nat, i < ks.length → zci op i = true → ∃ p, ps[((i : Int) - 1).toNat]? = some p ∧ zbk p ≤ 12 := fun i hi hp => by
      have hlt := zm2 h1 hp hi
      exact ⟨ps[((i : Int) - 1).toNat], by simp [hlt], zxb (List.all_eq_true.1 h2 _ (by simp))⟩
    refine ⟨⟨by omega, fun i hi _ hp => ?_, q1⟩, ⟨by omega, fun i hi _ hp => ?_, q2⟩⟩
    · obtain ⟨p, e1, e2⟩ := get i hi hp
      exact ⟨p, e1, by omega⟩
    · obtain ⟨p, e1, e2⟩ := get i hi hp
      have := zw9 p
      exact ⟨p, e1, by simp only [za8, List.length_map]; omega⟩
theorem zn4 : ∀ ts : List Tm, zas ts = true → zco ts ≤ 1000000 → zur ts ∧ zk3 ts
  | [], _, _ => ⟨trivial, trivial⟩
  | t :: r, h, hc => by
    simp only [zas, Bool.and_eq_true] at h
    simp only [zco] at hc
    obtain ⟨a1, a2⟩ := zhj t h.1 (by omega)
    obtain ⟨b1, b2⟩ := zn4 r h.2 (by omega)
    exact ⟨⟨a1, b1⟩, ⟨a2, b2⟩⟩
end
mutual
theorem zv5 : ∀ (t : Tm) (l d : Int), 0 ≤ za4 t l d → za4 t l d + zcx t ≤ l
  | .mk _ _ _ ks _, l, d, h => by
    simp only [za4] at h ⊢
    by_cases h0 : l < 1 ∨ d < 1
    · rw [if_pos h0] at h; omega
    · rw [if_neg h0] at h ⊢
      have := zsg ks (l - 1) (d - 1) h
      simp only [zcx]; omega
theorem zsg : ∀ (ts : List Tm) (l d : Int), 0 ≤ zbd ts l d → zbd ts l d + zco ts ≤ l
  | [], l, _, h => by simp [zbd, zco]
  | t :: r, l, d, h => by
    simp only [zbd] at h ⊢
    by_cases h0 : 0 ≤ l
    · rw [if_pos h0] at h ⊢
      have h1 := zsg r (za4 t l d) d h
      by_cases h2 : 0 ≤ za4 t l d
      · have := zv5 t l d h2
        simp only [zco]; omega
      · have := (zkr r (za4 t l d) d (zgq t l d).1).2
        omega
    · rw [if_neg h0] at h; omega
end
theorem zcl (t : Tm) (h : za6 t = true) : zmz t ∧ zfc t ∧ zy9 t ∧ zcx t ≤ 60 := by
  simp only [za6, Bool.and_eq_true, decide_eq_true_eq] at h
  have hc := zv5 t 60 14 h.1
  have hc2 : zcx t ≤ 60 := by omega
  obtain ⟨a, b⟩ := zhj t h.2 (by omega)
  exact ⟨zhi t h.2, b, a, hc2⟩
end Go.Hk

/- Arrays of values of one cell: built, indexed behind a pointer and by value. -/
namespace Go.Hk
theorem yb2 : ∀ (vs pre post : List Value), post.length = vs.length → (∀ v ∈ vs, v.oneCell' = true) →
    Instr.fill (fun i => some (i * 1, 1)) (pre ++ post).toArray (vs.zipIdx pre.length |>.map fun p => (p.2, p.1)) = some (pre ++ vs).toArray
  | [], pre, post, h, _ => by
    have : post = [] := List.eq_nil_of_length_eq_zero h
    subst this; rfl
  | v :: r, pre, post, h, h1 => by
    cases post with
    | nil => simp at h
    | cons p q =>
      have hc := zgb (h1 v (by simp))
      simp only [List.zipIdx_cons, List.map_cons, Instr.fill, hc]
      rw [if_neg (by simp)]
      have ih := yb2 r (pre ++ [v]) q (by simpa using h) (fun u hu => h1 u (by simp [hu]))
      simp only [List.length_append, List.length_cons, List.length_nil, List.append_assoc, List.cons_append, List.nil_append] at ih
      rw [← ih]
      congr 1
      simp [Nat.mul_one]
def zlx (env : Env) : Nat → List (Nat × Operand) → Option (List D)
  | _, [] => some []
  | i, (j, x) :: r => match Nat.beq i j, evO env x, zlx env (i + 1) r with
    | true, some d, some ds => match d.one with
      | true => some (d :: ds)
      | false => none
    | _, _, _ => none
structure PBa where
  ds : List D
  dst : Option Nat
  todo : List DI
def pbarr (tt : TT) (n : Nat) (env : Env) (todo : List DI) : Option PBa :=
  match zce todo ([], []) with
  | some (_, o, todo') => match o.guard, o.op with
    | none, .build t ⟨parts⟩ => match lk tt t with
      | some { sh := .arr m e, zero := z, .. } => match lk tt e, zlx env 0 parts, zc2 n o.dst with
        | some ti, some ds, true => match Nat.beq ti.size 1, Nat.beq ds.length m, Nat.beq z.length m with
          | true, true, true => some ⟨ds, o.dst, todo'⟩
          | _, _, _ => none
        | _, _, _ => none
      | _ => none
    | _, _ => none
  | none => none
structure PAx where
  id : Nat
  off : Nat
  len : Nat
  m : Int
  sz : Nat
  g : Option (Bool × Bool)
  ob : List Prop
  t : Nat
  todo : List DI
def paidx (tt : TT) (n : Nat) (env : Env) (todo : List DI) : Option PAx :=
  match zce todo ([], []) with
  | some (all, o, todo') => match o.op, zdw all env o with
    | .indexAddr t x i, some g => match lk tt t, yap (zai g) env x, yap (zai g) env i with
      | some { sh := .arr len e, .. }, some (.ref id off, o1), some (.imm (.int _ m), o2) => match lk tt e, o.dst, zc2 n o.dst with
        | some ti, some t', true => some ⟨id, off, len, m, ti.size, g, cat o1 o2, t', todo'⟩
        | _, _, _ => none
      | _, _, _ => none
    | _, _ => none
  | none => none
section
variable {P : Program} {n : Nat} {F : List Nat} {Q : DQ} {tt : TT} {env env' : Env} {st st' : St} {ids ids' : List Nat} {k todo todo' : List DI} {I J : Imm} {μ : Mu} {w : World} {a : Act} {d : D}
theorem zp4 {a : Act} : ∀ {ps : List (Nat × Operand)} {i : Nat} {ds : List D}, zlx env i ps = some ds → (∀ x ∈ ps.map (·.2), ∀ d, evO env x = some d → RepD I μ (a.eval x) d) →
    ps.map (fun p => (p.1, a.eval p.2)) = ((ps.map fun p => a.eval p.2).zipIdx i).map (fun p => (p.2, p.1)) ∧ RepL I μ (ps.map fun p => a.eval p.2) ds ∧ ∀ v ∈ ps.map (fun p => a.eval p.2), v.oneCell' = true
  | [], i, ds, h, _ => by
    simp only [zlx, Option.some.injEq] at h
    subst h
    exact ⟨rfl, ⟨rfl, fun i v d h => by simp at h⟩, fun v h => by simp at h⟩
  | (j, x) :: r, i, ds, h, hx => by
    simp only [zlx] at h
    split at h
    · rename_i d ds' hj hd hr
      split at h
      · rename_i h1
        cases h
        have hj := Nat.eq_of_beq_eq_true hj
        subst hj
        have hv := hx x (by simp) d hd
        obtain ⟨q1, q2, q3⟩ := zp4 (a := a) hr (fun y hy => hx y (by simp at hy ⊢; exact .inr hy))
        refine ⟨by simp [q1], ⟨by simp [q2.1], fun k v d' h1 h2 => ?_⟩, fun v hv' => ?_⟩
        · cases k with
          | zero => simp at h1 h2; rw [← h1, ← h2]; exact hv
          | succ k => exact q2.2 k v d' (by simpa using h1) (by simpa using h2)
        · simp only [List.map_cons, List.mem_cons] at hv'
          rcases hv' with rfl | hv'
          · exact hv.one h1
          · exact q3 v hv'
      · cases h
    · cases h
theorem g_barr (htt : TTok P tt) {c : PBa} (h : pbarr tt n env todo = some c) (hk : G P n F Q c.todo (zdz c.dst (zop c.ds) env) st ids) : G P n F Q todo env st ids := by
  unfold pbarr at h
  split at h
  · rename_i all o todo' h1
    split at h
    · rename_i t parts hg hop
      split at h
      · rename_i m e _ _ _ z ht
        split at h
        · rename_i ti ds hti hps hd
          split at h
          · rename_i hsz hlen hzlen
            cases h
            refine zcv (fr := []) (wr := []) (rd := []) h1 ?_ hd (fun c hc => by rw [hop] at hc; cases hc) hk
            intro I μ st1 ids1 a w hag hst hon
            refine ⟨fun _ => ?_, fun hw => by rw [zau hg] at hw; cases hw⟩
            have hops := zbi hon
            rw [hop] at hops
            obtain ⟨q1, q2, q3⟩ := zp4 (a := a) (I := I) (μ := μ) hps (fun x hx => hops x (by simp only [Op.operands]; simpa using hx))
            have hty := htt t _ ht
            obtain ⟨inf, zv, hi1, _, _, hi4, hi5, hi6⟩ := hty.info
            have hu : P.underlying t = some (.array m e) := htt.sh ht
            have hs1 : ti.size = 1 := Nat.eq_of_beq_eq_true hsz
            have hzl : zv.cells.toList.length = m := by
              rw [(hi5 I μ).1]; exact Nat.eq_of_beq_eq_true hzlen
            have hpl : (parts.map fun p => a.eval p.2).length = m := by rw [q2.1]; exact Nat.eq_of_beq_eq_true hlen
            have hfill := yb2 (parts.map fun p => a.eval p.2) [] zv.cells.toList (by rw [hzl, hpl]) q3
            simp only [List.nil_append, List.length_nil] at hfill
            have hrun : (execOp a.eval o).run P w = .ok (.value (.agg (parts.map fun p => a.eval p.2).toArray)) w := by
              simp only [execOp, hop, Instr.build, Sem.run_bind, zeroValue, typeInfo, run_program, Result.andThen_ok, hi1, hi4, Sem.run_pure, run_underlying hu, (htt e ti hti).sizeOf w, hs1, List.map_toArray, q1]
              rw [show zv.cells = zv.cells.toList.toArray from rfl, hfill]
              rfl
            rw [hrun]
            exact ⟨I, μ, hst, zi0 q2 q3, Mu.le_refl μ, Ext.refl _ _ _ _⟩
          · cases h
        · cases h
      · cases h
    · cases h
  · cases h
theorem yby (htt : TTok P tt) {c : PAx} (h : paidx tt n env todo = some c) (hc : zai c.g → 0 ≤ c.m ∧ c.m < c.len) (hob : zbw c.ob)
    (hk : G P n F Q c.todo ((c.t, gD c.g (.ref c.id (c.off + c.m.toNat * c.sz))) :: env) st ids) : G P n F Q todo env st ids := by
  unfold paidx at h
  split at h
  · rename_i all o todo' h1
    split at h
    · rename_i t x i g hop hg
      split at h
      · rename_i len e _ _ _ _ id off o1 kk m o2 ht hx hi
        split at h
        · rename_i ti t' hti hdst hd
          cases h
          have hk : G P n F Q todo' (zdz o.dst (gD g (.ref id (off + m.toNat * ti.size))) env) st ids := by rw [hdst]; exact hk
          refine zcv (fr := []) (wr := []) (rd := []) h1 (zd7 hg fun I μ st1 ids1 a w _ hst hops hcx => ?_) (by rw [hdst] at hd ⊢; exact hd) (fun c hc => by rw [hop] at hc; cases hc) hk
          rw [hop] at hops
          obtain ⟨ho1, ho2⟩ := zbb hob
          obtain ⟨b, e1, e2⟩ := (zds hx ho1 hcx (hops x (by simp [Op.operands]))).refInv
          have ri := (zds hi ho2 hcx (hops i (by simp [Op.operands]))).immInv.intInv
          obtain ⟨c0, c1⟩ := hc hcx
          simp only at c0 c1
          have hu : P.underlying t = some (.array len e) := htt.sh ht
          simp only [execOp, hop, ri, e1]
          have hrun : (do pure (.value (← Instr.indexAt t (.pointer (some ⟨b, off, none⟩)) (.int kk m))) : Sem Next).run P w = .ok (.value (.pointer (some ⟨b, off + m.toNat * ti.size, none⟩))) w := by
            apply zan
            simp only [Instr.indexAt, Sem.run_bind, asIntOf, Sem.run_pure, Result.andThen_ok, run_underlying hu, Instr.sureAddr]
            simp [c0, c1, (htt e ti hti).sizeOf w, zh2]
          rw [hrun]
          exact ⟨I, μ, hst, .ref b id _ e2, Mu.le_refl μ, Ext.refl _ _ _ _⟩
        · cases h
      · cases h
    · cases h
  · cases h
end
end Go.Hk

/- Contracts of term and hearthref01: nodes and depth. -/
namespace Go.Hk
open Go.Proofs
def ttP2 : TT := ttF ++ [
  (54, ⟨.sl 3, false, 1, 24, [.nils]⟩),
  (113, ⟨.struct [(0, 26)], true, 5, 80, [.imm (.int .i64 0), .imm (.int .i64 0), .imm (.str []), .nils, .nils]⟩),
  (114, ⟨.func, false, 1, 8, [.imm .nilfn]⟩),
  (115, ⟨.arr 2 114, true, 2, 16, [.imm .nilfn, .imm .nilfn]⟩)]
theorem zca : TTok Tryz.prog ttP2 := .of_eq (l := [4, 3, 9, 26, 58, 22, 24, 5, 36, 23, 56, 29, 139, 83, 1, 61, 143, 128, 96, 94, 93, 126, 148, 91, 86, 123, 125, 54, 113, 114, 115]) (by kernel_rfl)
section
variable {n : Nat} {F : List Nat} {Q : DQ} {env env' : Env} {st st' : St} {ids ids' : List Nat} {k todo : List DI} {ob : List Prop}
theorem qd (path : List Pt) (h : run ttP2 n 300 path todo env st ids [] = .at k env' st' ids' ob) (hob : zbw ob) (hd : G Tryz.prog n F Q k env' st' ids') : DGo Tryz.prog n F Q todo env st ids := zrf zca mixed 300 path h hob hd
theorem qg (path : List Pt) (h : run ttP2 n 300 path todo env st ids [] = .at k env' st' ids' ob) (hob : zbw ob) (hd : G Tryz.prog n F Q k env' st' ids') : G Tryz.prog n F Q todo env st ids := zqo zca mixed 300 path h hob hd
theorem qi_ {es : List (List V)} {m : Int} {sz : Nat} {e : TypeId} {g : Option (Bool × Bool)} {ob : List Prop} {t : Nat} {todo' : List DI} {c : List V} (h : yio ttP2 n env todo = some ⟨es, m, sz, e, g, ob, some t, todo'⟩)
    (hc : zai g → 0 ≤ m ∧ es[m.toNat]? = some c ∧ c.length = sz) (hob : zbw ob) (hk : G Tryz.prog n F Q todo' ((t, gD g (.ip e c 0)) :: env) st ids) : G Tryz.prog n F Q todo env st ids := zeg zca h hc hob hk
end
mutual
def dpT : Tm → Nat
  | .mk _ _ _ ks _ => zq8 ks 0 + 1
def zq8 : List Tm → Nat → Nat
  | [], m => m
  | k :: r, m => zq8 r (max m (dpT k))
end
theorem zmi : ∀ {l : List Tm} {t : Tm}, t ∈ l → zcx t ≤ zco l
  | k :: r, t, h => by
    simp only [zco]
    rcases List.mem_cons.1 h with rfl | h
    · omega
    · have := zmi h; omega
mutual
theorem ylu : ∀ t : Tm, dpT t ≤ zcx t
  | .mk _ _ _ ks _ => by
    have := yht ks 0
    simp only [dpT, zcx]; omega
theorem yht : ∀ (ks : List Tm) (m : Nat), zq8 ks m ≤ m + zco ks
  | [], m => by simp [zq8, zco]
  | k :: r, m => by
    have h1 := ylu k
    have h2 := yht r (max m (dpT k))
    simp only [zq8, zco]
    omega
end
theorem zz1 : ∀ (ks : List Tm) (m : Nat), m ≤ zq8 ks m
  | [], m => by simp [zq8]
  | k :: r, m => by
    have := zz1 r (max m (dpT k))
    simp only [zq8]; omega
set_option maxRecDepth 100000 in
theorem zns : ∀ t : Tm, zcx t ≤ 1000000 → zax Tryz.prog 87 [.agg (dTmc t)] (.int .i64 (zcx t))
  | .mk o n x ks ps, hc => by
    simp only [zcx] at hc
    have hl := zqk ks
    refine zaf zca Tryz.func87 (by decide +kernel) rfl [1, 2] rfl rfl ?_
    refine qg [] rfl (by simp) ?_
    refine zak (fun y : Nat × Nat => [(10, .imm (.int .i64 y.1)), (9, .imm (.int .i64 ks.length)), (8, .imm (.sl (zdg ks))), (3, .imm (.int .i64 y.2))]) (fun _ => []) [1, 2] (fun y => ks.length - y.1) (fun y => y.1 ≤ ks.length ∧ y.2 + zco (ks.drop y.1) = 1 + zco ks) (0, 1)
      ⟨Nat.zero_le _, rfl⟩ ⟨rfl, zcr (by simp), rfl, rfl, trivial⟩ trivial rfl fun y hi ih => ?_
    obtain ⟨i, s⟩ := y
    obtain ⟨hi1, hi2⟩ := hi
    simp only at hi1 hi2
    refine qd [] rfl (by simp) ?_
    refine zab rfl (fun h => ?_) (fun h => ?_)
    · simp at h
      obtain ⟨k, hk⟩ := zal h
      rw [zaq hk] at hi2
      simp only [zco] at hi2
      have hkc : zcx k ≤ 1000000 := by have := zmi (List.mem_of_getElem? hk); omega
      have hs := Nat.le_refl (SizeOf.sizeOf k)
      obtain ⟨ko, kn, kx, kk, kp⟩ := k
      refine qd [] rfl (by simp) ?_
      refine qi_ rfl (c := dTmc (.mk ko kn kx kk kp)) (fun _ => ⟨by simp, by simpa using zch hk, by simp⟩) (by simp) ?_
      refine qg [] rfl (by simp) ?_
      refine zac rfl (fun _ => zns (.mk ko kn kx kk kp) hkc) (by simp) ?_
      refine qg [] rfl (by simp) ?_
      exact zae (ih (i + 1, s + zcx (.mk ko kn kx kk kp)) (by simp only; omega) ⟨by simp only; omega, by simp only; omega⟩) ⟨zcr (w64 (by simp only; omega) (by simp only; omega)), rfl, rfl, zcr ((w64 (by simp only; omega) (by simp only; omega)).trans (by simp)), trivial⟩ trivial rfl
    · simp at h
      rw [List.drop_eq_nil_of_le (by omega)] at hi2
      simp only [zco] at hi2
      refine za2 rfl ?_
      refine qd [] rfl (by simp) ?_
      refine zaa ⟨_, rfl, zcr ?_, trivial⟩
      simp only [zcx]; omega
termination_by t => SizeOf.sizeOf t
decreasing_by
  all_goals
    have := List.sizeOf_lt_of_mem (List.mem_of_getElem? hk)
    simp_wf
    simp at this
    omega
set_option maxRecDepth 100000 in
theorem znt : ∀ t : Tm, zcx t ≤ 1000000 → zax Tryz.prog 88 [.agg (dTmc t)] (.int .i64 (dpT t))
  | .mk o n x ks ps, hc => by
    have hd := ylu (.mk o n x ks ps)
    simp only [zcx, dpT] at hc hd
    have hl := zqk ks
    refine zaf zca Tryz.func88 (by decide +kernel) rfl [1, 2] rfl rfl ?_
    refine qg [] rfl (by simp) ?_
    refine zak (fun y : Nat × Nat => [(10, .imm (.int .i64 y.1)), (9, .imm (.int .i64 ks.length)), (8, .imm (.sl (zdg ks))), (3, .imm (.int .i64 y.2))]) (fun _ => []) [1, 2] (fun y => ks.length - y.1) (fun y => y.1 ≤ ks.length ∧ zq8 (ks.drop y.1) y.2 = zq8 ks 0) (0, 0)
      ⟨Nat.zero_le _, rfl⟩ ⟨rfl, zcr (by simp), rfl, rfl, trivial⟩ trivial rfl fun y hi ih => ?_
    obtain ⟨i, s⟩ := y
    obtain ⟨hi1, hi2⟩ := hi
    simp only at hi1 hi2
    refine qd [] rfl (by simp) ?_
    refine zab rfl (fun h => ?_) (fun h => ?_)
    · simp at h
      obtain ⟨k, hk⟩ := zal h
      rw [zaq hk] at hi2
      simp only [zq8] at hi2
      have hkc : zcx k ≤ 1000000 := by have := zmi (List.mem_of_getElem? hk); omega
      obtain ⟨ko, kn, kx, kk, kp⟩ := k
      refine qd [] rfl (by simp) ?_
      refine qi_ rfl (c := dTmc (.mk ko kn kx kk kp)) (fun _ => ⟨by simp, by simpa using zch hk, by simp⟩) (by simp) ?_
      refine qg [] rfl (by simp) ?_
      refine zac rfl (fun _ => znt (.mk ko kn kx kk kp) hkc) (by simp) ?_
      refine qg [] rfl (by simp) ?_
      exact zae (ih (i + 1, max s (dpT (.mk ko kn kx kk kp))) (by simp only; omega) ⟨by simp only; omega, hi2⟩) ⟨zcr (w64 (by simp only; omega) (by simp only; omega)), rfl, rfl, zcr (by simp only; split <;> omega), trivial⟩ trivial rfl
    · simp at h
      rw [List.drop_eq_nil_of_le (by omega)] at hi2
      simp only [zq8] at hi2
      refine za2 rfl ?_
      refine qd [] rfl (by simp) ?_
      refine zaa ⟨_, rfl, zcr ?_, trivial⟩
      simp only [dpT]
      rw [w64 (by omega) (by omega)]; omega
termination_by t => SizeOf.sizeOf t
decreasing_by
  all_goals
    have := List.sizeOf_lt_of_mem (List.mem_of_getElem? hk)
    simp_wf
    simp at this
    omega
set_option maxRecDepth 100000 in
theorem yb6 (t : Tm) (way : Bool) (h : zei t = za6 t) : zax Tryz.prog 53 [.agg (dTmc t), .int .i64 (bif way then 1 else 0)] (.tup [.int .i64 (bif za6 t then (bif way then (dpT t : Int) else zcx t) else 0), .int .i64 (bif za6 t then 0 else 2)]) := by
  obtain ⟨o, n, x, ks, ps⟩ := t
  refine zaf zca Tryz.func53 (by decide +kernel) rfl [1, 2, 3] rfl rfl ?_
  refine qg [] rfl (by simp) ?_
  refine zac rfl (fun _ => zfp (.mk o n x ks ps)) (by simp) ?_
  rw [h]
  cases ht : za6 (.mk o n x ks ps) with
  | false =>
    refine qg [] rfl (by simp) ?_
    refine zab rfl (fun h => ?_) (fun h => by simp [zzx] at h)
    refine qd [] rfl (by simp) ?_
    exact zaa ⟨_, rfl, tV rfl, trivial⟩
  | true =>
    obtain ⟨h1, h2, h3, h4⟩ := zcl _ ht
    refine qg [] rfl (by simp) ?_
    refine zab rfl (fun h => by simp [zzx] at h) (fun h => ?_)
    refine qd [] rfl (by simp) ?_
    refine g_barr zca rfl ?_
    cases way with
    | false =>
      refine qg [] rfl (by simp) ?_
      refine yby zca rfl (fun _ => ⟨by decide, by decide⟩) (by simp) ?_
      refine qg [] rfl (by simp) ?_
      refine zar (fr := []) [] [] rfl (by simp) (zns (.mk o n x ks ps) (by omega)) trivial rfl rfl rfl rfl ?_
      refine qg [] rfl (by simp) ?_
      exact zaa ⟨_, rfl, tV rfl, trivial⟩
    | true =>
      refine qg [] rfl (by simp) ?_
      refine yby zca rfl (fun _ => ⟨by decide, by decide⟩) (by simp) ?_
      refine qg [] rfl (by simp) ?_
      refine zar (fr := []) [] [] rfl (by simp) (znt (.mk o n x ks ps) (by omega)) trivial rfl rfl rfl rfl ?_
      refine qg [] rfl (by simp) ?_
      exact zaa ⟨_, rfl, tV rfl, trivial⟩
set_option maxRecDepth 100000 in
theorem ye4 (t : Tm) (h : zei t = za6 t) : zax Tryz.prog 28 [.agg (dTmc t)] (.tup [.int .i64 (bif za6 t then (zcx t : Int) else 0), .int .i64 (bif za6 t then 0 else 2)]) := by
  refine zaf zca Tryz.func28 (by decide +kernel) rfl [1, 2, 3] rfl rfl ?_
  refine qg [] rfl (by simp) ?_
  refine zac rfl (fun _ => yb6 t false h) (by simp) ?_
  refine qg [] rfl (by simp) ?_
  exact zaa ⟨_, rfl, tV rfl, trivial⟩
set_option maxRecDepth 100000 in
theorem ye5 (t : Tm) (h : zei t = za6 t) : zax Tryz.prog 29 [.agg (dTmc t)] (.tup [.int .i64 (bif za6 t then (dpT t : Int) else 0), .int .i64 (bif za6 t then 0 else 2)]) := by
  refine zaf zca Tryz.func29 (by decide +kernel) rfl [1, 2, 3] rfl rfl ?_
  refine qg [] rfl (by simp) ?_
  refine zac rfl (fun _ => yb6 t true h) (by simp) ?_
  refine qg [] rfl (by simp) ?_
  exact zaa ⟨_, rfl, tV rfl, trivial⟩
end Go.Hk

/- A block of cells that is zbx by name is zbx by address from then on. -/
namespace Go.Hk
def yik (b : Nat) (t : TypeId) (ds : List D) : Asn where
  P := fun _ I w bs => bs = [b] ∧ ∃ vs, w.heap[b]? = some (.cells vs t (0, 0)) ∧ RepL I noMu vs.toList ds ∧ ∀ v ∈ vs.toList, v.oneCell' = true
  mono := fun h ⟨h1, vs, h2, h3, h4⟩ => ⟨h1, vs, h2, h3.mono h (Mu.le_refl _), h4⟩
  loc := fun h ⟨h1, vs, h2, h3⟩ => ⟨h1, vs, (h b (by simp [h1])).trans h2, h3⟩
mutual
def ymh (id b : Nat) : D → D
  | .ref i off => bif Nat.beq i id then .raw (.pointer (some ⟨b, off, none⟩)) else .ref i off
  | .agg cs => .agg (ymg id b cs)
  | .tup cs => .tup (ymg id b cs)
  | d => d
def ymg (id b : Nat) : List D → List D
  | [] => []
  | d :: r => ymh id b d :: ymg id b r
end
def ynm (id b : Nat) : Env → Env
  | [] => []
  | (t, d) :: r => (t, ymh id b d) :: ynm id b r
def refB (id b : Nat) : Blk → Blk
  | .cells t sz cs => .cells t sz (ymg id b cs)
  | x => x
def yfy (id b : Nat) : St → St
  | [] => []
  | (i, some x) :: r => (i, some (refB id b x)) :: yfy id b r
  | (i, none) :: r => (i, none) :: yfy id b r
theorem zk2 (id b : Nat) : ∀ l : List D, ymg id b l = l.map (ymh id b)
  | [] => rfl
  | d :: r => by simp [ymg, zk2 id b r]
section
variable {P : Program} {n : Nat} {F : List Nat} {Q : DQ} {tt : TT} {env env' : Env} {st st' : St} {ids ids' : List Nat} {todo : List DI} {I J : Imm} {μ : Mu} {w : World} {a : Act} {d : D}
theorem RepD.refd {id b : Nat} (hm : μ id = some (.pointer (some ⟨b, 0, none⟩))) {v : Value} (h : RepD I μ v d) : RepD I μ v (ymh id b d) := by
  have at_ : ∀ {l : List D} {i : Nat} {x : D}, (ymg id b l)[i]? = some x → ∃ y, l[i]? = some y ∧ x = ymh id b y := by
    intro l i x hx
    rw [zk2, List.getElem?_map] at hx
    cases hl : l[i]? with
    | none => rw [hl] at hx; cases hx
    | some y => rw [hl] at hx; cases hx; exact ⟨y, rfl, rfl⟩
  induction h with
  | ref b' i off h =>
    simp only [ymh]
    cases hb : Nat.beq i id with
    | false => exact .ref b' i off h
    | true =>
      rw [Nat.eq_of_beq_eq_true hb, hm] at h
      cases h
      exact .raw _ rfl
  | agg cs ds hl h1 _ ih =>
    refine .agg cs _ (by rw [zk2, List.length_map, hl]) h1 fun i c x hc hx => ?_
    obtain ⟨y, hy, rfl⟩ := at_ hx
    exact ih i c y hc hy
  | tup cs ds hl _ ih =>
    refine .tup cs _ (by rw [zk2, List.length_map, hl]) fun i c x hc hx => ?_
    obtain ⟨y, hy, rfl⟩ := at_ hx
    exact ih i c y hc hy
  | undef v => exact .undef v
  | imm v x hx => exact .imm v x hx
  | nils => exact .nils
  | own i len a cap hm => exact .own i len a cap hm
  | ip b o t cs off vs hcell hrep => exact .ip b o t cs off vs hcell hrep
  | elp b i len cap k sz f hm => exact .elp b i len cap k sz f hm
  | mapr i b hm => exact .mapr i b hm
  | iter i b hm => exact .iter i b hm
  | fn f first cap df dc hf hc h1 h2 _ _ => exact .fn f first cap df dc hf hc h1 h2
  | iface t v d h _ => exact .iface t v d h
  | guard c want v d h hu _ => exact .guard c want v d h hu
  | clip a len es hr => exact .clip a len es hr
  | slc b i off len cap hm hl hx => exact .slc b i off len cap hm hl hx
  | yld b i hm => exact .yld b i hm
  | raw v h => exact .raw v h
  | hv v i k us cs h hi h1 => exact .hv v i k us cs h hi h1
theorem yf1 {id b : Nat} : ∀ {env : Env} {t : Nat} {d : D}, lk (ynm id b env) t = some d → ∃ d0, lk env t = some d0 ∧ d = ymh id b d0
  | [], t, d, h => by simp [ynm, lk] at h
  | (s, x) :: r, t, d, h => by
    simp only [ynm] at h
    by_cases hs : s = t
    · subst hs; rw [zaj] at h ⊢; cases h; exact ⟨x, rfl, rfl⟩
    · rw [zam _ _ hs] at h ⊢; exact yf1 h
theorem zpw {id b i : Nat} {x : Blk} : ∀ {st : St}, zap (yfy id b st) i x → ∃ b0, zap st i b0 ∧ x = refB id b b0
  | [], h => by simp [yfy, zap, lk] at h
  | (k, some y) :: r, h => by
    simp only [yfy] at h
    rcases zah.1 h with ⟨h1, h2⟩ | ⟨h1, h2⟩
    · exact ⟨y, by unfold zap; rw [h1, zaj], h2⟩
    · obtain ⟨b0, q1, q2⟩ := zpw h2
      exact ⟨b0, zah.2 (.inr ⟨h1, q1⟩), q2⟩
  | (k, none) :: r, h => by
    simp only [yfy] at h
    obtain ⟨h1, h2⟩ := za7.1 h
    obtain ⟨b0, q1, q2⟩ := zpw h2
    exact ⟨b0, za7.2 ⟨h1, q1⟩, q2⟩
theorem zqf {id b i : Nat} {x : Blk} : ∀ {st : St}, zap st i x → zap (yfy id b st) i (refB id b x)
  | [], h => by simp [zap, lk] at h
  | (k, some y) :: r, h => by
    simp only [yfy]
    rcases zah.1 h with ⟨h1, h2⟩ | ⟨h1, h2⟩
    · exact zah.2 (.inl ⟨h1, by rw [h2]⟩)
    · exact zah.2 (.inr ⟨h1, zqf h2⟩)
  | (k, none) :: r, h => by
    simp only [yfy]
    obtain ⟨h1, h2⟩ := za7.1 h
    exact za7.2 ⟨h1, zqf h2⟩
theorem zog (id j : Nat) {t : TypeId} {sz : Nat} {ds : List D} (hl : lk st id = some (some (.cells t sz ds))) (hnm : nmL ds = [])
    (h : ∀ b, DGo P n F Q todo (ynm id b env) ((j, some (.hp (yik b t ds))) :: (id, none) :: yfy id b st) ids') : DGo P n F Q todo env st (j :: ids') := by
  refine zd1 fun I μ a w hc => ?_
  obtain ⟨g, hg, hs, b, us, rfl, hheap, hrep, hone⟩ := hc.blk id _ hl
  obtain ⟨p1, p2⟩ := hc.toStRep.retell (st1 := yfy id b st) (fun i x hlb => by
    obtain ⟨b0, q1, rfl⟩ := zpw hlb
    refine ⟨b0, q1, fun gb hb => ?_⟩
    cases b0 with
    | cells t sz cs =>
      obtain ⟨hs, b', us, e1, e2, e3, e4⟩ := hb
      exact ⟨by rw [zk2, List.length_map, hs], b', us, e1, e2, ⟨by rw [zk2, List.length_map, e3.1], fun i v y hv hy => by
        rw [zk2, List.getElem?_map] at hy
        cases hc' : cs[i]? with
        | none => rw [hc'] at hy; cases hy
        | some z => rw [hc'] at hy; cases hy; exact (e3.2 i v z hv hc').refd hg⟩, e4⟩
    | _ => exact hb)
  obtain ⟨q1, q2, q3⟩ := StRep.relay (R := [id]) (new := [(j, hpG [] [b], .hp (yik b t ds))]) (ids' := ids') p1
    (fun p hp b' hb => by
      rw [List.mem_singleton.1 hp] at hb
      have := za0.1 hb
      rw [List.mem_singleton.1 this]
      exact ⟨id, _, _, by simp, zqf hl, hg, rfl⟩)
    (fun p hp q hq b _ _ => by rw [List.mem_singleton.1 hp, List.mem_singleton.1 hq]) (Imm.le_refl I) hc.imm (fun b o h => .inl h)
    (fun _ p hp => by rw [List.mem_singleton.1 hp]; exact ⟨[], [b], rfl, rfl, us, hheap, hrep.sub (fun j hj => by rw [hnm] at hj; cases hj), hone⟩)
  refine ⟨I, _, ynm id b env, _, ids', q2, fun t d hd => ?_, p2.trans q3, .of_le q1, h b⟩
  obtain ⟨d0, h0, rfl⟩ := yf1 hd
  exact ((hc.env t d0 h0).refd hg).mono (Imm.le_refl I) q1
end
end Go.Hk

/- Trees that are zbx: their nodes by path, and nodes that are changed. -/
namespace Go.Hk
open Go.Proofs
abbrev zmn := List (Bool × Nat)
def ze7 : An → Bool × Nat → Option (An × Nat × Nat)
  | .mk s _ _ _ v ks u ps, (r, k) => match r with
    | false => (ks[k]?).map fun c => (c, zb9 v, k * szA s)
    | true => match s with
      | true => (ps[k]?).map fun c => (c, zb9 u, k * szA false)
      | false => none
  | .im _ _ _, _ => none
def zec (a : An) (b off : Nat) : zmn → Option (An × Nat × Nat)
  | [] => some (a, b, off)
  | p :: r => match ze7 a p with
    | some (c, b', off') => zec c b' off' r
    | none => none
def zww : An → Bool × Nat → An → An
  | .mk s o n x v ks u ps, (r, k), c => match r with
    | false => .mk s o n x v (ks.set k c) u ps
    | true => .mk s o n x v ks u (ps.set k c)
  | .im s cs c0, _, _ => .im s cs c0
def zmx (a : An) : zmn → An → An
  | [], a2 => a2
  | p :: r, a2 => match ze7 a p with
    | some (c, _, _) => zww a p (zmx c r a2)
    | none => a
structure Upd (w w' : World) (b off sz : Nat) : Prop where
  other : ∀ k, k ≠ b → w'.heap[k]? = w.heap[k]?
  same : ∀ cur ty k, w.heap[b]? = some (.cells cur ty k) → ∃ cur', w'.heap[b]? = some (.cells cur' ty k) ∧ cur'.size = cur.size ∧ ∀ i, (i < off ∨ off + sz ≤ i) → cur'[i]? = cur[i]?
theorem Upd.row {w w' : World} {b off sz : Nat} (h : Upd w w' b off sz) {ty : TypeId} {s : Nat} {v : Value} {len : Nat} (hr : yi7 w ty s v len) : yi7 w' ty s v len := by
  rcases hr with hr | ⟨h0, b', cap, cur, rfl, h1, h2, h3, h4⟩
  · exact .inl hr
  · by_cases e : b' = b
    · subst e
      obtain ⟨cur', q1, q2, _⟩ := h.same cur ty (0, 0) h1
      exact .inr ⟨h0, b', cap, cur', rfl, q1, h2, h3, by rw [q2, h4]⟩
    · exact .inr ⟨h0, b', cap, cur, rfl, (h.other b' e).trans h1, h2, h3, h4⟩
theorem Upd.at {w w' : World} {b off sz : Nat} (h : Upd w w' b off sz) {b1 off1 : Nat} {cs : List Value} (ha : atW w b1 off1 cs) (hd : b1 = b → off1 + cs.length ≤ off ∨ off + sz ≤ off1) : atW w' b1 off1 cs := by
  obtain ⟨cur, ty, k, h1, h2⟩ := ha
  by_cases e : b1 = b
  · subst e
    obtain ⟨cur', q1, q2, q3⟩ := h.same cur ty k h1
    refine ⟨cur', ty, k, q1, fun j c hj => ?_⟩
    have hlt := (List.getElem?_eq_some_iff.1 hj).1
    rw [q3 (off1 + j) (by rcases hd rfl with h | h <;> omega)]
    exact h2 j c hj
  · exact ⟨cur, ty, k, (h.other b1 e).trans h1, h2⟩
theorem zsi {w : World} {b off : Nat} {cur : Array Value} {ty : TypeId} {k : Nat × Nat} {cs : List Value} {off0 sz : Nat} (h : w.heap[b]? = some (.cells cur ty k)) (hf : off + cs.length ≤ cur.size) (h0 : off0 ≤ off ∧ off + cs.length ≤ off0 + sz) :
    Upd w (w.setRow b (cur.toList.take off ++ cs ++ cur.toList.drop (off + cs.length)).toArray) b off0 sz := by
  refine ⟨fun k hk => setRow_other w b k _ hk, fun cur1 ty1 k1 h1 => ?_⟩
  rw [h] at h1; cases h1
  refine ⟨_, zim h, ?_, fun i hi => ?_⟩
  · have hl2 : cur.toList.length = cur.size := Array.length_toList
    show (cur.toList.take off ++ cs ++ cur.toList.drop (off + cs.length)).length = cur.size
    rw [List.length_append, List.length_append, List.length_take, List.length_drop]
    omega
  · have := zft (cur := cur.toList) (off := off) (cs := cs) (by simpa using hf) i
    rcases hi with hi | hi
    · rw [if_pos (by omega)] at this; simpa using this
    · rw [if_neg (by omega), if_neg (by omega)] at this; simpa using this
theorem zhn {a c : An} {p : Bool × Nat} {b off : Nat} (h : ze7 a p = some (c, b, off)) : b ∈ anB a ∧ (∀ k ∈ anB c, k ∈ anB a) ∧ ((anB a).Nodup → (anB c).Nodup ∧ b ∉ anB c) := by
  rcases a with ⟨s, o, n, x, v, ks, u, ps⟩ | ⟨s0, cs0, c0⟩
  case im => simp [ze7] at h
  obtain ⟨r, k⟩ := p
  have mem : ∀ {l : List An} {i : Nat} {c : An}, l[i]? = some c → ∀ k ∈ anB c, k ∈ zdv l := by
    intro l
    induction l with
    | nil => intro i c h; simp at h
    | cons y r ih =>
      intro i c h k hk
      simp only [zdv, List.mem_append]
      cases i with
      | zero => simp at h; subst h; exact .inl hk
      | succ i => exact .inr (ih (by simpa using h) k hk)
  have nd : ∀ {l : List An} {i : Nat} {c : An}, l[i]? = some c → (zdv l).Nodup → (anB c).Nodup := by
    intro l
    induction l with
    | nil => intro i c h; simp at h
    | cons y r ih =>
      intro i c h hn
      simp only [zdv] at hn
      have hn := List.nodup_append.1 hn
      cases i with
      | zero => simp at h; subst h; exact hn.1
      | succ i => exact ih (by simpa using h) hn.2.1
  have bl : ∀ {l : List An} {v : Value} {i : Nat} {c : An}, l[i]? = some c → zdj v l.length = [zb9 v] := by
    intro l v i c h
    cases l with
    | nil => simp at h
    | cons => rfl
  cases r with
  | false =>
    simp only [ze7, Option.map_eq_some_iff, Prod.mk.injEq] at h
    obtain ⟨c', hc, rfl, rfl, rfl⟩ := h
    simp only [anB, bl hc]
    refine ⟨by simp, fun k hk => by simp [mem hc k hk], fun hn => ?_⟩
    have h1 := (List.nodup_append.1 hn).1
    have h2 := List.nodup_append.1 h1
    exact ⟨nd hc h2.2.1, fun hb => h2.2.2 _ (by simp) _ (mem hc _ hb) rfl⟩
  | true =>
    cases s with
    | false => simp [ze7] at h
    | true =>
      simp only [ze7, Option.map_eq_some_iff, Prod.mk.injEq] at h
      obtain ⟨c', hc, rfl, rfl, rfl⟩ := h
      simp only [anB, bl hc]
      refine ⟨by simp, fun k hk => by simp [mem hc k hk], fun hn => ?_⟩
      have h1 := (List.nodup_append.1 hn).2.1
      have h2 := List.nodup_append.1 h1
      exact ⟨nd hc h2.2.1, fun hb => h2.2.2 _ (by simp) _ (mem hc _ hb) rfl⟩
theorem zzk {I : Imm} {w : World} {a c : An} {p : Bool × Nat} {b off : Nat} (h : ze7 a p = some (c, b, off)) (hw : anW I w a) : atW w b off (cA c) ∧ anW I w c := by
  rcases a with ⟨s, o, n, x, v, ks, u, ps⟩ | ⟨s0, cs0, c0⟩
  case im => simp [ze7] at h
  obtain ⟨r, k⟩ := p
  simp only [anW] at hw
  cases r with
  | false =>
    simp only [ze7, Option.map_eq_some_iff, Prod.mk.injEq] at h
    obtain ⟨c', hc, rfl, rfl, rfl⟩ := h
    obtain ⟨_, h2, h3⟩ := zda hw.1.2 hc
    rw [Nat.zero_add] at h2
    exact ⟨h2, h3⟩
  | true =>
    cases s with
    | false => simp [ze7] at h
    | true =>
      simp only [ze7, Option.map_eq_some_iff, Prod.mk.injEq] at h
      obtain ⟨c', hc, rfl, rfl, rfl⟩ := h
      obtain ⟨_, h2, h3⟩ := zda (hw.2 rfl).2 hc
      rw [Nat.zero_add] at h2
      exact ⟨h2, h3⟩
theorem zuy {I : Imm} {w : World} : ∀ {p : zmn} {a : An} {b off : Nat} {a' : An} {b' off' : Nat}, zec a b off p = some (a', b', off') → atW w b off (cA a) → anW I w a → atW w b' off' (cA a') ∧ anW I w a'
  | [], a, b, off, a', b', off', h, h1, h2 => by
    simp only [zec, Option.some.injEq, Prod.mk.injEq] at h
    obtain ⟨rfl, rfl, rfl⟩ := h
    exact ⟨h1, h2⟩
  | q :: r, a, b, off, a', b', off', h, h1, h2 => by
    simp only [zec] at h
    split at h
    · rename_i c b1 off1 hk
      obtain ⟨q1, q2⟩ := zzk hk h2
      exact zuy h q1 q2
    · cases h
theorem zl3 : ∀ {p : zmn} {a : An} {b off : Nat} {a' : An} {b' off' : Nat}, zec a b off p = some (a', b', off') → (p = [] ∧ b' = b ∧ off' = off ∧ a' = a) ∨ (p ≠ [] ∧ b' ∈ anB a)
  | [], a, b, off, a', b', off', h => by
    simp only [zec, Option.some.injEq, Prod.mk.injEq] at h
    obtain ⟨rfl, rfl, rfl⟩ := h
    exact .inl ⟨rfl, rfl, rfl, rfl⟩
  | q :: r, a, b, off, a', b', off', h => by
    simp only [zec] at h
    split at h
    · rename_i c b1 off1 hk
      obtain ⟨k1, k2, _⟩ := zhn hk
      refine .inr ⟨by simp, ?_⟩
      rcases zl3 h with ⟨_, rfl, _⟩ | ⟨_, h⟩
      · exact k1
      · exact k2 _ h
    · cases h
theorem ynd (a c : An) (p : Bool × Nat) : cA (zww a p c) = cA a := by
  rcases a with ⟨s, o, n, x, v, ks, u, ps⟩ | ⟨s0, cs0, c0⟩
  case im => rfl
  obtain ⟨r, k⟩ := p
  cases r <;> cases s <;> rfl
theorem zvp {I : Imm} {w w' : World} {s : Bool} {b b' off' sz : Nat} (hu : Upd w w' b' off' sz) {c c' : An} : ∀ {l : List An} {i k : Nat}, zfa I w s b i l → l[k]? = some c → zcu c' = s → atW w' b ((i + k) * szA s) (cA c') → anW I w' c' →
    (∀ x ∈ zdv l, x = b' → x ∈ anB c) → (zdv l).Nodup → (b' = b → off' = (i + k) * szA s ∧ sz = szA s) → zfa I w' s b i (l.set k c')
  | [], i, k, _, h, _, _, _, _, _, _ => by simp at h
  | y :: r, i, 0, hw, h, h1, h2, h3, h4, h5, h6 => by
    simp at h; subst h
    simp only [zfa] at hw
    simp only [List.set_cons_zero, zfa]
    simp only [zdv] at h4 h5
    have hnd := List.nodup_append.1 h5
    refine ⟨⟨h1, h2, h3⟩, ?_⟩
    have hne : ∀ x ∈ zdv r, x ≠ b' := fun x hx e => by
      subst e
      exact hnd.2.2 x (h4 x (List.mem_append_right _ hx) rfl) x hx rfl
    have : ∀ {l : List An} {j : Nat}, i + 1 ≤ j → (∀ x ∈ zdv l, x ≠ b') → zfa I w s b j l → zfa I w' s b j l := by
      intro l
      induction l with
      | nil => intro j _ _ _; simp [zfa]
      | cons z q ih =>
        intro j hj hb hw
        simp only [zfa] at hw ⊢
        simp only [zdv, List.mem_append] at hb
        refine ⟨⟨hw.1.1, hu.at hw.1.2.1 fun e => ?_, zjk (fun k hk => hu.other k (hb k (.inl hk))) hw.1.2.2⟩, ih (by omega) (fun x hx => hb x (.inr hx)) hw.2⟩
        obtain ⟨e1, e2⟩ := h6 e.symm
        right
        rw [e1, e2, Nat.add_zero, ← Nat.succ_mul]
        exact Nat.mul_le_mul_right _ hj
    exact this (Nat.le_refl _) hne hw.2
  | y :: r, i, k + 1, hw, h, h1, h2, h3, h4, h5, h6 => by
    simp only [zfa] at hw
    simp only [List.set_cons_succ, zfa]
    simp only [zdv] at h4 h5
    have hnd := List.nodup_append.1 h5
    have hc : r[k]? = some c := by simpa using h
    have mem : ∀ x ∈ anB c, x ∈ zdv r := by
      have : ∀ {l : List An} {i : Nat}, l[i]? = some c → ∀ k ∈ anB c, k ∈ zdv l := by
        intro l
        induction l with
        | nil => intro i h; simp at h
        | cons y r ih =>
          intro i h k hk
          simp only [zdv, List.mem_append]
          cases i with
          | zero => simp at h; subst h; exact .inl hk
          | succ i => exact .inr (ih (by simpa using h) k hk)
      exact this hc
    refine ⟨⟨hw.1.1, hu.at hw.1.2.1 fun e => ?_, zjk (fun x hx => hu.other x fun e => ?_) hw.1.2.2⟩, zvp hu hw.2 hc h1 (by rwa [show i + 1 + k = i + (k + 1) by omega]) h3 (fun x hx e => h4 x (List.mem_append_right _ hx) e) hnd.2.1 (fun e => by rw [show i + 1 + k = i + (k + 1) by omega]; exact h6 e)⟩
    · obtain ⟨e1, e2⟩ := h6 e.symm
      left
      rw [e1, zrn hw.1.2.2, hw.1.1, ← Nat.succ_mul]
      exact Nat.mul_le_mul_right _ (by omega)
    · subst e
      exact hnd.2.2 x hx x (mem x (h4 x (List.mem_append_left _ hx) rfl)) rfl
theorem zt8 {I : Imm} {w w' : World} : ∀ {p : zmn} {a : An} {b off : Nat} {a' : An} {b' off' : Nat} {a2 : An}, zec a b off p = some (a', b', off') → Upd w w' b' off' (szA (zcu a')) → zcu a2 = zcu a' → atW w' b' off' (cA a2) → anW I w' a2 →
    atW w b off (cA a) → anW I w a → b ∉ anB a → (anB a).Nodup → atW w' b off (cA (zmx a p a2)) ∧ anW I w' (zmx a p a2) ∧ zcu (zmx a p a2) = zcu a
  | [], a, b, off, a', b', off', a2, h, hu, hs, h1, h2, _, _, _, _ => by
    simp only [zec, Option.some.injEq, Prod.mk.injEq] at h
    obtain ⟨rfl, rfl, rfl⟩ := h
    exact ⟨h1, h2, hs⟩
  | q :: r, a, b, off, a', b', off', a2, h, hu, hs, h1, h2, h3, h4, hb, hnd => by
    have hblk := zl3 h
    simp only [zec] at h
    simp only [zmx]
    split at h
    · rename_i c b1 off1 hk
      obtain ⟨k1, k2, k3⟩ := zhn hk
      obtain ⟨k4, k5⟩ := k3 hnd
      obtain ⟨k6, k7⟩ := zzk hk h4
      obtain ⟨i1, i2, i3⟩ := zt8 h hu hs h1 h2 k6 k7 k5 k4
      have hbb : b' ∈ anB a := by
        rcases hblk with ⟨h, _⟩ | ⟨_, h⟩
        · cases h
        · exact h
      have hne : b ≠ b' := fun e => hb (e ▸ hbb)
      rw [ynd]
      refine ⟨hu.at h3 fun e => absurd e hne, ?_, ?_⟩
      · rcases a with ⟨s, o, n, x, v, ks, u, ps⟩ | ⟨s0, cs0, c0⟩
        case im => simp [ze7] at hk
        obtain ⟨rr, k⟩ := q
        have hin : b' = b1 ∨ b' ∈ anB c := by
          rcases zl3 h with ⟨_, e, _⟩ | ⟨_, h⟩
          · exact .inl e
          · exact .inr h
        have hoff : b' = b1 → off' = off1 ∧ a' = c := fun e => by
          rcases zl3 h with ⟨_, _, e1, e2⟩ | ⟨_, h⟩
          · exact ⟨e1, e2⟩
          · exact absurd (e ▸ h) k5
        simp only [anW] at h4
        simp only [anB] at hnd
        cases rr with
        | false =>
          simp only [ze7, Option.map_eq_some_iff, Prod.mk.injEq] at hk
          obtain ⟨c', hc, rfl, rfl, rfl⟩ := hk
          simp only [zww, anW, List.length_set]
          have hn1 := List.nodup_append.1 hnd
          have hn2 := List.nodup_append.1 hn1.1
          have hbl : zdj v ks.length = [zb9 v] := by cases ks with | nil => simp at hc | cons => rfl
          have hsrt : zcu c' = s := (zda h4.1.2 hc).1
          have hmem : ∀ x ∈ anB c', x ∈ zdv ks := fun x hx => by
            have : ∀ {l : List An} {i : Nat}, l[i]? = some c' → ∀ k ∈ anB c', k ∈ zdv l := by
              intro l
              induction l with
              | nil => intro i h; simp at h
              | cons y r ih =>
                intro i h k hk
                simp only [zdv, List.mem_append]
                cases i with
                | zero => simp at h; subst h; exact .inl hk
                | succ i => exact .inr (ih (by simpa using h) k hk)
            exact this hc x hx
          have hb1n : zb9 v ∉ zdv ks := fun h => hn2.2.2 _ (by rw [hbl]; simp) _ h rfl
          refine ⟨⟨hu.row h4.1.1, ?_⟩, fun hs => ?_⟩
          · refine zvp hu h4.1.2 hc (i3.trans hsrt) (by rw [Nat.zero_add]; exact i1) i2 (fun x hx e => ?_) hn2.2.1 (fun e => ?_)
            · rcases hin with e2 | h
              · exact absurd (by rw [← e2, ← e]; exact hx) hb1n
              · rw [e]; exact h
            · rw [Nat.zero_add]
              obtain ⟨e1, e2⟩ := hoff e
              exact ⟨e1, by rw [e2, hsrt]⟩
          · subst hs
            obtain ⟨m1, m2⟩ := h4.2 rfl
            have hno : ∀ x ∈ zdj u ps.length ++ zdv ps, x ≠ b' := fun x hx e => by
              subst e
              refine hn1.2.2 x ?_ x hx rfl
              rcases hin with e2 | h
              · rw [e2, hbl]; simp
              · simp [hmem _ h]
            refine ⟨hu.row m1, zfo (fun hne => hu.other _ fun e => ?_) (fun x hx => hu.other x fun e => hno x (by simp [hx]) e) m2⟩
            exact hno _ (by cases ps with | nil => exact absurd rfl hne | cons => simp [zdj]) e
        | true =>
          cases s with
          | false => simp [ze7] at hk
          | true =>
            simp only [ze7, Option.map_eq_some_iff, Prod.mk.injEq] at hk
            obtain ⟨c', hc, rfl, rfl, rfl⟩ := hk
            simp only [zww, anW, List.length_set]
            have hn1 := List.nodup_append.1 hnd
            have hn2 := List.nodup_append.1 hn1.2.1
            have hbl : zdj u ps.length = [zb9 u] := by cases ps with | nil => simp at hc | cons => rfl
            obtain ⟨m1, m2⟩ := h4.2 rfl
            have hsrt : zcu c' = false := (zda m2 hc).1
            have hmem : ∀ x ∈ anB c', x ∈ zdv ps := fun x hx => by
              have : ∀ {l : List An} {i : Nat}, l[i]? = some c' → ∀ k ∈ anB c', k ∈ zdv l := by
                intro l
                induction l with
                | nil => intro i h; simp at h
                | cons y r ih =>
                  intro i h k hk
                  simp only [zdv, List.mem_append]
                  cases i with
                  | zero => simp at h; subst h; exact .inl hk
                  | succ i => exact .inr (ih (by simpa using h) k hk)
              exact this hc x hx
            have hb1n : zb9 u ∉ zdv ps := fun h => hn2.2.2 _ (by rw [hbl]; simp) _ h rfl
            have hno : ∀ x ∈ zdj v ks.length ++ zdv ks, x ≠ b' := fun x hx e => by
              subst e
              refine hn1.2.2 x hx x ?_ rfl
              rcases hin with e2 | h
              · rw [e2, hbl]; simp
              · simp [hmem _ h]
            refine ⟨⟨hu.row h4.1.1, zfo (fun hne => hu.other _ fun e => hno _ (by cases ks with | nil => exact absurd rfl hne | cons => simp [zdj]) e) (fun x hx => hu.other x fun e => hno x (by simp [hx]) e) h4.1.2⟩, fun _ => ⟨hu.row m1, ?_⟩⟩
            refine zvp hu m2 hc (i3.trans hsrt) (by rw [Nat.zero_add]; exact i1) i2 (fun x hx e => ?_) hn2.2.1 (fun e => ?_)
            · rcases hin with e2 | h
              · exact absurd (by rw [← e2, ← e]; exact hx) hb1n
              · rw [e]; exact h
            · rw [Nat.zero_add]
              obtain ⟨e1, e2⟩ := hoff e
              exact ⟨e1, by rw [e2, hsrt]⟩
      · rcases a with ⟨s, o, n, x, v, ks, u, ps⟩ | ⟨s0, cs0, c0⟩
        case im => rfl
        obtain ⟨rr, k⟩ := q
        cases rr <;> rfl
    · cases h
end Go.Hk

/- Contracts of term and hearthref01: the part at a path. -/
namespace Go.Hk
open Go.Proofs
def zyc (l : List Int) : List (List V) := l.map fun x => [.int .i64 x]
@[simp] theorem dInts_length (l : List Int) : (zyc l).length = l.length := by simp [zyc]
def zTm : Tm := .mk 0 0 [] [] []
def yms : Tm → Int → Option Tm
  | .mk _ _ _ ks _, k => if 0 ≤ k then ks[k.toNat]? else none
def zgh : Tm → List Int → Option Tm
  | t, [] => some t
  | t, k :: r => match yms t k with
    | some c => zgh c r
    | none => none
set_option maxRecDepth 100000 in
set_option maxHeartbeats 1000000 in
theorem yj0 (t : Tm) (path : List Int) (hw : zj8 t) : zax Tryz.prog 54 [.agg (dTmc t), .sl (zyc path)] (.tup [.agg (dTmc ((zgh t path).getD zTm)), .bool (zgh t path).isSome]) := by
  refine zaf zca Tryz.func54 (by decide +kernel) rfl [1, 2, 3, 4] rfl rfl ?_
  refine qg [] rfl (by simp) ?_
  refine zak (fun y : Tm × List Int => [(2, .ref 1 0), (4, .ref 2 0), (1, .imm (.sl (zyc y.2))), (5, .imm (.bool false))])
    (fun y => [(1, some (.immb 26 5 (dTmc y.1))), (2, some (.cells 26 5 [.imm (.int .i64 0), .imm (.int .i64 0), .imm (.str []), .nils, .nils]))]) [3, 4] (fun y => y.2.length) (fun y => zgh y.1 y.2 = zgh t path ∧ zj8 y.1) (t, path)
    ⟨rfl, hw⟩ ⟨rfl, rfl, rfl, rfl, trivial⟩ ⟨rfl, rfl, trivial⟩ rfl fun y hi ih => ?_
  obtain ⟨t1, p1⟩ := y
  obtain ⟨hi1, hi2⟩ := hi
  simp only at hi1 hi2
  refine qd [] rfl (by simp) ?_
  refine zab rfl (fun h => ?_) (fun h => ?_)
  · simp at h
    cases p1 with
    | nil => simp at h
    | cons p r =>
      obtain ⟨o, n, x, ks, ps⟩ := t1
      have hks := hi2.1
      refine qd [] rfl (by simp) ?_
      refine zak (fun i : Nat => [(14, .imm (.int .i64 i)), (13, .imm (.int .i64 ks.length)), (12, .imm (.sl (zdg ks))), (2, .ref 1 0), (4, .ref 2 0), (1, .imm (.sl (zyc (p :: r)))), (5, .imm (.bool false))])
        (fun _ => [(1, some (.immb 26 5 (dTmc (.mk o n x ks ps)))), (2, some (.cells 26 5 [.imm (.int .i64 0), .imm (.int .i64 0), .imm (.str []), .nils, .nils]))]) [3, 4] (fun i => ks.length - i) (fun i => i ≤ ks.length ∧ ∀ j : Nat, j < i → (j : Int) ≠ p) 0
        ⟨Nat.zero_le _, fun j h => by omega⟩ ⟨rfl, zcr (by simp), rfl, rfl, rfl, rfl, rfl, trivial⟩ ⟨rfl, rfl, trivial⟩ rfl fun i hj ih2 => ?_
      obtain ⟨hj1, hj2⟩ := hj
      refine qd [] rfl (by simp) ?_
      refine zab rfl (fun h => ?_) (fun h => ?_)
      · simp at h
        obtain ⟨k, hk⟩ := zal h
        refine qd [] rfl (by simp) ?_
        refine qi_ rfl (c := dTmc k) (fun _ => ⟨by simp, by simpa using zch hk, by simp⟩) (by simp) ?_
        refine qg [] rfl (by simp) ?_
        refine qi_ rfl (c := [.int .i64 p]) (fun _ => ⟨by simp, by simp [zyc], rfl⟩) (by simp) ?_
        refine qg [] rfl (by simp) ?_
        refine zab rfl (fun h2 => ?_) (fun h2 => ?_)
        · have e : (i : Int) = p := by simpa using h2
          subst e
          refine qd [] rfl (by refine ⟨rfl, ?_⟩; simp [zbw, zyc] <;> omega) ?_
          have hkid : yms (.mk o n x ks ps) (i : Int) = some k := by simp [yms, hk]
          refine zae (ih (k, r) (by simp) ⟨?_, zfr hi2.2.2.2 (List.mem_of_getElem? hk)⟩) ⟨rfl, rfl, rfl, rfl, trivial⟩ ⟨rfl, rfl, trivial⟩ rfl
          rw [← hi1]
          simp only [zgh, hkid]
        · have e : (i : Int) ≠ p := by simpa using h2
          refine qd [] rfl (by simp) ?_
          exact zae (ih2 (i + 1) (by omega) ⟨by omega, fun j hlt => by
            by_cases hji : j = i
            · rw [hji]; exact e
            · exact hj2 j (by omega)⟩) ⟨zcr (w64 (by omega) (by omega)), rfl, rfl, rfl, rfl, rfl, rfl, trivial⟩ ⟨rfl, rfl, trivial⟩ rfl
      · simp at h
        refine za2 rfl ?_
        refine qd [] rfl (by simp) ?_
        have hkid : yms (.mk o n x ks ps) p = none := by
          simp only [yms]
          by_cases h0 : 0 ≤ p
          · rw [if_pos h0]
            rw [List.getElem?_eq_none_iff]
            by_cases hlt : p.toNat < ks.length
            · exact absurd (by omega) (hj2 p.toNat (by omega))
            · omega
          · rw [if_neg h0]
        have e : zgh t path = none := by rw [← hi1]; simp only [zgh, hkid]
        rw [e]
        exact zaa ⟨_, rfl, rfl, trivial⟩
  · simp at h
    have hp : p1 = [] := by
      cases p1 with
      | nil => rfl
      | cons => simp at h
    subst hp
    refine za2 rfl ?_
    refine qd [] rfl (by simp) ?_
    have e : zgh t path = some t1 := by rw [← hi1]; rfl
    rw [e]
    exact zaa ⟨_, rfl, tV rfl, trivial⟩
mutual
theorem yan : ∀ p : Ty, zbk p ≤ 1000000 → zr4 p
  | .mk s n x ps, h => by
    simp only [zbk] at h
    have h1 := zv4 ps (by omega)
    exact ⟨by have := h1.1; omega, h1.2⟩
theorem zv4 : ∀ l : List Ty, zao l ≤ 1000000 → l.length ≤ zao l ∧ zsf l
  | [], _ => ⟨by simp [zao], trivial⟩
  | p :: r, h => by
    simp only [zao] at h
    have h1 := yan p (by omega)
    have h2 := zv4 r (by omega)
    have h3 : 1 ≤ zbk p := by obtain ⟨_, _, _, _⟩ := p; simp only [zbk]; omega
    exact ⟨by have := h2.1; simp only [List.length_cons, zao]; omega, h1, h2.2⟩
end
theorem zxd {op n : Int} {x : Str} {k p : Nat} (h : za9 op n x k p = true) : p ≤ 5 := by
  have sp : ∀ {n : Int} {x : Str} {p : Nat} {a b : Bool}, zbe n x p a b false = true → p ≤ 5 := by
    intro n x p a b h
    simp only [zbe, Bool.false_or, Bool.and_eq_true, beq_iff_eq] at h
    have := h.2
    omega
  unfold za9 at h
  by_cases h15 : op = 15
  · subst h15
    simp [inI] at h
    omega
  · by_cases e0 : op = 1
    · rw [if_pos e0] at h; simp only [Bool.and_eq_true] at h; first | exact sp h.2 | exact sp h.1.2
    rw [if_neg e0] at h
    by_cases e1 : op = 2
    · rw [if_pos e1] at h; simp only [Bool.and_eq_true] at h; first | exact sp h.2 | exact sp h.1.2
    rw [if_neg e1] at h
    by_cases e2 : op = 3 ∨ op = 21 ∨ op = 25 ∨ op = 28
    · rw [if_pos e2] at h; simp only [Bool.and_eq_true] at h; first | exact sp h.2 | exact sp h.1.2
    rw [if_neg e2] at h
    by_cases e3 : op = 4
    · rw [if_pos e3] at h; simp only [Bool.and_eq_true] at h; first | exact sp h.2 | exact sp h.1.2
    rw [if_neg e3] at h
    by_cases e4 : op = 5 ∨ op = 27
    · rw [if_pos e4] at h; simp only [Bool.and_eq_true] at h; first | exact sp h.2 | exact sp h.1.2
    rw [if_neg e4] at h
    by_cases e5 : op = 7
    · rw [if_pos e5] at h; simp only [Bool.and_eq_true] at h; first | exact sp h.2 | exact sp h.1.2
    rw [if_neg e5] at h
    by_cases e6 : op = 8
    · rw [if_pos e6] at h; simp only [Bool.and_eq_true] at h; first | exact sp h.2 | exact sp h.1.2
    rw [if_neg e6] at h
    by_cases e7 : op = 14
    · rw [if_pos e7] at h; simp only [Bool.and_eq_true] at h; first | exact sp h.2 | exact sp h.1.2
    rw [if_neg e7] at h
    rw [if_neg h15] at h
    by_cases e9 : op = 16 ∨ op = 17 ∨ op = 19 ∨ op = 20 ∨ op = 23 ∨ op = 26
    · rw [if_pos e9] at h; simp only [Bool.and_eq_true] at h; first | exact sp h.2 | exact sp h.1.2
    rw [if_neg e9] at h
    by_cases e10 : op = 24
    · rw [if_pos e10] at h; simp only [Bool.and_eq_true] at h; first | exact sp h.2 | exact sp h.1.2
    rw [if_neg e10] at h
    by_cases e11 : op = 6 ∨ op = 9 ∨ op = 10 ∨ op = 11 ∨ op = 12 ∨ op = 13 ∨ op = 18 ∨ op = 22
    · rw [if_pos e11] at h; simp only [Bool.and_eq_true] at h; first | exact sp h.2 | exact sp h.1.2
    rw [if_neg e11] at h
    cases h
mutual
theorem zt7 : ∀ t : Tm, zag t = true → zcx t ≤ 1000000 → zj8 t
  | .mk op n x ks ps, h, hc => by
    simp only [zag, Bool.and_eq_true] at h
    obtain ⟨⟨h1, h2⟩, h3⟩ := h
    simp only [zcx] at hc
    have hl := zqk ks
    have hp := zxd h1
    refine ⟨by omega, by omega, fun p hp => ?_, yam ks h3 (by omega)⟩
    have := zxb (List.all_eq_true.1 h2 p hp)
    exact yan p (by omega)
theorem yam : ∀ ts : List Tm, zas ts = true → zco ts ≤ 1000000 → zpa ts
  | [], _, _ => trivial
  | t :: r, h, hc => by
    simp only [zas, Bool.and_eq_true] at h
    simp only [zco] at hc
    exact ⟨zt7 t h.1 (by omega), yam r h.2 (by omega)⟩
end
theorem yj3 {t c : Tm} {k : Int} (h : yms t k = some c) : ∃ o n x ks ps, t = .mk o n x ks ps ∧ c ∈ ks := by
  obtain ⟨o, n, x, ks, ps⟩ := t
  refine ⟨o, n, x, ks, ps, rfl, ?_⟩
  simp only [yms] at h
  split at h
  · exact List.mem_of_getElem? h
  · cases h
theorem zn6 : ∀ {ts : List Tm} {t : Tm}, zas ts = true → t ∈ ts → zag t = true
  | [], _, _, h => by cases h
  | x :: r, t, hn, h => by
    simp only [zas, Bool.and_eq_true] at hn
    rcases List.mem_cons.1 h with rfl | h
    · exact hn.1
    · exact zn6 hn.2 h
theorem ztf : ∀ {path : List Int} {t r : Tm}, zgh t path = some r → zag t = true → zag r = true ∧ zcx r ≤ zcx t
  | [], t, r, h, hn => by
    simp only [zgh, Option.some.injEq] at h
    subst h
    exact ⟨hn, Nat.le_refl _⟩
  | k :: p, t, r, h, hn => by
    simp only [zgh] at h
    split at h
    · rename_i c hk
      obtain ⟨o, n, x, ks, ps, rfl, hm⟩ := yj3 hk
      simp only [zag, Bool.and_eq_true] at hn
      have h1 := ztf h (zn6 hn.2 hm)
      have h2 := zmi hm
      exact ⟨h1.1, by simp only [zcx]; omega⟩
    · cases h
theorem zfq {t : Tm} (h : za6 t = true) : zj8 t := by
  obtain ⟨_, _, _, h4⟩ := zcl t h
  simp only [za6, Bool.and_eq_true] at h
  exact zt7 t h.2 (by omega)
end Go.Hk

/- Contracts of hearthref01: terms that are the same, parts, parts that are put. Contract of term.At. -/
namespace Go.Hk
open Go.Proofs
mutual
def zys : Ty → Ty → Bool
  | .mk s n x ps, .mk s' n' x' ps' => s == s' && n == n' && x == x' && ze4 ps ps'
def ze4 : List Ty → List Ty → Bool
  | [], [] => true
  | a :: r, b :: q => zys a b && ze4 r q
  | _, _ => false
end
mutual
theorem ykl : ∀ a b : Ty, zys a b = true ↔ a = b
  | .mk s n x ps, .mk s' n' x' ps' => by
    simp only [zys, Bool.and_eq_true, beq_iff_eq, Ty.mk.injEq, zmf ps ps', and_assoc]
theorem zmf : ∀ a b : List Ty, ze4 a b = true ↔ a = b
  | [], [] => by simp [ze4]
  | a :: r, b :: q => by simp only [ze4, Bool.and_eq_true, ykl a b, zmf r q, List.cons.injEq]
  | [], _ :: _ => by simp [ze4]
  | _ :: _, [] => by simp [ze4]
end
mutual
def zv2 : Tm → Tm → Bool
  | .mk o n x ks ps, .mk o' n' x' ks' ps' => o == o' && n == n' && x == x' && ze4 ps ps' && zhs ks ks'
def zhs : List Tm → List Tm → Bool
  | [], [] => true
  | a :: r, b :: q => zv2 a b && zhs r q
  | _, _ => false
end
mutual
theorem zvd : ∀ a b : Tm, zv2 a b = true ↔ a = b
  | .mk o n x ks ps, .mk o' n' x' ks' ps' => by
    simp only [zv2, Bool.and_eq_true, beq_iff_eq, Tm.mk.injEq, zmf ps ps', zq4 ks ks', and_assoc]
    constructor
    · rintro ⟨a, b, c, d, e⟩; exact ⟨a, b, c, e, d⟩
    · rintro ⟨a, b, c, d, e⟩; exact ⟨a, b, c, e, d⟩
theorem zq4 : ∀ a b : List Tm, zhs a b = true ↔ a = b
  | [], [] => by simp [zhs]
  | a :: r, b :: q => by simp only [zhs, Bool.and_eq_true, zvd a b, zq4 r q, List.cons.injEq]
  | [], _ :: _ => by simp [zhs]
  | _ :: _, [] => by simp [zhs]
end
theorem zq3 {a b : List Ty} (h : a.length ≠ b.length) : ze4 a b = false := by
  cases he : ze4 a b with
  | false => rfl
  | true => exact absurd (congrArg List.length ((zmf a b).1 he)) h
theorem zx5 {a b : List Tm} (h : a.length ≠ b.length) : zhs a b = false := by
  cases he : zhs a b with
  | false => rfl
  | true => exact absurd (congrArg List.length ((zq4 a b).1 he)) h
set_option maxRecDepth 100000 in
theorem zt4 : ∀ a b : Ty, zr4 a → zax Tryz.prog 46 [.agg (zb5 a), .agg (zb5 b)] (.bool (zys a b))
  | .mk s n x ps, .mk s' n' x' qs, hw => by
    obtain ⟨hw1, hw2⟩ := hw
    refine zaf zca Tryz.func46 (by decide +kernel) rfl [1, 2, 3] rfl rfl ?_
    refine qg [] rfl (by simp [zai]) ?_
    refine zab rfl (fun h => ?_) (fun h => ?_)
    · refine qd [] rfl (by simp) ?_
      refine zaa ⟨_, rfl, tV (congrArg _ ?_), trivial⟩
      symm
      simp only [zys]
      by_cases hl : ps.length = qs.length
      · simp [hl] at h
        cases he : ze4 ps qs <;> grind
      · rw [zq3 hl, Bool.and_false]
    have hl : s = s' ∧ n = n' ∧ x = x' ∧ ps.length = qs.length := by
      simp at h
      grind
    obtain ⟨rfl, rfl, rfl, hl⟩ := hl
    refine qd [] rfl (by simp) ?_
    refine zak (fun i : Nat => [(5, .imm (.int .i64 i)), (2, .ref 1 0), (3, .ref 2 0)]) (fun _ => [(1, some (.immb 58 4 (zb5 (.mk s n x ps)))), (2, some (.immb 58 4 (zb5 (.mk s n x qs))))]) [3] (fun i => ps.length - i) (fun i => i ≤ ps.length ∧ ze4 ps qs = ze4 (ps.drop i) (qs.drop i)) 0
      ⟨Nat.zero_le _, rfl⟩ ⟨rfl, rfl, rfl, trivial⟩ ⟨rfl, rfl, trivial⟩ rfl fun i hi ih => ?_
    obtain ⟨hi1, hi2⟩ := hi
    refine qd [] rfl (by simp) ?_
    refine zab rfl (fun h1 => ?_) (fun h1 => ?_)
    · simp at h1
      obtain ⟨p, hp⟩ := zal h1
      obtain ⟨q, hq⟩ := zal (l := qs) (i := i) (by omega)
      rw [zaq hp, zaq hq] at hi2
      simp only [ze4] at hi2
      refine qd [] rfl (by simp) ?_
      refine qi_ rfl (c := zb5 p) (fun _ => ⟨by simp, by simpa using zb8 hp, by simp⟩) (by simp) ?_
      refine qg [] rfl (by simp) ?_
      refine qi_ rfl (c := zb5 q) (fun _ => ⟨by simp, by simpa using zb8 hq, by simp⟩) (by simp) ?_
      refine qg [] rfl (by simp) ?_
      refine zac rfl (fun _ => zt4 p q (zjm hw2 (List.mem_of_getElem? hp))) (by simp) ?_
      refine qg [] rfl (by simp; rfl) ?_
      refine zab rfl (fun h2 => ?_) (fun h2 => ?_)
      · refine qd [] rfl (by simp) ?_
        refine zaa ⟨_, rfl, tV (congrArg _ ?_), trivial⟩
        have : zys p q = false := by simpa using h2
        simp [zys, hi2, this]
      · refine qd [] rfl (by simp) ?_
        have : zys p q = true := by simpa using h2
        rw [this, Bool.true_and] at hi2
        exact zae (ih (i + 1) (by omega) ⟨by omega, hi2⟩) ⟨zcr (w64 (by omega) (by omega)), rfl, rfl, trivial⟩ ⟨rfl, rfl, trivial⟩ rfl
    · simp at h1
      rw [List.drop_eq_nil_of_le (by omega), List.drop_eq_nil_of_le (by omega)] at hi2
      refine za2 rfl ?_
      refine qd [] rfl (by simp) ?_
      refine zaa ⟨_, rfl, tV (congrArg _ ?_), trivial⟩
      simp [zys, hi2, ze4]
termination_by a => SizeOf.sizeOf a
decreasing_by
  all_goals
    have := List.sizeOf_lt_of_mem (List.mem_of_getElem? hp)
    simp_wf
    omega
set_option maxRecDepth 100000 in
set_option maxHeartbeats 1000000 in
theorem yie : ∀ a b : Tm, zj8 a → zax Tryz.prog 14 [.agg (dTmc a), .agg (dTmc b)] (.bool (zv2 a b))
  | .mk s n x ks ps, .mk s' n' x' js qs, hw => by
    obtain ⟨hw1, hw2, hw3, hw4⟩ := hw
    refine zaf zca Tryz.func14 (by decide +kernel) rfl [1, 2, 3] rfl rfl ?_
    refine qg [] rfl (by simp [zai]) ?_
    refine zab rfl (fun h => ?_) (fun h => ?_)
    · refine qd [] rfl (by simp) ?_
      refine zaa ⟨_, rfl, tV (congrArg _ ?_), trivial⟩
      symm
      simp only [zv2]
      by_cases hl : ps.length = qs.length
      · by_cases hk : ks.length = js.length
        · simp [hl, hk] at h
          cases he : ze4 ps qs <;> cases he2 : zhs ks js <;> grind
        · rw [zx5 hk, Bool.and_false]
      · rw [zq3 hl, Bool.and_false, Bool.false_and]
    have hl : s = s' ∧ n = n' ∧ x = x' ∧ ks.length = js.length ∧ ps.length = qs.length := by
      simp at h
      grind
    clear h
    obtain ⟨rfl, rfl, rfl, hk, hl⟩ := hl
    refine qd [] rfl (by simp) ?_
    refine zak (fun i : Nat => [(5, .imm (.int .i64 i)), (2, .ref 1 0), (3, .ref 2 0)]) (fun _ => [(1, some (.immb 26 5 (dTmc (.mk s n x ks ps)))), (2, some (.immb 26 5 (dTmc (.mk s n x js qs))))]) [3] (fun i => ps.length - i) (fun i => i ≤ ps.length ∧ ze4 ps qs = ze4 (ps.drop i) (qs.drop i)) 0
      ⟨Nat.zero_le _, rfl⟩ ⟨rfl, rfl, rfl, trivial⟩ ⟨rfl, rfl, trivial⟩ rfl fun i hi ih => ?_
    obtain ⟨hi1, hi2⟩ := hi
    refine qd [] rfl (by simp) ?_
    refine zab rfl (fun h1 => ?_) (fun h1 => ?_)
    · simp at h1
      obtain ⟨p, hp⟩ := zal h1
      obtain ⟨q, hq⟩ := zal (l := qs) (i := i) (by omega)
      rw [zaq hp, zaq hq] at hi2
      simp only [ze4] at hi2
      refine qd [] rfl (by simp) ?_
      refine qi_ rfl (c := zb5 p) (fun _ => ⟨by simp, by simpa using zb8 hp, by simp⟩) (by simp) ?_
      refine qg [] rfl (by simp) ?_
      refine qi_ rfl (c := zb5 q) (fun _ => ⟨by simp, by simpa using zb8 hq, by simp⟩) (by simp) ?_
      refine qg [] rfl (by simp) ?_
      refine zac rfl (fun _ => zt4 p q (hw3 _ (List.mem_of_getElem? hp))) (by simp) ?_
      refine qg [] rfl (by simp; rfl) ?_
      refine zab rfl (fun h2 => ?_) (fun h2 => ?_)
      · refine qd [] rfl (by simp) ?_
        refine zaa ⟨_, rfl, tV (congrArg _ ?_), trivial⟩
        have : zys p q = false := by simpa using h2
        simp [zv2, hi2, this]
      · refine qd [] rfl (by simp) ?_
        have : zys p q = true := by simpa using h2
        rw [this, Bool.true_and] at hi2
        exact zae (ih (i + 1) (by omega) ⟨by omega, hi2⟩) ⟨zcr (w64 (by omega) (by omega)), rfl, rfl, trivial⟩ ⟨rfl, rfl, trivial⟩ rfl
    simp at h1
    rw [List.drop_eq_nil_of_le (by omega), List.drop_eq_nil_of_le (by omega)] at hi2
    clear ih
    refine za2 rfl ?_
    refine qd [] rfl (by simp) ?_
    refine zak (fun i : Nat => [(6, .imm (.int .i64 i)), (2, .ref 1 0), (3, .ref 2 0)]) (fun _ => [(1, some (.immb 26 5 (dTmc (.mk s n x ks ps)))), (2, some (.immb 26 5 (dTmc (.mk s n x js qs))))]) [3] (fun i => ks.length - i) (fun i => i ≤ ks.length ∧ zhs ks js = zhs (ks.drop i) (js.drop i)) 0
      ⟨Nat.zero_le _, rfl⟩ ⟨rfl, rfl, rfl, trivial⟩ ⟨rfl, rfl, trivial⟩ rfl fun i hj ih => ?_
    obtain ⟨hj1, hj2⟩ := hj
    refine qd [] rfl (by simp) ?_
    refine zab rfl (fun h1 => ?_) (fun h1 => ?_)
    · simp at h1
      obtain ⟨p, hp⟩ := zal h1
      obtain ⟨q, hq⟩ := zal (l := js) (i := i) (by omega)
      rw [zaq hp, zaq hq] at hj2
      simp only [zhs] at hj2
      refine qd [] rfl (by simp) ?_
      refine qi_ rfl (c := dTmc p) (fun _ => ⟨by simp, by simpa using zch hp, by simp⟩) (by simp) ?_
      refine qg [] rfl (by simp) ?_
      refine qi_ rfl (c := dTmc q) (fun _ => ⟨by simp, by simpa using zch hq, by simp⟩) (by simp) ?_
      refine qg [] rfl (by simp) ?_
      refine zac rfl (fun _ => yie p q (zfr hw4 (List.mem_of_getElem? hp))) (by simp) ?_
      refine qg [] rfl (by simp; rfl) ?_
      refine zab rfl (fun h2 => ?_) (fun h2 => ?_)
      · refine qd [] rfl (by simp) ?_
        refine zaa ⟨_, rfl, tV (congrArg _ ?_), trivial⟩
        have : zv2 p q = false := by simpa using h2
        simp [zv2, hj2, this]
      · refine qd [] rfl (by simp) ?_
        have : zv2 p q = true := by simpa using h2
        rw [this, Bool.true_and] at hj2
        exact zae (ih (i + 1) (by omega) ⟨by omega, hj2⟩) ⟨zcr (w64 (by omega) (by omega)), rfl, rfl, trivial⟩ ⟨rfl, rfl, trivial⟩ rfl
    · simp at h1
      rw [List.drop_eq_nil_of_le (by omega), List.drop_eq_nil_of_le (by omega)] at hj2
      refine za2 rfl ?_
      refine qd [] rfl (by simp) ?_
      refine zaa ⟨_, rfl, tV (congrArg _ ?_), trivial⟩
      simp [zv2, hi2, hj2, ze4, zhs]
termination_by a => SizeOf.sizeOf a
decreasing_by
  all_goals
    have := List.sizeOf_lt_of_mem (List.mem_of_getElem? hp)
    simp_wf
    omega
end Go.Hk

/- Contracts: the part at a path (the reference's, and term.At), and the reference's term with another part there. -/
namespace Go.Hk
open Go.Proofs
theorem zje {vs : List Value} {I : Imm} {w : World} {bs : List Nat} {o n : Int} {x : Str} {ks : List Tm} {ps : List Ty} (h : (zvx true (dTmc (.mk o n x ks ps))).P vs I w bs) :
    ∃ y : { y : Value × List An × Value × List An // (vAs y.2.1 = zdg ks ∧ vAs y.2.2.2 = zcf ps) ∧ zcw y.2.1 ∧ zcw y.2.2.2 }, vs = [y.1.1, y.1.2.2.1] ∧ (zyt (.mk true o n x y.1.1 y.1.2.1 y.1.2.2.1 y.1.2.2.2)).P [] I w bs := by
  obtain ⟨o', n', x', v, js, u, qs, ⟨h2, hf⟩, h3, h4⟩ := h
  simp only [vA, dTmc, List.cons.injEq, V.int.injEq, V.str.injEq, V.sl.injEq, true_and, and_true] at h2
  obtain ⟨rfl, rfl, rfl, h5, h6⟩ := h2
  exact ⟨⟨(v, js, u, qs), ⟨h5, h6⟩, hf⟩, h3, h4⟩
theorem zud {o n : Int} {x : Str} {v u : Value} {js qs : List An} {ks : List Tm} {ps : List Ty} (h5 : vAs js = zdg ks) (h6 : vAs qs = zcf ps) {vs : List Value} {I J : Imm} {w : World} {bs : List Nat}
    (h : (zyt (.mk true o n x v js u qs)).P vs I w bs) (hIJ : I.le J) (hJ : ∀ b ∈ bs, J b = w.heap[b]?) (cs : List Value) (hc : RepL J noMu cs [.imm (.int .i64 o), .imm (.int .i64 n), .imm (.str x), .raw v, .raw u]) : RepVL J cs (dTmc (.mk o n x ks ps)) := by
  obtain ⟨h1, _, h3⟩ := h
  have hf := zt2 hIJ h3 (fun k hk => hJ k (by rw [h1]; exact hk))
  have e : cs = cA (.mk true o n x v js u qs) := by
    have hl := hc.1
    match cs, hl with
    | [c0, c1, c2, c3, c4], _ =>
      have e0 := (hc.2 0 _ _ rfl rfl).immInv.intInv
      have e1 := (hc.2 1 _ _ rfl rfl).immInv.intInv
      have e2 := (hc.2 2 _ _ rfl rfl).immInv.strEq
      have e3 := (hc.2 3 _ _ rfl rfl).rawInv
      have e4 := (hc.2 4 _ _ rfl rfl).rawInv
      rw [e0, e1, e2, e3, e4]; rfl
  rw [e]
  simpa [vA, dTmc, h5, h6] using hf
def atR (t : Tm) (path : List Int) : Tm × Int := bif za6 t then (match zgh t path with | some r => (r, 0) | none => (zTm, 2)) else (zTm, 2)
set_option maxRecDepth 100000 in
theorem At_ok (t : Tm) (path : List Int) (h : zei t = za6 t) : zax Tryz.prog 30 [.agg (dTmc t), .sl (zyc path)] (.tup [.agg (dTmc (atR t path).1), .int .i64 (atR t path).2]) := by
  refine zaf zca Tryz.func30 (by decide +kernel) rfl [1, 2, 3, 4, 5] rfl rfl ?_
  refine qg [] rfl (by simp) ?_
  refine zac rfl (fun _ => zfp t) (by simp) ?_
  rw [h]
  cases ht : za6 t with
  | false =>
    refine qg [] rfl (by simp) ?_
    refine zab rfl (fun h => ?_) (fun h => by simp [zzx] at h)
    refine qd [] rfl (by simp) ?_
    have e : atR t path = (zTm, 2) := by simp [atR, ht]
    rw [e]
    exact zaa ⟨_, rfl, tV rfl, trivial⟩
  | true =>
    have hw := zfq ht
    refine qg [] rfl (by simp) ?_
    refine zab rfl (fun h => by simp [zzx] at h) (fun h => ?_)
    refine qd [] rfl (by simp) ?_
    refine zac rfl (fun _ => yj0 t path hw) (by simp) ?_
    cases hl : zgh t path with
    | none =>
      refine qg [] rfl (by simp) ?_
      refine zab rfl (fun h => ?_) (fun h => by simp at h)
      refine qd [] rfl (by simp) ?_
      have e : atR t path = (zTm, 2) := by simp [atR, ht, hl]
      rw [e]
      exact zaa ⟨_, rfl, tV rfl, trivial⟩
    | some r =>
      have hr : zag r = true ∧ zcx r ≤ zcx t := ztf hl (by simp only [za6, Bool.and_eq_true] at ht; exact ht.2)
      have hc := (zcl t ht).2.2.2
      have hwr := zt7 r hr.1 (by omega)
      have e : atR t path = (r, 0) := by simp [atR, ht, hl]
      rw [e]
      obtain ⟨o, n, x, ks, ps⟩ := r
      refine qg [] rfl (by simp) ?_
      refine zab rfl (fun h => by simp at h) (fun h => ?_)
      refine qd [] rfl (by simp) ?_
      refine zar (fr := [4]) [] [(1, 4)] rfl (by simp) (zg6 (.mk o n x ks ps) hwr) trivial rfl rfl rfl rfl ?_
      refine qg [] rfl (by simp) ?_
      refine zgk (ids' := []) 4 5 (fun y : { y : Value × List An × Value × List An // (vAs y.2.1 = zdg ks ∧ vAs y.2.2.2 = zcf ps) ∧ zcw y.2.1 ∧ zcw y.2.2.2 } => [y.1.1, y.1.2.2.1]) (fun y => zyt (.mk true o n x y.1.1 y.1.2.1 y.1.2.2.1 y.1.2.2.2)) rfl (fun vs I w bs h => zje h) fun y => ?_
      obtain ⟨⟨v, js, u, qs⟩, ⟨h5, h6⟩, hf1, hf2⟩ := y
      refine ze5 5 2 (dTmc (.mk o n x ks ps)) rfl rfl (fun vs I J w bs h1 h2 h3 cs hc => zud h5 h6 h1 h2 h3 cs hc) rfl ?_
      exact zaa ⟨_, rfl, tV rfl, trivial⟩
theorem yb5 (l : List Tm) (i : Nat) (t : Tm) : zdg (l.set i t) = (zdg l).set i (dTmc t) := by simp [ze9, List.map_set]
end Go.Hk

/- Contract of term.Put. -/
namespace Go.Hk
open Go.Proofs
def zid (b : Nat) (a : An) : Asn where
  P := fun _ I w bs => bs = b :: anB a ∧ bs.Nodup ∧ zcu a = true ∧ (∃ cur, w.heap[b]? = some (.cells cur 26 (0, 0)) ∧ cur.size = 5) ∧ atW w b 0 (cA a) ∧ anW I w a
  mono := fun h ⟨h1, h2, h3, h4, h5, h6⟩ => ⟨h1, h2, h3, h4, h5, zvr h h6⟩
  loc := fun h ⟨h1, h2, h3, ⟨cur, h4, h5⟩, h6, h7⟩ => ⟨h1, h2, h3, ⟨cur, (h b (by simp [h1])).trans h4, h5⟩, zru (h b (by simp [h1])) h6, zjk (fun k hk => h k (by simp [h1, hk])) h7⟩
end Go.Hk

/- Contract of term.Put: a term with another part at a path. -/
namespace Go.Hk
open Go.Proofs
theorem zyv {l : List An} {i : Nat} {a : An} (h : l[i]? = some a) : (vAs l)[i]? = some (vA a) := by simp [zgf, h]
theorem zn5 : ∀ {l : List Tm} {i : Nat} {c : Tm}, zas l = true → zag c = true → zas (l.set i c) = true
  | [], i, c, h, _ => h
  | t :: r, 0, c, h, hc => by
    simp only [zas, Bool.and_eq_true, List.set_cons_zero] at h ⊢
    exact ⟨hc, h.2⟩
  | t :: r, i + 1, c, h, hc => by
    simp only [zas, Bool.and_eq_true, List.set_cons_succ] at h ⊢
    exact ⟨h.1, zn5 h.2 hc⟩
mutual
theorem zs9 : ∀ t : Tm, zag t = true → zhk t = true
  | .mk op n x ks ps, h => by
    simp only [zag, Bool.and_eq_true] at h
    have := zxd h.1.1
    simp only [zhk, yjs op n x ks.length ps (by omega), Bool.and_eq_true]
    exact ⟨h.1, zp7 ks h.2⟩
theorem zp7 : ∀ ts : List Tm, zas ts = true → zfj ts = true
  | [], _ => rfl
  | t :: r, h => by
    simp only [zas, Bool.and_eq_true] at h
    simp only [zfj, Bool.and_eq_true]
    exact ⟨zs9 t h.1, zp7 r h.2⟩
end
theorem zri {t : Tm} (h : zag t = true) : zei t = za6 t := by
  simp only [zei, za6, h, zs9 t h]
end Go.Hk

/- Plain laws of parts: what is put is found, what was there can be put back, nodes add up; parts of formed terms are formed. -/
namespace Go.Hk
open Go.Proofs
mutual
theorem zsj : ∀ (t : Tm) (l d : Int), (0 ≤ za4 t l d ↔ (zcx t : Int) ≤ l ∧ (dpT t : Int) ≤ d) ∧ ((zcx t : Int) ≤ l → (dpT t : Int) ≤ d → za4 t l d = l - zcx t)
  | .mk o n x ks ps, l, d => by
    have h := zpd ks (l - 1) (d - 1) 0
    have hd := zz1 ks 0
    have hk : (0 : Int) ≤ zco ks := by omega
    simp only [za4, zcx, dpT]
    by_cases h0 : l < 1 ∨ d < 1
    · rw [if_pos h0]
      refine ⟨⟨fun h => by omega, fun ⟨h1, h2⟩ => by omega⟩, fun h1 h2 => by omega⟩
    · rw [if_neg h0]
      obtain ⟨h1, h2⟩ := h (by omega) (by omega)
      refine ⟨⟨fun q => ?_, fun ⟨q1, q2⟩ => h1.2 ⟨by omega, by omega⟩⟩, fun q1 q2 => by rw [h2 (by omega) (by omega)]; omega⟩
      obtain ⟨a, b⟩ := h1.1 q
      exact ⟨by omega, by omega⟩
theorem zpd : ∀ (ts : List Tm) (l d : Int) (m : Nat), 0 ≤ l → (m : Int) ≤ d → (0 ≤ zbd ts l d ↔ (zco ts : Int) ≤ l ∧ (zq8 ts m : Int) ≤ d) ∧ ((zco ts : Int) ≤ l → (zq8 ts m : Int) ≤ d → zbd ts l d = l - zco ts)
  | [], l, d, m, h0, hm => by simp [zbd, zco, zq8]; omega
  | t :: r, l, d, m, h0, hm => by
    obtain ⟨t1, t2⟩ := zsj t l d
    simp only [zbd, if_pos h0, zco, zq8]
    have hle := zz1 r (max m (dpT t))
    by_cases hw : 0 ≤ za4 t l d
    · obtain ⟨c1, c2⟩ := t1.1 hw
      have e := t2 c1 c2
      obtain ⟨r1, r2⟩ := zpd r (za4 t l d) d (max m (dpT t)) hw (by omega)
      rw [e] at r1 r2 ⊢
      refine ⟨⟨fun q => ?_, fun ⟨q1, q2⟩ => r1.2 ⟨by omega, q2⟩⟩, fun q1 q2 => by rw [r2 (by omega) q2]; omega⟩
      obtain ⟨a, b⟩ := r1.1 q
      exact ⟨by omega, b⟩
    · have hneg : ∀ (ts : List Tm) (l : Int), l < 0 → zbd ts l d = l := by
        intro ts l hl
        cases ts with
        | nil => rfl
        | cons => simp only [zbd]; rw [if_neg (by omega)]
      rw [hneg r _ (by omega)]
      have hnot : ¬ ((zcx t : Int) ≤ l ∧ (dpT t : Int) ≤ d) := fun h => hw (t1.2 h)
      have hc := zla t
      refine ⟨⟨fun q => absurd q hw, fun ⟨q1, q2⟩ => absurd ⟨by omega, by omega⟩ hnot⟩, fun q1 q2 => absurd ⟨by omega, by omega⟩ hnot⟩
end
theorem zgt (t : Tm) : za6 t = true ↔ zag t = true ∧ zcx t ≤ 60 ∧ dpT t ≤ 14 := by
  simp only [za6, Bool.and_eq_true, decide_eq_true_eq, (zsj t 60 14).1]
  constructor
  · rintro ⟨⟨a, b⟩, c⟩; exact ⟨c, by omega, by omega⟩
  · rintro ⟨a, b, c⟩; exact ⟨⟨by omega, by omega⟩, a⟩
theorem zba {t : Tm} (h : za6 t = true) : zei t = za6 t := zri (by simp only [za6, Bool.and_eq_true] at h; exact h.2)
end Go.Hk

/- The names of a pattern that is zbx, gone through by address (names). -/
namespace Go.Hk
open Go.Proofs
def ptr (b off : Nat) : Value := .pointer (some ⟨b, off, none⟩)
mutual
def okP : An → Prop
  | .mk s _ _ _ v ks _ _ => s = false ∧ ((ks = [] ∧ ∃ a c, v = .slice a 0 c) ∨ ∃ b c, v = .slice (some ⟨b, 0, none⟩) ks.length c) ∧ ks.length ≤ 1000000 ∧ ybh ks
  | .im _ _ _ => False
def ybh : List An → Prop
  | [] => True
  | a :: r => okP a ∧ ybh r
end
mutual
def skW (I : Imm) (w : World) : An → Nat → Nat → Prop
  | .mk _ o _ _ v ks _ _, b, off => zc3 I w b (zdi off 0) [.imm (.int .i64 o)] ∧ zc3 I w b (zdi off 3) [.raw v] ∧ yma I w (zb9 v) 0 ks
  | .im _ _ _, _, _ => False
def yma (I : Imm) (w : World) (b : Nat) : Nat → List An → Prop
  | _, [] => True
  | i, a :: r => skW I w a b (i * 4) ∧ yma I w b (i + 1) r
end
mutual
def zs3 : An → Nat → Nat → List D
  | .mk _ o _ _ v ks _ _, b, off => (if o = 2 then [.raw (ptr b (zdi off 2))] else []) ++ ziv (zb9 v) 0 ks
  | .im _ _ _, _, _ => []
def ziv (b : Nat) : Nat → List An → List D
  | _, [] => []
  | i, a :: r => zs3 a b (i * 4) ++ ziv b (i + 1) r
end
theorem zly : ∀ {l : List An} {i : Nat} {a : An}, ybh l → l[i]? = some a → okP a
  | [], i, a, _, h => by simp at h
  | x :: r, 0, a, hf, h => by simp at h; subst h; exact hf.1
  | x :: r, i + 1, a, hf, h => zly hf.2 (by simpa using h)
theorem yay {I : Imm} {w : World} {b : Nat} : ∀ {l : List An} {i j : Nat} {a : An}, yma I w b i l → l[j]? = some a → skW I w a b ((i + j) * 4)
  | [], i, j, a, _, h => by simp at h
  | x :: r, i, 0, a, hf, h => by simp at h; subst h; exact hf.1
  | x :: r, i, j + 1, a, hf, h => by
    have := yay hf.2 (j := j) (by simpa using h)
    rwa [show i + 1 + j = i + (j + 1) by omega] at this
def Rounds (l : List D) (S : Nat → Bun) (k : Nat) : Prop := ∀ j d, l[j]? = some d → yal Tryz.prog [d] (S (k + j)) true (S (k + j + 1))
theorem Rounds.left {l m : List D} {S : Nat → Bun} {k : Nat} (h : Rounds (l ++ m) S k) : Rounds l S k := fun j d hj => h j d (by rw [List.getElem?_append_left (List.getElem?_eq_some_iff.1 hj).1]; exact hj)
theorem Rounds.right {l m : List D} {S : Nat → Bun} {k : Nat} (h : Rounds (l ++ m) S k) : Rounds m S (k + l.length) := fun j d hj => by
  have := h (l.length + j) d (by rw [List.getElem?_append_right (by omega)]; simpa using hj)
  rwa [← Nat.add_assoc] at this
def ymz (b off : Nat) (S S' : Bun) : Prop := zc5 Tryz.prog 114 [.raw (.pointer (some ⟨b, off, none⟩)), .ref 1 0, .ref 2 0]
  (zkk [(3, some .pin), (4, some (.bun 3 S))]) (.ret (.imm (.bool true)) (zkk [(3, some .pin), (5, some (.bun 3 S'))]))
set_option maxRecDepth 100000 in
theorem ztn (s : Bool) (o n : Int) (x : Str) (v : Value) (ks : List An) (u : Value) (ps : List An) (b off : Nat) (S : Nat → Bun) (k : Nat) (hok : okP (.mk s o n x v ks u ps)) (hsk : ∀ j I w bb bs, (S j).P I w bb bs → skW I w (.mk s o n x v ks u ps) b off)
    (IH : ∀ a ∈ ks, ∀ b off k, okP a → (∀ j I w bb bs, (S j).P I w bb bs → skW I w a b off) → Rounds (zs3 a b off) S k → ymz b off (S k) (S (k + (zs3 a b off).length)))
    (hR : Rounds (ziv (zb9 v) 0 ks) S k) :
    DGo Tryz.prog Tryz.f114.ntmps [1, 2, 3, 4] (yex ttN Tryz.f114.results.toList (.ret (.imm (.bool true)) (zkk [(3, some .pin), (5, some (.bun 3 (S (k + (ziv (zb9 v) 0 ks).length))))])))
      [.code (zh9 Tryz.f114 2)] [(0, .raw (.pointer (some ⟨b, off, none⟩))), (1, .ref 1 0), (2, .ref 2 0)] (zkk [(3, some .pin), (6, some (.bun 3 (S k)))]) [7, 8, 5] := by
  obtain ⟨_, hv, hlen, hks⟩ := hok
  obtain ⟨ad, c, rfl, had⟩ : ∃ ad c, v = .slice ad ks.length c ∧ (ks ≠ [] → ∃ bb, ad = some ⟨bb, 0, none⟩) := by
    rcases hv with ⟨rfl, a, c, rfl⟩ | ⟨bb, c, rfl⟩
    · exact ⟨a, c, rfl, fun h => absurd rfl h⟩
    · exact ⟨_, c, rfl, fun _ => ⟨bb, rfl⟩⟩
  refine nd [] rfl (by simp [zai]) ?_
  refine zzs zbs 6 [.raw (.slice ad ks.length c)] rfl rfl (fun _ I w bb bs h => (hsk k I w bb bs h).2.1) rfl rfl (by simp) ?_
  refine ng [] rfl (by simp [zai]) ?_
  refine zak (fun y : Nat × Nat => [(24, .imm (.int .i64 y.1)), (23, .imm (.int .i64 ks.length)), (0, .raw (.pointer (some ⟨b, off, none⟩))), (1, .ref 1 0), (2, .ref 2 0)])
    (fun y => zkk [(3, some .pin), (6, some (.bun 3 (S y.2)))]) [7, 8, 5] (fun y => ks.length - y.1)
    (fun y => y.1 ≤ ks.length ∧ Rounds (ziv (zb9 (.slice ad ks.length c)) y.1 (ks.drop y.1)) S y.2 ∧ y.2 + (ziv (zb9 (.slice ad ks.length c)) y.1 (ks.drop y.1)).length = k + (ziv (zb9 (.slice ad ks.length c)) 0 ks).length) (0, k) ⟨Nat.zero_le _, hR, rfl⟩ ⟨rfl, zcr (by simp), rfl, rfl, rfl, trivial⟩ ⟨rfl, rfl, rfl, rfl, trivial⟩ rfl fun y hi ih => ?_
  obtain ⟨i, k1⟩ := y
  obtain ⟨hi1, hi2, hi3⟩ := hi
  simp only at hi1 hi2 hi3
  refine nd [] rfl (by simp [zai]) ?_
  refine zab rfl (fun h => ?_) (fun h => ?_)
  · simp at h
    obtain ⟨a, ha⟩ := zal h
    have hd : ks.drop i = a :: ks.drop (i + 1) := zaq ha
    rw [hd] at hi2 hi3
    simp only [ziv] at hi2 hi3
    obtain ⟨bb, rfl⟩ := had (fun e => by rw [e] at ha; simp at ha)
    have hoff : 0 + (i : Int).toNat * 4 = i * 4 := by simp
    have IHa := IH a (List.mem_of_getElem? ha) bb (i * 4) k1 (zly hks ha) (fun j I w b2 bs h => by
      have := yay (hsk j I w b2 bs h).2.2 ha
      simpa [zb9] using this) hi2.left
    rw [← hoff] at IHa
    refine nd [] rfl (by simp [zai]) ?_
    refine zzs zbs 6 [.raw (.slice (some ⟨bb, 0, none⟩) ks.length c)] rfl rfl (fun _ I w b2 bs h => (hsk k1 I w b2 bs h).2.1) rfl rfl (by simp) ?_
    refine ng [] rfl (by simp [zai]) ?_
    refine zdf zbs rfl rfl (fun _ => ⟨by simp, by simp; omega⟩) (by simp) ?_
    refine ng [] rfl (by simp [zai]) ?_
    refine zar (fr := [7]) [(1, 1), (2, 2), (3, 3), (6, 4)] [(5, 7)] rfl (by simp) IHa ⟨⟨rfl, rfl, rfl⟩, ⟨rfl, rfl, rfl⟩, ⟨rfl, rfl, rfl⟩, ⟨rfl, rfl, rfl⟩, trivial⟩ rfl rfl rfl rfl ?_
    refine ng [] rfl (by simp [zai]; rfl) ?_
    refine zab rfl (fun h => by simp at h) (fun h => ?_)
    refine nd [] rfl (by simp) ?_
    refine zcq 6 7 rfl ?_
    rw [hoff]
    exact zae (ih (i + 1, k1 + (zs3 a bb (i * 4)).length) (by simp only; omega) ⟨by simp only; omega, hi2.right, by simp only [List.length_append] at hi3 ⊢; simp only [zb9] at hi3 ⊢; omega⟩) ⟨zcr (w64 (by simp only; omega) (by simp only; omega)), rfl, rfl, rfl, rfl, trivial⟩ ⟨rfl, rfl, rfl, rfl, trivial⟩ rfl
  · simp at h
    have hd : ks.drop i = [] := List.drop_eq_nil_of_le (by omega)
    rw [hd] at hi3
    simp only [ziv, List.length_nil, Nat.add_zero] at hi3
    subst hi3
    refine za2 rfl ?_
    refine nd [] rfl (by simp) ?_
    refine zbt (ids' := []) 6 5 rfl rfl ?_
    exact zaa ⟨_, rfl, tV rfl, rfl, rfl, rfl, rfl, trivial⟩
set_option maxRecDepth 100000 in
theorem yb0 : ∀ (a : An) (b off : Nat) (S : Nat → Bun) (k : Nat), okP a → (∀ j I w bb bs, (S j).P I w bb bs → skW I w a b off) → Rounds (zs3 a b off) S k → ymz b off (S k) (S (k + (zs3 a b off).length))
  | .im _ _ _, _, _, _, _, h, _, _ => h.elim
  | .mk s o n x v ks u ps, b, off, S, k, hok, hsk, hR => by
    have IH : ∀ a ∈ ks, ∀ b off k, okP a → (∀ j I w bb bs, (S j).P I w bb bs → skW I w a b off) → Rounds (zs3 a b off) S k → ymz b off (S k) (S (k + (zs3 a b off).length)) := fun a ha b off k h1 h2 h3 => yb0 a b off S k h1 h2 h3
    refine zaf zbs Tryz.func114 (by decide +kernel) rfl [6, 7, 8, 5] rfl rfl ?_
    refine ng [] rfl (by simp [zai]) ?_
    refine zzs zbs 4 [.imm (.int .i64 o)] rfl rfl (fun _ I w bb bs h => (hsk k I w bb bs h).1) rfl rfl (by simp) ?_
    refine ng [] rfl (by simp [zai]) ?_
    simp only [zs3] at hR ⊢
    by_cases hs : o = 2
    · rw [if_pos hs] at hR ⊢
      have h := hR 0 _ rfl
      refine zi7 (j := 4) (j2 := 6) rfl (by simp [zai]) (by simp [zai, hs]) h rfl rfl rfl rfl rfl ?_
      refine ng [] rfl (by simp [zai]; rfl) ?_
      refine zab rfl (fun h => by simp [hs] at h) (fun h => ?_)
      refine ze0 ?_
      have ht := ztn s o n x v ks u ps b off S (k + 1) hok hsk IH (hR.right (l := [_]))
      rw [show k + ([D.raw (ptr b (zdi off 2))] ++ ziv (zb9 v) 0 ks).length = k + 1 + (ziv (zb9 v) 0 ks).length by simp; omega]
      exact zae ht ⟨rfl, rfl, rfl, trivial⟩ ⟨rfl, rfl, rfl, rfl, trivial⟩ rfl
    · rw [if_neg hs] at hR ⊢
      refine yhi (.imm (.bool true)) rfl (by simp [zai, hs]) ?_
      refine ng [] rfl (by simp [zai]; rfl) ?_
      refine zab rfl (fun h => by simp [hs] at h) (fun h => ?_)
      refine ze0 ?_
      refine zbt (ids' := [7, 8, 5]) 4 6 rfl rfl ?_
      exact zae (ztn s o n x v ks u ps b off S k hok hsk IH hR) ⟨rfl, rfl, rfl, trivial⟩ ⟨rfl, rfl, rfl, rfl, trivial⟩ rfl
termination_by a => SizeOf.sizeOf a
decreasing_by
  all_goals
    have := List.sizeOf_lt_of_mem ha
    simp_wf
    omega
end Go.Hk

/- The names that a term binds in a part, of a term that is zbx, by address (bound). -/
namespace Go.Hk
open Go.Proofs
def ykv (v : Value) : St := [(6, some (.cells 128 1 [.raw v]))]
def yne (v : Value) : St := [(6, some (.cells 91 1 [.raw v]))]
set_option maxRecDepth 100000 in
theorem yc2 (a : An) (b off : Nat) (S : Nat → Bun) (k : Nat) (h1 : okP a) (h2 : ∀ j I w bb bs, (S j).P I w bb bs → skW I w a b off) (h3 : Rounds (zs3 a b off) S k) :
    zc5 Tryz.prog 113 [.yld 3, .ref 6 0] ((3, some .pin) :: (4, some (.bun 3 (S k))) :: ykv (.pointer (some ⟨b, off, none⟩))) (.ret (.tup []) ((3, some .pin) :: (5, some (.bun 3 (S (k + (zs3 a b off).length)))) :: ykv (.pointer (some ⟨b, off, none⟩)))) := by
  refine zaf zbs Tryz.func113 (by decide +kernel) rfl [1, 2, 7, 5] rfl rfl ?_
  refine ng [] rfl (by simp [zai]) ?_
  refine zar (fr := [7]) [(1, 1), (2, 2), (3, 3), (4, 4)] [(5, 7)] rfl (by simp) (yb0 a b off S k h1 h2 h3) ⟨⟨rfl, rfl, rfl⟩, ⟨rfl, rfl, rfl⟩, ⟨rfl, rfl, rfl⟩, ⟨rfl, rfl, rfl⟩, trivial⟩ rfl rfl rfl rfl ?_
  refine ng [] rfl (by simp [zai]) ?_
  refine zbt (ids' := []) 7 5 rfl rfl ?_
  exact zb0 ⟨[], rfl, rfl, rfl, rfl, rfl, trivial⟩
set_option maxRecDepth 100000 in
theorem ygp (b off : Nat) : zc5 Tryz.prog 98 [.raw (.pointer (some ⟨b, off, none⟩))] [] (.ret (.fn (.func 113) [] [.ref 6 0]) (ykv (.pointer (some ⟨b, off, none⟩)))) := by
  refine zaf zbs Tryz.func98 (by decide +kernel) rfl [6] rfl rfl ?_
  refine ng [] rfl (by simp [zai]) ?_
  exact zaa ⟨_, rfl, rfl, rfl, trivial⟩
set_option maxRecDepth 100000 in
theorem yej (b off : Nat) (S : Nat → Bun) (k : Nat) (h : Rounds [.raw (ptr b (zdi off 2))] S k) :
    zc5 Tryz.prog 97 [.yld 3, .ref 6 0] ((3, some .pin) :: (4, some (.bun 3 (S k))) :: yne (.pointer (some ⟨b, off, none⟩))) (.ret (.tup []) ((3, some .pin) :: (5, some (.bun 3 (S (k + 1)))) :: yne (.pointer (some ⟨b, off, none⟩)))) := by
  refine zaf zbs Tryz.func97 (by decide +kernel) rfl [7, 5] rfl rfl ?_
  refine ng [] rfl (by simp [zai]) ?_
  have h := h 0 _ rfl
  refine zi7 (j := 4) (j2 := 7) rfl (by simp [zai]) trivial h rfl rfl rfl rfl rfl ?_
  refine ng [] rfl (by simp [zai]) ?_
  refine zbt (ids' := []) 7 5 rfl rfl ?_
  exact zb0 ⟨[], rfl, rfl, rfl, rfl, rfl, trivial⟩
def ya1 (A : Asn) (b : Nat) (op : Int) : Prop := ∀ vs I w bs, A.P vs I w bs → zc3 I w b 0 [.imm (.int .i64 op)]
def yi3 (A : Asn) (b : Nat) (u : Value) : Prop := ∀ vs I w bs, A.P vs I w bs → zc3 I w b 4 [.raw u]
set_option maxRecDepth 100000 in
theorem yaf (A : Asn) (b : Nat) (op kid : Int) (hA : ya1 A b op) (h : zb2 op kid = true) :
    zc5 Tryz.prog 67 [.raw (.pointer (some ⟨b, 0, none⟩)), .imm (.int .i64 kid)] [(1, some (.hp A))] (.ret (.fn (.func 97) [] [.ref 6 0]) ((1, some (.hp A)) :: yne (.pointer (some ⟨b, 0, none⟩)))) := by
  refine zaf zbs Tryz.func67 (by decide +kernel) rfl [6] rfl rfl ?_
  refine ng [] rfl (by simp [zai]) ?_
  refine zbn zbs 1 [.imm (.int .i64 op)] rfl rfl (fun _ => hA) rfl rfl (by simp) ?_
  refine ng [] rfl (by simp [zai]) ?_
  have h' : (op == 5 || op == 27 || (op == 7 && kid == 1)) = true := h
  refine zab rfl (fun h1 => ?_) (fun h1 => ?_)
  · refine nd [] rfl (by simp [zai]) ?_
    refine zab rfl (fun _ => ?_) (fun h2 => by rw [h1] at h2; cases h2)
    refine nd [] rfl (by simp [zai]) ?_
    exact zaa ⟨_, rfl, rfl, rfl, rfl, trivial⟩
  · refine nd [] rfl (by simp [zai]) ?_
    refine zbn zbs 1 [.imm (.int .i64 op)] rfl rfl (fun _ => hA) rfl rfl (by simp) ?_
    refine ng [] rfl (by simp [zai]) ?_
    refine zab rfl (fun h2 => ?_) (fun h2 => ?_)
    · refine nd [] rfl (by simp [zai]) ?_
      refine zab rfl (fun _ => ?_) (fun h3 => by rw [h2] at h3; cases h3)
      refine nd [] rfl (by simp [zai]) ?_
      exact zaa ⟨_, rfl, rfl, rfl, rfl, trivial⟩
    · refine nd [] rfl (by simp [zai]) ?_
      refine zbn zbs 1 [.imm (.int .i64 op)] rfl rfl (fun _ => hA) rfl rfl (by simp) ?_
      refine ng [] rfl (by simp [zai]) ?_
      refine zab rfl (fun _ => ?_) (fun h3 => ?_)
      · refine nd [] rfl (by simp [zai]) ?_
        exact zaa ⟨_, rfl, rfl, rfl, rfl, trivial⟩
      · exfalso
        rw [h1, h2] at h'
        cases e1 : (op == 7) <;> cases e2 : (kid == 1) <;> simp [e1, e2] at h' h3
set_option maxRecDepth 100000 in
theorem yeh (A : Asn) (b : Nat) (op kid : Int) (bb len c j : Nat) (hA : ya1 A b op) (hA2 : yi3 A b (.slice (some ⟨bb, 0, none⟩) len c)) (h : zb2 op kid = false) (h2 : zci op kid = true) (hj : kid = (j : Int) + 1) (hl : j < len) (hk : kid ≤ 1000000) :
    zc5 Tryz.prog 67 [.raw (.pointer (some ⟨b, 0, none⟩)), .imm (.int .i64 kid)] [(1, some (.hp A))] (.ret (.fn (.func 113) [] [.ref 6 0]) ((1, some (.hp A)) :: ykv (.pointer (some ⟨bb, j * 4, none⟩)))) := by
  refine zaf zbs Tryz.func67 (by decide +kernel) rfl [7, 6] rfl rfl ?_
  have h' : (op == 5 || op == 27 || (op == 7 && kid == 1)) = false := h
  have h2' : (op == 15 && decide (0 < kid)) = true := h2
  simp only [Bool.or_eq_false_iff] at h'
  obtain ⟨⟨e1, e2⟩, e3⟩ := h'
  simp only [Bool.and_eq_true, decide_eq_true_eq] at h2'
  have hw : IntKind.i64.wrap (kid - 1) = (j : Int) := by rw [w64 (by omega) (by omega)]; omega
  have hoff : 0 + (IntKind.i64.wrap (kid - 1)).toNat * 4 = j * 4 := by rw [hw]; simp
  refine ng [] rfl (by simp [zai]) ?_
  refine zbn zbs 1 [.imm (.int .i64 op)] rfl rfl (fun _ => hA) rfl rfl (by simp) ?_
  refine ng [] rfl (by simp [zai]) ?_
  refine zab rfl (fun h1 => by rw [e1] at h1; cases h1) (fun h1 => ?_)
  refine nd [] rfl (by simp [zai]) ?_
  refine zbn zbs 1 [.imm (.int .i64 op)] rfl rfl (fun _ => hA) rfl rfl (by simp) ?_
  refine ng [] rfl (by simp [zai]) ?_
  refine zab rfl (fun h1 => by rw [e2] at h1; cases h1) (fun h1 => ?_)
  refine nd [] rfl (by simp [zai]) ?_
  refine zbn zbs 1 [.imm (.int .i64 op)] rfl rfl (fun _ => hA) rfl rfl (by simp) ?_
  refine ng [] rfl (by simp [zai]) ?_
  refine zab rfl (fun h3 => ?_) (fun h3 => ?_)
  · exfalso
    cases q1 : (op == 7) <;> cases q2 : (kid == 1) <;> simp [q1, q2] at e3 h3
  refine nd [] rfl (by simp [zai]) ?_
  refine zbn zbs 1 [.imm (.int .i64 op)] rfl rfl (fun _ => hA) rfl rfl (by simp) ?_
  refine ng [] rfl (by simp [zai]) ?_
  refine zab rfl (fun h4 => ?_) (fun h4 => by simp [h2'.1, h2'.2] at h4)
  refine nd [] rfl (by simp [zai]) ?_
  refine zbn zbs 1 [.raw (.slice (some ⟨bb, 0, none⟩) len c)] rfl rfl (fun _ => hA2) rfl rfl (by simp) ?_
  refine ng [] rfl (by simp [zai]) ?_
  refine zdf zbs rfl rfl (fun _ => ⟨by simp [hw], by simp [hw]; omega⟩) (by simp) ?_
  refine ng [] rfl (by simp [zai]) ?_
  have hN := ygp bb (0 + (IntKind.i64.wrap (kid - 1)).toNat * 4)
  refine zar (st0 := []) (fr := [6]) [] [(6, 6)] rfl (by simp) hN trivial rfl rfl rfl rfl ?_
  refine ng [] rfl (by simp [zai]) ?_
  rw [← hoff]
  exact zaa ⟨_, rfl, rfl, rfl, rfl, trivial⟩
set_option maxRecDepth 100000 in
theorem zrr (A : Asn) (b : Nat) (op kid : Int) (hA : ya1 A b op) (h : zb2 op kid = false) (h2 : zci op kid = false) :
    zc5 Tryz.prog 67 [.raw (.pointer (some ⟨b, 0, none⟩)), .imm (.int .i64 kid)] [(1, some (.hp A))] (.ret (.imm (.fn (.func 99))) [(1, some (.hp A))]) := by
  refine zaf zbs Tryz.func67 (by decide +kernel) rfl [7, 6] rfl rfl ?_
  have h' : (op == 5 || op == 27 || (op == 7 && kid == 1)) = false := h
  have h2' : (op == 15 && decide (0 < kid)) = false := h2
  simp only [Bool.or_eq_false_iff] at h'
  obtain ⟨⟨e1, e2⟩, e3⟩ := h'
  refine ng [] rfl (by simp [zai]) ?_
  refine zbn zbs 1 [.imm (.int .i64 op)] rfl rfl (fun _ => hA) rfl rfl (by simp) ?_
  refine ng [] rfl (by simp [zai]) ?_
  refine zab rfl (fun h1 => by rw [e1] at h1; cases h1) (fun h1 => ?_)
  refine nd [] rfl (by simp [zai]) ?_
  refine zbn zbs 1 [.imm (.int .i64 op)] rfl rfl (fun _ => hA) rfl rfl (by simp) ?_
  refine ng [] rfl (by simp [zai]) ?_
  refine zab rfl (fun h1 => by rw [e2] at h1; cases h1) (fun h1 => ?_)
  refine nd [] rfl (by simp [zai]) ?_
  refine zbn zbs 1 [.imm (.int .i64 op)] rfl rfl (fun _ => hA) rfl rfl (by simp) ?_
  refine ng [] rfl (by simp [zai]) ?_
  refine zab rfl (fun h3 => ?_) (fun h3 => ?_)
  · exfalso
    cases q1 : (op == 7) <;> cases q2 : (kid == 1) <;> simp [q1, q2] at e3 h3
  refine nd [] rfl (by simp [zai]) ?_
  refine zbn zbs 1 [.imm (.int .i64 op)] rfl rfl (fun _ => hA) rfl rfl (by simp) ?_
  refine ng [] rfl (by simp [zai]) ?_
  refine zab rfl (fun h4 => ?_) (fun h4 => ?_)
  · exfalso
    cases q1 : (op == 15) <;> cases q2 : decide (0 < kid) <;> simp [q1, q2] at h2' h4 <;> simp_all
  refine nd [] rfl (by simp [zai]) ?_
  exact zaa ⟨_, rfl, tV rfl, rfl, trivial⟩
end Go.Hk

/- Patterns that are zbx, but for their texts: what a walk by address sees stays as it is when a text becomes another one. -/
namespace Go.Hk
open Go.Proofs
theorem zex {I : Imm} {w : World} {b off : Nat} {cs : List Value} (h : atW w b off cs) {i : Nat} {c : Value} {d : D} (hc : cs[i]? = some c) (h1 : c.oneCell' = true) (hd : RepD I noMu c d) : zc3 I w b (zdi off i) [d] := by
  obtain ⟨cur, ty, k, q1, q2⟩ := h
  refine ⟨cur, ty, k, q1, fun j d' hj => ?_⟩
  cases j with
  | zero =>
    simp at hj; subst hj
    refine ⟨c, ?_, h1, hd⟩
    rw [zej]
    exact q2 i c hc
  | succ j => simp at hj
mutual
theorem yax {I : Imm} {w : World} : ∀ (a : An) (b off : Nat), zi9 a → zcu a = false → atW w b off (cA a) → anW I w a → skW I w a b off
  | .im _ _ _, _, _, h, _, _, _ => h.elim
  | .mk s o n x v ks u ps, b, off, hf, hs, ha, hw => by
    have hs : s = false := hs
    subst hs
    simp only [anW] at hw
    refine ⟨zex ha (i := 0) rfl rfl (.imm _ _ (.int _ _)), zex ha (i := 3) rfl (zjq hw.1.1) (.raw _ (zjq hw.1.1)), ?_⟩
    exact zsq ks (zb9 v) 0 hf.1 hw.1.2
theorem zsq {I : Imm} {w : World} : ∀ (l : List An) (b i : Nat), zcw l → zfa I w false b i l → yma I w b i l
  | [], _, _, _, _ => trivial
  | a :: r, b, i, hf, hw => by
    simp only [zfa] at hw
    exact ⟨yax a b (i * 4) hf.1 hw.1.1 hw.1.2.1 hw.1.2.2, zsq r b (i + 1) hf.2 hw.2⟩
end
mutual
theorem yjp {I : Imm} {w : World} : ∀ (a : An) (t : Ty), zi9 a → zcu a = false → anW I w a → vA a = zb5 t → zr4 t → okP a
  | .im _ _ _, _, h, _, _, _, _ => h.elim
  | .mk s o n x v ks u ps, .mk s' n' x' qs, hf, hs, hw, hv, ht => by
    have hs : s = false := hs
    subst hs
    simp only [anW] at hw
    have he : vAs ks = zcf qs := by
      simp only [vA, zb5, List.cons.injEq, V.sl.injEq] at hv
      exact hv.2.2.2.1
    have hl : ks.length = qs.length := by have := congrArg List.length he; simpa using this
    refine ⟨rfl, ?_, by rw [hl]; exact ht.1, zm0 ks qs (zb9 v) 0 hf.1 hw.1.2 he ht.2⟩
    rcases hw.1.1 with ⟨h0, ⟨a, c, rfl⟩, _⟩ | ⟨_, b, cap, cur, rfl, _⟩
    · exact .inl ⟨List.eq_nil_of_length_eq_zero h0, a, c, rfl⟩
    · exact .inr ⟨b, cap, rfl⟩
theorem zm0 {I : Imm} {w : World} : ∀ (l : List An) (ts : List Ty) (b i : Nat), zcw l → zfa I w false b i l → vAs l = zcf ts → zsf ts → ybh l
  | [], _, _, _, _, _, _, _ => trivial
  | a :: r, [], _, _, _, _, h, _ => by simp [vAs, zcf] at h
  | a :: r, t :: q, b, i, hf, hw, hv, ht => by
    simp only [zfa] at hw
    simp only [vAs, zcf, List.cons.injEq] at hv
    exact ⟨yjp a t hf.1 hw.1.1 hw.1.2.2 hv.1 ht.1, zm0 r q b (i + 1) hf.2 hw.2 hv.2 ht.2⟩
end
mutual
def zy1 : An → An
  | .mk s o n _ v ks u ps => .mk s o n [] v (zr5 ks) u (zr5 ps)
  | .im s cs c => .im s cs c
def zr5 : List An → List An
  | [] => []
  | a :: r => zy1 a :: zr5 r
end
theorem zow : ∀ l : List An, zr5 l = l.map zy1
  | [] => rfl
  | a :: r => by simp [zr5, zow r]
def ppaths : An → List zmn
  | .mk _ o _ _ _ ks _ _ => (if o = 2 then [[]] else []) ++ ppathss 0 ks
  | .im _ _ _ => []
where ppathss : Nat → List An → List zmn
  | _, [] => []
  | i, a :: r => (ppaths a).map ((false, i) :: ·) ++ ppathss (i + 1) r
def yfc : An → Str → An
  | .mk s o n _ v ks u ps, x => .mk s o n x v ks u ps
  | a, _ => a
theorem ye9 (a c d : An) (p : Bool × Nat) (b off : Nat) (h : ze7 a p = some (c, b, off)) (hd : zy1 d = zy1 c) : zy1 (zww a p d) = zy1 a := by
  have st : ∀ {l : List An} {k : Nat}, l[k]? = some c → zr5 (l.set k d) = zr5 l := by
    intro l k hk
    rw [zow, zow, List.map_set, hd]
    apply List.ext_getElem?
    intro i
    rw [List.getElem?_set]
    split
    · rename_i e; subst e
      rw [List.getElem?_map, hk]; simp
      exact (List.getElem?_eq_some_iff.1 hk).1
    · rfl
  rcases a with ⟨s, o, n, x, v, ks, u, ps⟩ | ⟨s0, cs0, c0⟩
  case im => simp [ze7] at h
  obtain ⟨r, k⟩ := p
  cases r with
  | false =>
    simp only [ze7, Option.map_eq_some_iff, Prod.mk.injEq] at h
    obtain ⟨c', hc, rfl, _, _⟩ := h
    simp only [zww, zy1, st hc]
  | true =>
    cases s with
    | true =>
      simp only [ze7, Option.map_eq_some_iff, Prod.mk.injEq] at h
      obtain ⟨c', hc, rfl, _, _⟩ := h
      simp only [zww, zy1, st hc]
    | false => simp [ze7] at h
theorem zws : ∀ (p : zmn) (a : An) (b off : Nat) (a' : An) (b' off' : Nat) (a2 : An), zec a b off p = some (a', b', off') → zy1 a2 = zy1 a' → zy1 (zmx a p a2) = zy1 a
  | [], a, b, off, a', b', off', a2, h, hs => by
    simp only [zec, Option.some.injEq, Prod.mk.injEq] at h
    obtain ⟨rfl, _, _⟩ := h
    exact hs
  | q :: r, a, b, off, a', b', off', a2, h, hs => by
    simp only [zec] at h
    simp only [zmx]
    split at h
    · rename_i c b1 off1 hk
      exact ye9 a c _ q b1 off1 hk (zws r c b1 off1 a' b' off' a2 h hs)
    · cases h
end Go.Hk

/- Patterns that are zbx: the places of the names by path. -/
namespace Go.Hk
open Go.Proofs
mutual
theorem yge : ∀ (a : An) (b off : Nat), okP a → ∀ (j : Nat) (d : D), (zs3 a b off)[j]? = some d → ∃ p a' b' off', (ppaths a)[j]? = some p ∧ zec a b off p = some (a', b', off') ∧ d = .raw (ptr b' (zdi off' 2)) ∧ ∃ n x v ks u ps, a' = .mk false 2 n x v ks u ps
  | .im _ _ _, _, _, h, _, _, _ => h.elim
  | .mk s o n x v ks u ps, b, off, hok, j, d, h => by
    obtain ⟨hs, _, _, hks⟩ := hok
    subst hs
    simp only [zs3] at h
    have tail : ∀ j, (ziv (zb9 v) 0 ks)[j]? = some d → ∃ p a' b' off', (ppaths.ppathss 0 ks)[j]? = some p ∧ zec (.mk false o n x v ks u ps) b off p = some (a', b', off') ∧ d = .raw (ptr b' (zdi off' 2)) ∧ ∃ n x v ks u ps, a' = .mk false 2 n x v ks u ps := fun j hj => by
      obtain ⟨k, a, r, a', b', off', h1, h2, h3, h4, h5⟩ := ybg ks (zb9 v) 0 hks j d hj
      refine ⟨(false, 0 + k) :: r, a', b', off', h1, ?_, h4, h5⟩
      simp only [zec, ze7, Nat.zero_add, h2, Option.map_some]
      simpa [szA] using h3
    by_cases ho : o = 2
    · rw [if_pos ho] at h
      simp only [ppaths]
      rw [if_pos ho]
      cases j with
      | zero =>
        simp at h; subst h; subst ho
        exact ⟨[], _, b, off, by simp, rfl, rfl, n, x, v, ks, u, ps, rfl⟩
      | succ j =>
        simp only [List.singleton_append, List.getElem?_cons_succ] at h ⊢
        exact tail j h
    · rw [if_neg ho] at h
      simp only [ppaths]
      rw [if_neg ho]
      exact tail j h
theorem ybg : ∀ (l : List An) (b i : Nat), ybh l → ∀ (j : Nat) (d : D), (ziv b i l)[j]? = some d → ∃ k a r a' b' off', (ppaths.ppathss i l)[j]? = some ((false, i + k) :: r) ∧ l[k]? = some a ∧ zec a b ((i + k) * 4) r = some (a', b', off') ∧ d = .raw (ptr b' (zdi off' 2)) ∧ ∃ n x v ks u ps, a' = .mk false 2 n x v ks u ps
  | [], _, _, _, _, _, h => by simp [ziv] at h
  | a :: r, b, i, hok, j, d, h => by
    simp only [ziv] at h
    have hlen := zoy a b (i * 4)
    by_cases hj : j < (zs3 a b (i * 4)).length
    · rw [List.getElem?_append_left hj] at h
      obtain ⟨p, a', b', off', h1, h2, h3, h4⟩ := yge a b (i * 4) hok.1 j d h
      refine ⟨0, a, p, a', b', off', ?_, rfl, by simpa using h2, h3, h4⟩
      simp only [ppaths.ppathss]
      rw [List.getElem?_append_left (by simp; omega), List.getElem?_map, h1]
      rfl
    · rw [List.getElem?_append_right (by omega)] at h
      obtain ⟨k, c, q, a', b', off', h1, h2, h3, h4, h5⟩ := ybg r b (i + 1) hok.2 _ d h
      refine ⟨k + 1, c, q, a', b', off', ?_, by simpa using h2, by rwa [show i + (k + 1) = i + 1 + k by omega], h4, h5⟩
      simp only [ppaths.ppathss]
      rw [List.getElem?_append_right (by simp; omega)]
      simp only [List.length_map, ← hlen]
      rw [h1, show i + (k + 1) = i + 1 + k by omega]
theorem zoy : ∀ (a : An) (b off : Nat), (zs3 a b off).length = (ppaths a).length
  | .im _ _ _, _, _ => rfl
  | .mk s o n x v ks u ps, b, off => by
    simp only [zs3, ppaths, List.length_append, zxa ks (zb9 v) 0]
    by_cases h : o = 2 <;> simp [h]
theorem zxa : ∀ (l : List An) (b i : Nat), (ziv b i l).length = (ppaths.ppathss i l).length
  | [], _, _ => rfl
  | a :: r, b, i => by simp only [ziv, ppaths.ppathss, List.length_append, List.length_map, zoy a, zxa r b (i + 1)]
end
end Go.Hk

/- Trees that are zbx: a text becomes another one; a part by value becomes another one. -/
namespace Go.Hk
open Go.Proofs
theorem zwr (l : List An) : (zr5 l).length = l.length := by rw [zow]; simp
mutual
theorem zvs : ∀ a : An, anB (zy1 a) = anB a
  | .im _ _ _ => rfl
  | .mk s o n x v ks u ps => by
    have h1 := znn ks
    have h2 := znn ps
    cases s <;> simp [zy1, anB, h1, h2, zwr]
theorem znn : ∀ l : List An, zdv (zr5 l) = zdv l
  | [] => rfl
  | a :: r => by simp only [zr5, zdv, zvs a, znn r]
end
theorem zk0 {I : Imm} {w : World} {vs : List Value} {bs : List Nat} {b : Nat} {a : An} {p : zmn} {a' : An} {b' off' : Nat} (h : (zid b a).P vs I w bs) (hl : zec a b 0 p = some (a', b', off')) :
    b' ∈ bs ∧ ∃ cur ty, w.heap[b']? = some (.cells cur ty (0, 0)) ∧ off' + szA (zcu a') ≤ cur.size := by
  obtain ⟨h1, h2, h3, ⟨cur, h4, h5⟩, h6, h7⟩ := h
  rcases zl3 hl with ⟨_, rfl, rfl, rfl⟩ | ⟨hne, hb⟩
  · exact ⟨by simp [h1], cur, _, h4, by rw [h3]; simp [szA, h5]⟩
  · refine ⟨by simp [h1, hb], ?_⟩
    have : ∀ {p : zmn} {a : An} {b off : Nat}, zec a b off p = some (a', b', off') → p ≠ [] → anW I w a → ∃ cur ty, w.heap[b']? = some (.cells cur ty (0, 0)) ∧ off' + szA (zcu a') ≤ cur.size := by
      intro p
      induction p with
      | nil => intro a b off _ h; exact absurd rfl h
      | cons q r ih =>
        intro a b off h _ hw
        simp only [zec] at h
        split at h
        · rename_i c b1 off1 hk
          by_cases hr : r = []
          · subst hr
            simp only [zec, Option.some.injEq, Prod.mk.injEq] at h
            obtain ⟨rfl, rfl, rfl⟩ := h
            rcases a with ⟨s, o, n, x, v, ks, u, ps⟩ | ⟨s0, cs0, c0⟩
            case im => simp [ze7] at hk
            obtain ⟨rr, i⟩ := q
            simp only [anW] at hw
            cases rr with
            | false =>
              simp only [ze7, Option.map_eq_some_iff, Prod.mk.injEq] at hk
              obtain ⟨c', hc, rfl, rfl, rfl⟩ := hk
              have hsrt : zcu c' = s := (zda hw.1.2 hc).1
              have hlt := (List.getElem?_eq_some_iff.1 hc).1
              rcases hw.1.1 with ⟨h0, _⟩ | ⟨_, b0, cap, cur, rfl, q1, q2, q3, q4⟩
              · omega
              · refine ⟨cur, _, q1, ?_⟩
                have : (i + 1) * szA s ≤ cap * szA s := Nat.mul_le_mul_right _ (by omega)
                rw [Nat.succ_mul, ← q4] at this
                rw [hsrt]; exact this
            | true =>
              cases s with
              | false => simp [ze7] at hk
              | true =>
                simp only [ze7, Option.map_eq_some_iff, Prod.mk.injEq] at hk
                obtain ⟨c', hc, rfl, rfl, rfl⟩ := hk
                have hsrt : zcu c' = false := (zda (hw.2 rfl).2 hc).1
                have hlt := (List.getElem?_eq_some_iff.1 hc).1
                rcases (hw.2 rfl).1 with ⟨h0, _⟩ | ⟨_, b0, cap, cur, rfl, q1, q2, q3, q4⟩
                · omega
                · refine ⟨cur, _, q1, ?_⟩
                  have : (i + 1) * szA false ≤ cap * szA false := Nat.mul_le_mul_right _ (by omega)
                  rw [Nat.succ_mul, ← q4] at this
                  rw [hsrt]; exact this
          · exact ih h hr (zzk hk hw).2
        · cases h
    exact this hl hne h7
theorem ztd : ∀ {p : zmn} {a : An} {b off : Nat} {a' : An} {b' off' : Nat}, zec a b off p = some (a', b', off') → b ∉ anB a → (anB a).Nodup → b' ∉ anB a'
  | [], a, b, off, a', b', off', h, h1, _ => by
    simp only [zec, Option.some.injEq, Prod.mk.injEq] at h
    obtain ⟨rfl, rfl, rfl⟩ := h
    exact h1
  | q :: r, a, b, off, a', b', off', h, _, h2 => by
    simp only [zec] at h
    split at h
    · rename_i c b1 off1 hk
      obtain ⟨_, _, k3⟩ := zhn hk
      exact ztd h (k3 h2).2 (k3 h2).1
    · cases h
theorem zpi {I : Imm} {μ : Mu} {c : Value} {x : Str} (h : RepD I μ c (.imm (.str x))) : c = zv1 x := by
  cases h with
  | imm _ _ h =>
    cases h with
    | str s l h =>
      show Value.string s = Value.string ⟨x.toArray⟩
      rw [← h]
theorem zsl {b : Nat} {a : An} {p : zmn} {s : Bool} {o n : Int} {x0 : Str} {v : Value} {ks : List An} {u : Value} {ps : List An} {b' off' : Nat} (x : Str) (hl : zec a b 0 p = some (.mk s o n x0 v ks u ps, b', off')) :
    zrx (zid b a) (zid b (zmx a p (.mk s o n x v ks u ps))) b' (zdi off' 2) [.imm (.str x)] := by
  intro us I w bs hP
  obtain ⟨r1, cur, ty, r2, r3⟩ := zk0 hP hl
  obtain ⟨h1, h2, h3, ⟨cur0, h4, h5⟩, h6, h7⟩ := hP
  have h4sz : 4 ≤ szA (zcu (.mk s o n x0 v ks u ps)) := by cases s <;> simp [zcu, szA]
  have hnd : b ∉ anB a ∧ (anB a).Nodup := by rw [h1] at h2; exact List.nodup_cons.1 h2
  rw [zej]
  refine ⟨r1, cur, ty, r2, by simp only [List.length_singleton]; omega, fun cs hcl hone => ?_⟩
  obtain ⟨c, rfl⟩ : ∃ c, cs = [c] := List.length_eq_one_iff.1 hcl.1
  have hc : c = zv1 x := zpi (hcl.2 0 c _ rfl rfl)
  subst hc
  have hf : off' + 2 + [zv1 x].length ≤ cur.size := by simp only [List.length_singleton]; omega
  have hu := zsi (off0 := off') (sz := szA (zcu (.mk s o n x0 v ks u ps))) r2 hf ⟨by omega, by simp only [List.length_singleton]; omega⟩
  obtain ⟨⟨cur2, ty2, k2, z1, z2⟩, q2⟩ := zuy hl h6 h7
  rw [r2] at z1; cases z1
  have hni := ztd hl hnd.1 hnd.2
  have hat : atW (w.setRow b' (cur.toList.take (off' + 2) ++ [zv1 x] ++ cur.toList.drop (off' + 2 + [zv1 x].length)).toArray) b' off' (cA (.mk s o n x v ks u ps)) := by
    refine ⟨_, ty, (0, 0), zim r2, fun j d hj => ?_⟩
    have hsp := zft (cur := cur.toList) (off := off' + 2) (cs := [zv1 x]) (by simpa using hf) (off' + j)
    simp only [List.length_singleton] at hsp ⊢
    have key : (cur.toList.take (off' + 2) ++ [zv1 x] ++ cur.toList.drop (off' + 2 + 1))[off' + j]? = some d := by
      by_cases e2 : j = 2
      · subst e2
        rw [hsp, if_neg (by omega), if_pos (by omega), Nat.sub_self]
        cases s <;> (simp [cA] at hj; subst hj; rfl)
      · have hold : (cA (.mk s o n x0 v ks u ps))[j]? = some d := by
          rw [← hj]
          match j with
          | 0 => cases s <;> rfl
          | 1 => cases s <;> rfl
          | 2 => exact absurd rfl e2
          | 3 => cases s <;> rfl
          | 4 => cases s <;> rfl
          | j + 5 => cases s <;> rfl
        have := z2 j d hold
        rw [hsp]
        split
        · simpa using this
        · rw [if_neg (by omega)]; simpa using this
    simpa using key
  have hw2 : anW I (w.setRow b' (cur.toList.take (off' + 2) ++ [zv1 x] ++ cur.toList.drop (off' + 2 + [zv1 x].length)).toArray) (.mk s o n x v ks u ps) := by
    have := zjk (fun k hk => hu.other k fun e => hni (e ▸ hk)) q2
    simpa only [anW] using this
  obtain ⟨q3, q4, q5⟩ := zt8 (a2 := .mk s o n x v ks u ps) hl hu rfl hat hw2 h6 h7 hnd.1 hnd.2
  have hB : anB (zmx a p (.mk s o n x v ks u ps)) = anB a := by
    rw [← zvs, zws p a b 0 _ b' off' _ hl (by simp [zy1]), zvs]
  refine ⟨by rw [hB]; exact h1, h2, by rw [q5]; exact h3, ?_, q3, q4⟩
  by_cases e : b = b'
  · subst e
    obtain ⟨cur', z1, z2, _⟩ := hu.same cur0 _ _ h4
    exact ⟨cur', z1, by rw [z2, h5]⟩
  · exact ⟨cur0, (hu.other b e).trans h4, h5⟩
end Go.Hk

/- Trees that are zbx: a part by value becomes another one. -/
namespace Go.Hk
open Go.Proofs
def PutV (b : Nat) (a : An) (p : zmn) (e : List V) : Asn where
  P := fun vs I w bs => ∃ cs, (zid b (zmx a p (.im true cs e))).P vs I w bs
  mono := fun h ⟨cs, h1⟩ => ⟨cs, (zid b (zmx a p (.im true cs e))).mono h h1⟩
  loc := fun h ⟨cs, h1⟩ => ⟨cs, (zid b (zmx a p (.im true cs e))).loc h h1⟩
theorem yk1 {a c d : An} {p : Bool × Nat} {b off : Nat} (h : ze7 a p = some (c, b, off)) (hd : anB d = anB c) : anB (zww a p d) = anB a := by
  have st : ∀ {l : List An} {k : Nat}, l[k]? = some c → zdv (l.set k d) = zdv l := by
    intro l
    induction l with
    | nil => intro k h; simp at h
    | cons x r ih =>
      intro k h
      cases k with
      | zero => simp at h; subst h; simp [zdv, hd]
      | succ k => simp [zdv, ih (by simpa using h)]
  rcases a with ⟨s, o, n, x, v, ks, u, ps⟩ | ⟨s0, cs0, c0⟩
  case im => simp [ze7] at h
  obtain ⟨r, k⟩ := p
  cases r with
  | false =>
    simp only [ze7, Option.map_eq_some_iff, Prod.mk.injEq] at h
    obtain ⟨c', hc, rfl, _, _⟩ := h
    simp only [zww, anB, st hc, List.length_set]
  | true =>
    cases s with
    | true =>
      simp only [ze7, Option.map_eq_some_iff, Prod.mk.injEq] at h
      obtain ⟨c', hc, rfl, _, _⟩ := h
      simp only [zww, anB, st hc, List.length_set]
    | false => simp [ze7] at h
theorem ycf : ∀ {p : zmn} {a : An} {b off : Nat} {a' : An} {b' off' : Nat} {a2 : An}, zec a b off p = some (a', b', off') → anB a2 = anB a' → anB (zmx a p a2) = anB a
  | [], a, b, off, a', b', off', a2, h, hs => by
    simp only [zec, Option.some.injEq, Prod.mk.injEq] at h
    obtain ⟨rfl, _, _⟩ := h
    exact hs
  | q :: r, a, b, off, a', b', off', a2, h, hs => by
    simp only [zec] at h
    simp only [zmx]
    split at h
    · rename_i c b1 off1 hk
      exact yk1 hk (ycf h hs)
    · cases h
theorem yg1 {b : Nat} {a : An} {p : zmn} {cs0 : List Value} {e0 : List V} {b' off' : Nat} (e : List V) (he : e.length = 5) (hl : zec a b 0 p = some (.im true cs0 e0, b', off')) :
    zrx (zid b a) (PutV b a p e) b' off' (e.map .imm) := by
  intro us I w bs hP
  obtain ⟨r1, cur, ty, r2, r3⟩ := zk0 hP hl
  obtain ⟨h1, h2, h3, ⟨cur0, h4, h5⟩, h6, h7⟩ := hP
  have r3 : off' + 5 ≤ cur.size := r3
  have hnd : b ∉ anB a ∧ (anB a).Nodup := by rw [h1] at h2; exact List.nodup_cons.1 h2
  have hel : (e.map D.imm).length = 5 := by simpa using he
  refine ⟨r1, cur, ty, r2, by rw [hel]; exact r3, fun cs hcl hone => ?_⟩
  have hcs : cs.length = 5 := by rw [hcl.1, hel]
  have hf : off' + cs.length ≤ cur.size := by rw [hcs]; exact r3
  rw [hel, ← hcs]
  have hu := zsi (off0 := off') (sz := szA (zcu (.im true cs0 e0))) r2 hf ⟨Nat.le_refl _, by rw [hcs]; exact Nat.le_refl _⟩
  have hrep : RepVL I cs e := ⟨by rw [hcs, he], fun i v x hv hx => by
    have := hcl.2 i v (.imm x) hv (by rw [List.getElem?_map, hx]; rfl)
    exact this.immInv⟩
  have hw2 : anW I (w.setRow b' (cur.toList.take off' ++ cs ++ cur.toList.drop (off' + cs.length)).toArray) (.im true cs e) := ⟨hrep, hone, he⟩
  obtain ⟨q3, q4, q5⟩ := zt8 (a2 := .im true cs e) hl hu rfl (yib r2 hf) hw2 h6 h7 hnd.1 hnd.2
  have hB : anB (zmx a p (.im true cs e)) = anB a := ycf hl rfl
  refine ⟨cs, by rw [hB]; exact h1, h2, by rw [q5]; exact h3, ?_, q3, q4⟩
  by_cases e : b = b'
  · subst e
    obtain ⟨cur', z1, z2, _⟩ := hu.same cur0 _ _ h4
    exact ⟨cur', z1, by rw [z2, h5]⟩
  · exact ⟨cur0, (hu.other b e).trans h4, h5⟩
end Go.Hk

/- Owned memory is lent: a contract of a function of values, for values that stand in zbx blocks, which it leaves alone. -/
namespace Go.Hk
def zps : V → Bool
  | .bool _ | .int .. | .str _ => true
  | _ => false
def zio : List V → Bool
  | [] => true
  | x :: r => zps x && zio r
def zst : List (List V) → Bool
  | [] => true
  | e :: r => zio e && zst r
def zwx : List (V × V) → Bool
  | [] => true
  | (a, b) :: r => zps a && zps b && zwx r
def yi4 : D → Bool
  | .imm x => zps x
  | .tup [] => true
  | .own _ _ => true
  | .tup [.imm a, .imm b] => zps a && zps b
  | _ => false
def ymd : Blk → Prop
  | .map kv => zwx kv = true
  | .row _ _ es => zst es = true
  | .immb _ _ xs => zio xs = true
  | _ => False
def yff : St → Prop
  | [] => True
  | (_, some b) :: r => ymd b ∧ yff r
  | (_, none) :: r => yff r
section
variable {P : Program} {I J : Imm} {μ ν : Mu} {st : St} {w : World}
theorem zgw {v : Value} {x : V} (h : zps x = true) (hr : RepV J v x) : RepV I v x := by
  cases hr <;> first | (simp [zps] at h; done) | constructor <;> assumption
theorem zss : ∀ {xs : List V} {vs : List Value}, zio xs = true → RepVL J vs xs → RepVL I vs xs := by
  intro xs vs h hr
  refine ⟨hr.1, fun i v x h1 h2 => ?_⟩
  have : ∀ {xs : List V} {i : Nat} {x : V}, zio xs = true → xs[i]? = some x → zps x = true := by
    intro xs
    induction xs with
    | nil => intro i x _ h; simp at h
    | cons y r ih =>
      intro i x hs h
      simp only [zio, Bool.and_eq_true] at hs
      cases i with
      | zero => simp at h; subst h; exact hs.1
      | succ i => exact ih hs.2 (by simpa using h)
  exact zgw (this h h2) (hr.2 i v x h1 h2)
theorem zpr : ∀ {es : List (List V)}, zst es = true → zio es.flatten = true
  | [], _ => rfl
  | e :: r, h => by
    simp only [zst, Bool.and_eq_true] at h
    have : ∀ {a b : List V}, zio a = true → zio b = true → zio (a ++ b) = true := by
      intro a
      induction a with
      | nil => intro b _ h; exact h
      | cons x r ih =>
        intro b h1 h2
        simp only [zio, Bool.and_eq_true, List.cons_append] at h1 ⊢
        exact ⟨h1.1, ih h1.2 h2⟩
    exact this h.1 (zpr h.2)
theorem zmu : ∀ {kv : List (V × V)} {i : Nat} {p : V × V}, zwx kv = true → kv[i]? = some p → zps p.1 = true ∧ zps p.2 = true
  | [], i, p, _, h => by simp at h
  | (a, b) :: r, i, p, hs, h => by
    simp only [zwx, Bool.and_eq_true] at hs
    cases i with
    | zero => simp at h; subst h; exact hs.1
    | succ i => exact zmu hs.2 (by simpa using h)
theorem zwz {g : Value} {b : Blk} (h : ymd b) (hr : BlkRep J μ w g b) : BlkRep I ν w g b := by
  cases b with
  | map kv =>
    obtain ⟨b, es, clock, h1, h2, h3, h4, h5⟩ := hr
    exact ⟨b, es, clock, h1, h2, h3, h4, fun i e p a b => ⟨zgw (zmu h b).1 (h5 i e p a b).1, zgw (zmu h b).2 (h5 i e p a b).2⟩⟩
  | row t sz es =>
    obtain ⟨xs, h1, h2, h3⟩ := hr
    exact ⟨xs, h1, zss (zpr h) h2, h3⟩
  | immb t sz xs =>
    obtain ⟨hs, b, vs, h1, h2, h3, h4⟩ := hr
    exact ⟨hs, b, vs, h1, h2, zss h h3, h4⟩
  | _ => exact h.elim
theorem zjp : ∀ {st : St} {i : Nat} {b : Blk}, yff st → zap st i b → ymd b
  | [], i, b, _, h => by simp [zap, lk] at h
  | (k, some y) :: r, i, b, hs, h => by
    rcases zah.1 h with ⟨_, rfl⟩ | ⟨_, h⟩
    · exact hs.1
    · exact zjp hs.2 h
  | (k, none) :: r, i, b, hs, h => zjp (st := r) hs (za7.1 h).2
theorem zwy {v : Value} {d : D} (h : yi4 d = true) (hr : RepD J μ v d) (hn : ∀ i ∈ nmD d, ∀ g, μ i = some g → ν i = some g) : RepD I ν v d := by
  unfold yi4 at h
  split at h
  · exact .imm _ _ (zgw h hr.immInv)
  · cases hr with
    | tup cs _ hl _ => exact .tup cs [] hl fun i c x _ hx => by simp at hx
  · cases hr with
    | own _ _ a cap hm => exact .own _ _ a cap (hn _ (by simp [nmD]) _ hm)
  · rename_i a b
    rw [Bool.and_eq_true] at h
    cases hr with
    | tup cs _ hl hh =>
      refine .tup cs _ hl fun i c x hc hx => ?_
      match i with
      | 0 => simp at hx; subst hx; exact .imm _ _ (zgw h.1 (hh 0 c _ hc rfl).immInv)
      | 1 => simp at hx; subst hx; exact .imm _ _ (zgw h.2 (hh 1 c _ hc rfl).immInv)
      | i + 2 => simp at hx
  · cases h
theorem zq7 {f : FuncId} {das das' : List D} {st0 st1 : St} {d : D} (k : Nat) (A : Asn) (hE : zc5 P f das st0 (.ret d st1)) (hd : yi4 d = true) (hs : yff st1) (hk0 : k ∉ nms st0) (hk1 : k ∉ nms st1) (hkd : k ∉ nmD d)
    (hview : ∀ vs I J μ w bs, A.P vs I w bs → I.le J → (∀ b ∈ bs, J b = w.heap[b]?) → ∀ xs : List Value, RepL J μ xs das' → RepL J μ xs das) : zc5 P f das' ((k, some (.hp A)) :: st0) (.ret d ((k, some (.hp A)) :: st1)) := by
  intro I μ w xs hst hx
  obtain ⟨g, hg, vs, bs, rfl, hP⟩ := hst.blk k _ (zah.2 (.inl ⟨rfl, rfl⟩))
  have hkl : zap ((k, some (.hp A)) :: st0) k (.hp A) := zah.2 (.inl ⟨rfl, rfl⟩)
  have hbs : ∀ b ∈ bs, I b = none ∧ b < w.heap.size := fun b hb => hst.apart k _ _ b hkl hg (za0.2 hb)
  have hle : I.le (I.plus bs w) := fun b o h => by
    have : zk5 bs b = false := by
      cases hm : zk5 bs b with
      | false => rfl
      | true => rw [(hbs b (zbo.1 hm)).1] at h; cases h
    simp [Imm.plus, this, h]
  have hJb : ∀ b ∈ bs, I.plus bs w b = w.heap[b]? := fun b hb => by simp [Imm.plus, zbo.2 hb]
  have up : ∀ {i b}, zap st0 i b → zap ((k, some (.hp A)) :: st0) i b := fun {i b} hl => zah.2 (.inr ⟨fun e => hk0 (e ▸ zbv hl), hl⟩)
  have hno : ∀ b ∈ bs, ¬ zbx μ st0 b := fun b hb ⟨i, blk, g, h1, h2, h3⟩ => hk0 (by
    have := hst.inj k i _ _ _ _ b hkl (up h1) hg h2 (za0.2 hb) h3
    rw [this]; exact zbv h1)
  have hst0 : StRep (I.plus bs w) μ st0 [] w :=
    { imm := fun b o h => by
        unfold Imm.plus at h
        split at h
        · exact h
        · exact hst.imm b o h
      blk := fun i b hl => by
        obtain ⟨g, h1, h2⟩ := hst.blk i b (up hl)
        exact ⟨g, h1, h2.mono hle (Mu.le_refl μ)⟩
      apart := fun i b g bb hl hg' hb => by
        obtain ⟨h1, h2⟩ := hst.apart i b g bb (up hl) hg' hb
        refine ⟨?_, h2⟩
        unfold Imm.plus
        split
        · rename_i hm; exact absurd ⟨i, b, g, hl, hg', hb⟩ (hno bb (zbo.1 hm))
        · exact h1
      inj := fun i j bi bj gi gj b hi hj => hst.inj i j bi bj gi gj b (up hi) (up hj)
      nodup := .nil
      idsFree := fun i hi => by cases hi }
  refine (hE (I.plus bs w) μ w xs hst0 (hview vs I _ μ w bs hP hle hJb _ (hx.mono hle (Mu.le_refl μ)))).mono (fun u w' hu => ?_) (fun _ _ h => h)
  obtain ⟨I', μ', r1, r2, r3, r4⟩ := hu
  obtain ⟨ν, hν⟩ : ∃ ν : Mu, ν = fun i => if i = k then some (hpG vs bs) else μ' i := ⟨_, rfl⟩
  have hνk : ν k = some (hpG vs bs) := by rw [hν]; simp
  have hνo : ∀ i, i ≠ k → ν i = μ' i := fun i hi => by rw [hν]; simp [hi]
  have hlive : ∀ {i b}, zap ((k, some (.hp A)) :: st1) i b → (i = k ∧ b = .hp A) ∨ (i ≠ k ∧ zap st1 i b) := fun {i b} hl => by
    rcases zah.1 hl with ⟨rfl, rfl⟩ | h
    · exact .inl ⟨rfl, rfl⟩
    · exact .inr h
  have hheap : ∀ b ∈ bs, w'.heap[b]? = w.heap[b]? := fun b hb => r4.block b (hbs b hb).2 (hno b hb)
  have hno1 : ∀ b ∈ bs, ∀ i blk g, zap st1 i blk → μ' i = some g → ¬ zgd g b := fun b hb i blk g h1 h2 h3 => hno b hb (r4.fresh b (hbs b hb).2 ⟨i, blk, g, h1, h2, h3⟩)
  refine ⟨I, ν, zwy hd r1 (fun i hi g hg' => by rw [hνo i (fun e => hkd (e ▸ hi))]; exact hg'), ?_, ?_, ?_⟩
  · refine { imm := fun b o h => r2.imm b o (r4.imm b o (hle b o h)), blk := fun i b hl => ?_, apart := fun i b g bb hl hg' hb => ?_, inj := fun i j bi bj gi gj b hi hj hgi hgj hbi hbj => ?_, nodup := .nil, idsFree := fun i hi => by cases hi }
    · rcases hlive hl with ⟨rfl, rfl⟩ | ⟨hne, h⟩
      · exact ⟨_, hνk, vs, bs, rfl, A.loc hheap hP⟩
      · obtain ⟨g, q1, q2⟩ := r2.blk i b h
        exact ⟨g, by rw [hνo i hne]; exact q1, zwz (zjp hs h) q2⟩
    · rcases hlive hl with ⟨rfl, rfl⟩ | ⟨hne, h⟩
      · rw [hνk] at hg'; cases hg'
        have := hbs bb (za0.1 hb)
        exact ⟨this.1, Nat.lt_of_lt_of_le this.2 r4.size⟩
      · rw [hνo i hne] at hg'
        obtain ⟨q1, q2⟩ := r2.apart i b g bb h hg' hb
        refine ⟨?_, q2⟩
        cases hI : I bb with
        | none => rfl
        | some o => rw [r4.imm bb o (hle bb o hI)] at q1; cases q1
    · rcases hlive hi with ⟨rfl, rfl⟩ | ⟨hni, h1⟩
      · rw [hνk] at hgi; cases hgi
        rcases hlive hj with ⟨rfl, rfl⟩ | ⟨hnj, h2⟩
        · rfl
        · rw [hνo j hnj] at hgj
          exact absurd hbj (hno1 b (za0.1 hbi) j bj gj h2 hgj)
      · rw [hνo i hni] at hgi
        rcases hlive hj with ⟨rfl, rfl⟩ | ⟨hnj, h2⟩
        · rw [hνk] at hgj; cases hgj
          exact absurd hbi (hno1 b (za0.1 hbj) i bi gi h1 hgi)
        · rw [hνo j hnj] at hgj
          exact r2.inj i j bi bj gi gj b h1 h2 hgi hgj hbi hbj
  · intro i hi v hv
    by_cases e : i = k
    · subst e; rw [hg] at hv; cases hv; exact hνk
    · rw [hνo i e]
      refine r3 i ?_ v hv
      simp only [nms, List.map_cons, List.mem_cons] at hi
      exact hi.resolve_left e
  · refine { imm := Imm.le_refl I, os := r4.os, tape := r4.tape, output := r4.output, size := r4.size, block := fun b hb ho => r4.block b hb fun h => ho ?_, fresh := fun b hb ⟨i, blk, g, h1, h2, h3⟩ => ?_, old := fun _ _ _ => rfl }
    · obtain ⟨i, blk, g, h1, h2, h3⟩ := h
      exact ⟨i, blk, g, up h1, h2, h3⟩
    · rcases hlive h1 with ⟨rfl, rfl⟩ | ⟨hne, h⟩
      · rw [hνk] at h2; cases h2
        exact ⟨_, _, _, hkl, hg, h3⟩
      · rw [hνo i hne] at h2
        obtain ⟨j, bj, gj, q1, q2, q3⟩ := r4.fresh b hb ⟨i, blk, g, h, h2, h3⟩
        exact ⟨j, bj, gj, up q1, q2, q3⟩
end
end Go.Hk

/- A nil slice is a row of nothing that is zbx by name. -/
namespace Go.Hk
section
variable {P : Program} {n : Nat} {F : List Nat} {Q : DQ} {todo : List DI} {env : Env} {st : St} {ids' : List Nat}
theorem zz2 (t j : Nat) {e : TypeId} {sz : Nat} (hsz : 0 < sz) (ht : lk env t = some .nils) (h : DGo P n F Q todo ((t, .own j 0) :: env) ((j, some (.row e sz [])) :: st) ids') : DGo P n F Q todo env st (j :: ids') := by
  refine zd1 fun I μ a w hc => ?_
  have hv : a.tmps.getD t undef = .slice none 0 0 := by
    have := hc.env t _ ht
    generalize a.tmps.getD t undef = v at this
    cases this with
    | nils => rfl
  obtain ⟨q1, q2, q3⟩ := StRep.relay (R := []) (new := [(j, .slice none 0 0, .row e sz [])]) (ids' := ids') hc.toStRep
    (fun p hp b hb => by rw [List.mem_singleton.1 hp] at hb; exact hb.elim)
    (fun p hp q hq b _ _ => by rw [List.mem_singleton.1 hp, List.mem_singleton.1 hq]) (Imm.le_refl I) hc.imm (fun b o h => .inl h)
    (fun _ p hp => by
      rw [List.mem_singleton.1 hp]
      exact ⟨[], World.ownsRow_nil w _ e sz, ⟨rfl, fun i v x h _ => by simp at h⟩, fun _ h => by simp at h, fun _ h => by simp at h, hsz⟩)
  refine ⟨I, _, _, _, ids', q2, fun t' d hd => ?_, q3, .of_le q1, h⟩
  by_cases e : t = t'
  · subst e
    rw [zaj] at hd; cases hd
    rw [hv]
    exact .own j 0 none 0 (by simp [zg2, lk])
  · rw [zam _ _ e] at hd; exact (hc.env t' d hd).mono (Imm.le_refl I) q1
end
end Go.Hk

/- Owned memory is lent under its own names: a contract of a function of values, for values that stand in zbx blocks (a box, a row), which it leaves alone. -/
namespace Go.Hk
section
variable {P : Program} {I J : Imm} {μ ν : Mu} {w : World}
noncomputable def zxt (I : Imm) (μ : Mu) (st : St) (w : World) : Imm := fun b => open Classical in if zbx μ st b then w.heap[b]? else I b
theorem zq6 {f : FuncId} {das das' : List D} {stL st0 st1 : St} {d : D} (hE : zc5 P f das st0 (.ret d st1)) (hd : yi4 d = true) (hs : yff st1)
    (h0 : ∀ i ∈ nms stL, i ∉ nms st0 ∧ i ∉ nms st1 ∧ i ∉ nmD d) (hcl : ∀ i b, zap stL i b → ∀ j ∈ nmB b, j ∈ nms stL)
    (hview : ∀ I J μ w, StRep I μ stL [] w → I.le J → (∀ i blk g b, zap stL i blk → μ i = some g → zgd g b → J b = w.heap[b]?) → ∀ xs : List Value, RepL J μ xs das' → RepL J μ xs das) :
    zc5 P f das' (stL ++ st0) (.ret d (stL ++ st1)) := by
  intro I μ w xs hst hx
  have upL : ∀ {i b}, zap stL i b → zap (stL ++ st0) i b := fun h => zxs h
  have up : ∀ {i b}, zap st0 i b → zap (stL ++ st0) i b := fun {i b} h => zxr (fun hm => (h0 i hm).1 (zbv h)) h
  have hown : ∀ b, zbx μ stL b → I b = none ∧ b < w.heap.size := fun b ⟨i, blk, g, h1, h2, h3⟩ => hst.apart i blk g b (upL h1) h2 h3
  have hle : I.le (zxt I μ stL w) := fun b o h => by
    unfold zxt
    by_cases ho : zbx μ stL b
    · rw [(hown b ho).1] at h; cases h
    · simp [ho, h]
  have hJb : ∀ b, zbx μ stL b → zxt I μ stL w b = w.heap[b]? := fun b ho => by simp [zxt, ho]
  have hno : ∀ b, zbx μ stL b → ¬ zbx μ st0 b := fun b ⟨i, bi, gi, q1, q2, q3⟩ ⟨j, bj, gj, h1, h2, h3⟩ => by
    have := hst.inj i j bi bj gi gj b (upL q1) (up h1) q2 h2 q3 h3
    subst this
    exact (h0 i (zbv q1)).1 (zbv h1)
  have hstL : StRep I μ stL [] w :=
    { imm := hst.imm, blk := fun i b h => hst.blk i b (upL h), apart := fun i b g k h => hst.apart i b g k (upL h), inj := fun i j bi bj gi gj b hi hj => hst.inj i j bi bj gi gj b (upL hi) (upL hj), nodup := .nil, idsFree := fun i hi => by cases hi }
  have hst0 : StRep (zxt I μ stL w) μ st0 [] w :=
    { imm := fun b o h => by
        by_cases ho : zbx μ stL b
        · rw [hJb b ho] at h; exact h
        · simp [zxt, ho] at h; exact hst.imm b o h
      blk := fun i b hl => by
        obtain ⟨g, h1, h2⟩ := hst.blk i b (up hl)
        exact ⟨g, h1, h2.mono hle (Mu.le_refl μ)⟩
      apart := fun i b g bb hl hg' hb => by
        obtain ⟨h1, h2⟩ := hst.apart i b g bb (up hl) hg' hb
        refine ⟨?_, h2⟩
        have : ¬ zbx μ stL bb := fun ho => hno bb ho ⟨i, b, g, hl, hg', hb⟩
        simp [zxt, this, h1]
      inj := fun i j bi bj gi gj b hi hj => hst.inj i j bi bj gi gj b (up hi) (up hj)
      nodup := .nil
      idsFree := fun i hi => by cases hi }
  refine (hE (zxt I μ stL w) μ w xs hst0 (hview I _ μ w hstL hle (fun i blk g b h1 h2 h3 => hJb b ⟨i, blk, g, h1, h2, h3⟩) _ (hx.mono hle (Mu.le_refl μ)))).mono (fun u w' hu => ?_) (fun _ _ h => h)
  obtain ⟨I', μ', r1, r2, r3, r4⟩ := hu
  obtain ⟨ν, hν⟩ : ∃ ν : Mu, ν = fun i => if i ∈ nms stL then μ i else μ' i := ⟨_, rfl⟩
  have hνk : ∀ i, i ∈ nms stL → ν i = μ i := fun i hi => by rw [hν]; simp [hi]
  have hνo : ∀ i, i ∉ nms stL → ν i = μ' i := fun i hi => by rw [hν]; simp [hi]
  have hlive : ∀ {i b}, zap (stL ++ st1) i b → zap stL i b ∨ (i ∉ nms stL ∧ zap st1 i b) := fun h => yjx h
  have hheap : ∀ b, zbx μ stL b → w'.heap[b]? = w.heap[b]? := fun b hb => r4.block b (hown b hb).2 (hno b hb)
  have hno1 : ∀ b, zbx μ stL b → ∀ i blk g, zap st1 i blk → μ' i = some g → ¬ zgd g b := fun b hb i blk g h1 h2 h3 => hno b hb (r4.fresh b (hown b hb).2 ⟨i, blk, g, h1, h2, h3⟩)
  refine ⟨I, ν, zwy hd r1 (fun i hi g hg' => by rw [hνo i (fun e => (h0 i e).2.2 hi)]; exact hg'), ?_, ?_, ?_⟩
  · refine { imm := fun b o h => r2.imm b o (r4.imm b o (hle b o h)), blk := fun i b hl => ?_, apart := fun i b g bb hl hg' hb => ?_, inj := fun i j bi bj gi gj b hi hj hgi hgj hbi hbj => ?_, nodup := .nil, idsFree := fun i hi => by cases hi }
    · rcases hlive hl with h | ⟨hne, h⟩
      · obtain ⟨g, q1, q2⟩ := hstL.blk i b h
        refine ⟨g, by rw [hνk i (zbv h)]; exact q1, ?_⟩
        exact (q2.world fun k hk => hheap k ⟨i, b, g, h, q1, hk⟩).sub fun j hj g' hg' => by rw [hνk j (hcl i b h j hj)]; exact hg'
      · obtain ⟨g, q1, q2⟩ := r2.blk i b h
        exact ⟨g, by rw [hνo i hne]; exact q1, zwz (zjp hs h) q2⟩
    · rcases hlive hl with h | ⟨hne, h⟩
      · rw [hνk i (zbv h)] at hg'
        have := hown bb ⟨i, b, g, h, hg', hb⟩
        exact ⟨this.1, Nat.lt_of_lt_of_le this.2 r4.size⟩
      · rw [hνo i hne] at hg'
        obtain ⟨q1, q2⟩ := r2.apart i b g bb h hg' hb
        refine ⟨?_, q2⟩
        cases hI : I bb with
        | none => rfl
        | some o => rw [r4.imm bb o (hle bb o hI)] at q1; cases q1
    · rcases hlive hi with h1 | ⟨hni, h1⟩
      · rw [hνk i (zbv h1)] at hgi
        rcases hlive hj with h2 | ⟨hnj, h2⟩
        · rw [hνk j (zbv h2)] at hgj
          exact hstL.inj i j bi bj gi gj b h1 h2 hgi hgj hbi hbj
        · rw [hνo j hnj] at hgj
          exact absurd hbj (hno1 b ⟨i, bi, gi, h1, hgi, hbi⟩ j bj gj h2 hgj)
      · rw [hνo i hni] at hgi
        rcases hlive hj with h2 | ⟨hnj, h2⟩
        · rw [hνk j (zbv h2)] at hgj
          exact absurd hbi (hno1 b ⟨j, bj, gj, h2, hgj, hbj⟩ i bi gi h1 hgi)
        · rw [hνo j hnj] at hgj
          exact r2.inj i j bi bj gi gj b h1 h2 hgi hgj hbi hbj
  · intro i hi v hv
    by_cases e : i ∈ nms stL
    · rw [hνk i e]; exact hv
    · rw [hνo i e]
      refine r3 i ?_ v hv
      simp only [nms, List.map_append, List.mem_append] at hi e ⊢
      exact hi.resolve_left e
  · refine { imm := Imm.le_refl I, os := r4.os, tape := r4.tape, output := r4.output, size := r4.size, block := fun b hb ho => r4.block b hb fun h => ho ?_, fresh := fun b hb ⟨i, blk, g, h1, h2, h3⟩ => ?_, old := fun _ _ _ => rfl }
    · obtain ⟨i, blk, g, h1, h2, h3⟩ := h
      exact ⟨i, blk, g, up h1, h2, h3⟩
    · rcases hlive h1 with h | ⟨hne, h⟩
      · rw [hνk i (zbv h)] at h2
        exact ⟨_, _, _, upL h, h2, h3⟩
      · rw [hνo i hne] at h2
        obtain ⟨j, bj, gj, q1, q2, q3⟩ := r4.fresh b hb ⟨i, blk, g, h, h2, h3⟩
        exact ⟨j, bj, gj, up q1, q2, q3⟩
theorem zu1 {g : Value} {e : TypeId} {sz : Nat} {es : List (List V)} (h : BlkRep I μ w g (.row e sz es)) (hle : I.le J) (hb : ∀ b, zgd g b → J b = w.heap[b]?) : RepV J g (.sl es) := by
  obtain ⟨xs, hown, hrep, hsz, hone, hp⟩ := h
  rcases hown.2 with ⟨rfl, h0⟩ | ⟨gb, cap, cur, rfl, _, hheap, hle2, hcm, hcs, htake⟩
  · have : es = [] := List.eq_nil_of_length_eq_zero h0
    subst this
    exact .slnil
  · have hJg : J gb = some (.cells cur e (0, 0)) := (hb gb rfl).trans hheap
    have hcell : ∀ (i : Nat) (c : List V) (j : Nat) (x : V), es[i]? = some c → c[j]? = some x → ∃ v, xs[i * sz + j]? = some v ∧ cur[i * sz + j]? = some v ∧ RepV I v x ∧ v.oneCell' = true := by
      intro i c j x hi hj
      have h1 := zdp hsz i c j x hi hj
      have hlt : i * sz + j < xs.length := by rw [hrep.1]; exact (List.getElem?_eq_some_iff.1 h1).1
      obtain ⟨v, hv⟩ : ∃ v, xs[i * sz + j]? = some v := ⟨_, List.getElem?_eq_getElem hlt⟩
      have hr := hrep.2 _ _ _ hv h1
      refine ⟨v, hv, ?_, hr, ?_⟩
      · rw [← htake, List.getElem?_take] at hv
        split at hv
        · simpa using hv
        · cases hv
      · have := hone c (List.mem_of_getElem? hi) x (List.mem_of_getElem? hj)
        exact hr.one this
    refine .sl gb 0 _ cap sz es (fun i j => (cur[i * sz + j]?).getD undef) rfl hle2 hcm hsz (fun i c j x hi hj => ?_) (fun i c j x hi hj => ?_)
    · obtain ⟨v, _, h2, _, h4⟩ := hcell i c j x hi hj
      simp [Imm.cell, hJg, h2, h4]
    · obtain ⟨v, _, h2, h3, _⟩ := hcell i c j x hi hj
      simp only [h2, Option.getD_some]
      exact h3.mono hle
theorem yjz {st : St} {k r : Nat} {t e : TypeId} {sz sz2 : Nat} {ds : List D} {es : List (List V)} {xs : List V} (hst : StRep I μ st [] w) (hk : zap st k (.cells t sz ds)) (hr : zap st r (.row e sz2 es)) (hle : I.le J)
    (hb : ∀ i blk g b, zap st i blk → μ i = some g → zgd g b → J b = w.heap[b]?) (hxs : yl4 (yeu r es ds) = some xs) {v : Value} {off : Nat} (hv : RepD J μ v (.ref k off)) : RepD J μ v (.ip t xs off) := by
  obtain ⟨gk, hgk, hs, b, us, rfl, hheap, hrep, hone⟩ := hst.blk k _ hk
  obtain ⟨gr, hgr, hrow⟩ := hst.blk r _ hr
  have h1 : RepV J gr (.sl es) := zu1 hrow hle fun b ho => hb r _ gr b hr hgr ho
  have hJk : J b = some (.cells us t (0, 0)) := (hb k _ _ b hk hgk rfl).trans hheap
  have h2 : RepL J μ us.toList (yeu r es ds) := by
    refine ⟨by rw [zf8, List.length_map, hrep.1], fun i v x hv hx => ?_⟩
    rw [zf8, List.getElem?_map] at hx
    cases hl : ds[i]? with
    | none => rw [hl] at hx; cases hx
    | some y => rw [hl] at hx; cases hx; exact (hrep.2 i v y hv hl).frz hle hgr h1
  have h3 : RepVL J us.toList xs := zua hxs h2
  cases hv with
  | ref b' id o hm =>
    rw [hm] at hgk
    cases hgk
    have := RepD.ip (I := J) (μ := μ) b 0 t xs off (fun j => (us[j]?).getD undef) (fun j x hx => ?_) (fun j x hx => ?_)
    · simpa using this
    · have hlt : j < us.toList.length := by rw [h3.1]; exact (List.getElem?_eq_some_iff.1 hx).1
      have hu : us[j]? = some us.toList[j] := by simp
      simp only [Imm.cell, hJk, Nat.zero_add, hu, Option.getD_some, true_and]
      exact hone _ (List.getElem_mem hlt)
    · have hlt : j < us.toList.length := by rw [h3.1]; exact (List.getElem?_eq_some_iff.1 hx).1
      have hu : us[j]? = some us.toList[j] := by simp
      simp only [hu, Option.getD_some]
      exact h3.2 j _ x (List.getElem?_eq_getElem hlt) hx
end
end Go.Hk

/- Of what is zbx by address a part becomes immutable; the rest is zbx as before. -/
namespace Go.Hk
section
variable {P : Program} {n : Nat} {F : List Nat} {Q : DQ} {todo : List DI} {env : Env} {st : St} {ids' : List Nat}
theorem yd8 {α : Type} (id j : Nat) {A : Asn} (B : α → Asn) (hl : lk st id = some (some (.hp A)))
    (hA : ∀ vs I w bs, A.P vs I w bs → ∃ x b1, (∀ b ∈ b1, b ∈ bs) ∧ ∀ J, I.le J → (∀ b ∈ bs, b ∉ b1 → J b = w.heap[b]?) → (B x).P [] J w b1)
    (h : ∀ x, DGo P n F Q todo env ((j, some (.hp (B x))) :: (id, none) :: st) ids') : DGo P n F Q todo env st (j :: ids') := by
  refine zd1 fun I μ a w hc => ?_
  obtain ⟨g, hg, vs, bs, rfl, hP⟩ := hc.blk id _ hl
  obtain ⟨x, b1, hb1, hB⟩ := hA vs I w bs hP
  have hbs : ∀ b ∈ bs, I b = none ∧ b < w.heap.size := fun b hb => hc.apart id _ _ b hl hg (za0.2 hb)
  obtain ⟨rest, hrest⟩ : ∃ rest, rest = bs.filter fun b => !zk5 b1 b := ⟨_, rfl⟩
  have hmem : ∀ b, b ∈ rest ↔ b ∈ bs ∧ b ∉ b1 := fun b => by rw [hrest, List.mem_filter]; simp [← zbo]
  have hle : I.le (I.plus rest w) := fun b o h => by
    have : zk5 rest b = false := by
      cases hm : zk5 rest b with
      | false => rfl
      | true => rw [(hbs b ((hmem b).1 (zbo.1 hm)).1).1] at h; cases h
    simp [Imm.plus, this, h]
  have hR := hB (I.plus rest w) hle fun b h1 h2 => by simp [Imm.plus, zbo.2 ((hmem b).2 ⟨h1, h2⟩)]
  obtain ⟨q1, q2, q3⟩ := StRep.relay (R := [id]) (new := [(j, hpG [] b1, .hp (B x))]) (ids' := ids') (J := I.plus rest w) hc.toStRep
    (fun p hp b' hb => by
      rw [List.mem_singleton.1 hp] at hb
      exact ⟨id, _, _, by simp, hl, hg, za0.2 (hb1 b' (za0.1 hb))⟩)
    (fun p hp q hq b _ _ => by rw [List.mem_singleton.1 hp, List.mem_singleton.1 hq]) hle
    (fun b o h => by
      unfold Imm.plus at h
      split at h
      · exact h
      · exact hc.imm b o h)
    (fun b' o h => by
      unfold Imm.plus at h
      split at h
      · rename_i hm
        have hm := (hmem b').1 (zbo.1 hm)
        refine .inr ⟨⟨id, _, _, by simp, hl, hg, za0.2 hm.1⟩, fun p hp hb => ?_⟩
        rw [List.mem_singleton.1 hp] at hb
        exact hm.2 (za0.1 hb)
      · exact .inl h)
    (fun _ p hp => by
      rw [List.mem_singleton.1 hp]
      exact ⟨[], b1, rfl, hR⟩)
  exact ⟨_, _, env, _, ids', q2, fun t d hd => (hc.env t d hd).mono hle q1, q3, .of_le q1, h x⟩
end
end Go.Hk

/- Trees that are zbx: the parts of a term become values, its patterns stay zbx. -/
namespace Go.Hk
open Go.Proofs
def zu4 (l : List An) : List An := l.map fun a => .im true (cA a) (vA a)
theorem zqn (l : List An) : (zu4 l).length = l.length := by simp [zu4]
theorem zym : ∀ l : List An, zdv (zu4 l) = []
  | [] => rfl
  | a :: r => by
    have := zym r
    simp only [zu4] at this
    simp [zu4, zdv, anB, this]
theorem yao : ∀ l : List An, vAs (zu4 l) = vAs l
  | [] => rfl
  | a :: r => by
    have := yao r
    simp only [zu4] at this
    simp [zu4, vAs, vA, this]
theorem ylx {I J : Imm} {w : World} (hIJ : I.le J) {b : Nat} : ∀ {l : List An} {i : Nat}, zfa I w true b i l → (∀ k ∈ zdv l, J k = w.heap[k]?) → zfa J w true b i (zu4 l)
  | [], _, _, _ => by simp [zu4, zfa]
  | a :: r, i, h, hJ => by
    simp only [zfa] at h
    simp only [zdv, List.mem_append] at hJ
    have ih := ylx hIJ (l := r) (i := i + 1) h.2 fun k hk => hJ k (.inr hk)
    simp only [zu4, List.map_cons, zfa] at ih ⊢
    have hv : (vA a).length = szA true := by
      have := zv8 h.1.2.2
      rw [this, h.1.1]
    exact ⟨⟨rfl, h.1.2.1, zt2 hIJ h.1.2.2 (fun k hk => hJ k (.inl hk)), zyh h.1.2.2, hv⟩, ih⟩
theorem ymf {I : Imm} {w : World} {vs : List Value} {bs : List Nat} {b : Nat} {o n : Int} {x : Str} {v : Value} {ks : List An} {u : Value} {ps : List An} (h : (zid b (.mk true o n x v ks u ps)).P vs I w bs) :
    ∃ b1, (∀ k ∈ b1, k ∈ bs) ∧ ∀ J, I.le J → (∀ k ∈ bs, k ∉ b1 → J k = w.heap[k]?) → (zid b (.mk true o n x v (zu4 ks) u ps)).P [] J w b1 := by
  obtain ⟨h1, h2, h3, h4, h5, h6⟩ := h
  have hB : anB (.mk true o n x v (zu4 ks) u ps) = zdj v ks.length ++ (zdj u ps.length ++ zdv ps) := by simp [anB, zym, zqn]
  have hA : anB (.mk true o n x v ks u ps) = (zdj v ks.length ++ zdv ks) ++ (zdj u ps.length ++ zdv ps) := rfl
  rw [hA] at h1
  rw [h1] at h2
  refine ⟨b :: (zdj v ks.length ++ (zdj u ps.length ++ zdv ps)), fun k hk => ?_, fun J hJ hJk => ?_⟩
  · rw [h1]
    simp only [List.mem_cons, List.mem_append] at hk ⊢
    rcases hk with h | h | h | h
    · exact .inl h
    · exact .inr (.inl (.inl h))
    · exact .inr (.inr (.inl h))
    · exact .inr (.inr (.inr h))
  · have hsub : (b :: (zdj v ks.length ++ (zdj u ps.length ++ zdv ps))).Sublist (b :: ((zdj v ks.length ++ zdv ks) ++ (zdj u ps.length ++ zdv ps))) := by
      refine List.Sublist.cons_cons b (List.Sublist.append (List.sublist_append_left _ _) (List.Sublist.refl _))
    simp only [anW] at h6
    refine ⟨by rw [hB], h2.sublist hsub, rfl, h4, h5, ?_⟩
    simp only [anW, zqn]
    refine ⟨⟨h6.1.1, ylx hJ h6.1.2 fun k hk => hJk k (by rw [h1]; simp [hk]) fun hk2 => ?_⟩, fun _ => ⟨(h6.2 trivial).1, zjj hJ (h6.2 trivial).2⟩⟩
    have n1 := List.nodup_cons.1 h2
    have n2 := List.nodup_append.1 n1.2
    have n3 := List.nodup_append.1 n2.1
    rcases List.mem_cons.1 hk2 with rfl | hk2
    · exact n1.1 (by simp [hk])
    · rcases List.mem_append.1 hk2 with h | h
      · exact n3.2.2 k h k hk rfl
      · exact n2.2.2 k (by simp [hk]) k h rfl
end Go.Hk

/- Contracts of term: the names that a term binds in a part, in a row that is zbx (list). -/
namespace Go.Hk
open Go.Proofs
set_option maxRecDepth 100000 in
theorem zm6 (l : List Str) : DGo Tryz.prog Tryz.f65.ntmps [] (yex ttN Tryz.f65.results.toList (.ret (.own 4 (zbu l).length) [(4, some (.row 9 1 (zbu l)))])) [.inBlock 0, .code (zh9 Tryz.f65 3)] [(5, .ref 1 0)] (stL l l.length) [7, 8, 9] := by
  cases l with
  | nil =>
    refine nd [] rfl (by simp [zai]) ?_
    refine zz2 (e := 9) (sz := 1) 4 7 (by decide) rfl ?_
    refine zcq 4 7 rfl ?_
    exact zaa ⟨_, rfl, rfl, rfl, trivial⟩
  | cons x r =>
    have e : zbu ((x :: r).take ((x :: r).length)) = zbu (x :: r) := by rw [List.take_of_length_le (Nat.le_refl _)]
    have e2 : stL (x :: r) (x :: r).length = [(1, some (.cells 36 1 [.own 4 (zbu (x :: r)).length])), (4, some (.row 9 1 (zbu (x :: r))))] := by
      simp only [List.length_cons, stL] at e ⊢
      rw [e]
    rw [e2]
    refine nd [] rfl (by simp [zai]) ?_
    exact zaa ⟨_, rfl, rfl, rfl, trivial⟩
set_option maxRecDepth 100000 in
theorem ybs (op n : Int) (x : Str) (ks : List Tm) (ps : List Ty) (kid : Int) (hk : kid ≤ 1000000) (hp : zb2 op kid = false → zci op kid = true → ∃ p, ps[(kid - 1).toNat]? = some p ∧ (za8 p).length ≤ 1000000) :
    zc5 Tryz.prog 65 [.ip 26 (dTmc (.mk op n x ks ps)) 0, .imm (.int .i64 kid)] [] (.ret (.own 4 (zbu (zad (.mk op n x ks ps) kid)).length) [(4, some (.row 9 1 (zbu (zad (.mk op n x ks ps) kid))))]) := by
  refine zaf zbs Tryz.func65 (by decide +kernel) rfl [1, 6, 7, 8, 9] rfl rfl ?_
  refine nd [] rfl (by simp [zai]) ?_
  cases h : zb2 op kid with
  | true =>
    have e : zad (.mk op n x ks ps) kid = [x] := by simp [zad, h]
    rw [e]
    refine zar (st0 := []) (fr := [6]) [] [(6, 6)] rfl (by simp) (zt0 op n x ks ps kid h) trivial rfl rfl rfl rfl ?_
    refine nd [] rfl (by simp [zai]) ?_
    refine zdq (y := 3) (j := 4) (j2 := 5) (stc := yef (.mk op n x ks ps)) (stc' := yef (.mk op n x ks ps)) (stx := stL [x] 0) (stB := stL [x] 1) (pend := none) (E := [(5, .ref 1 0)]) (ids' := [7, 8, 9]) (d := .tup []) rfl Tryz.func97 (by decide +kernel) rfl (by decide) ⟨rfl, trivial⟩
      (zb4 ⟨rfl, rfl, trivial⟩) (fun L h1 h2 h3 h4 h5 h6 h7 => zyl (r := true) (.mk op n x ks ps) (.cons (zqh [x] (by simp) 0 (.mk op n x ks ps) rfl h1 h2 h3 h4 h5 h6 h7) (.nil _))) ?_ ?_ ?_ ?_ (zm6 [x])
    · simp [yef, stL, nms]
    · simp [yef, nms]
    · intro i hi
      have e : nmL (zlh (zie (zbq [] ++ [(6, 6)])) [] ++ zlh (zie (zbq [] ++ [(6, 6)])) [.ref 6 0]) = [6] := rfl
      rw [e] at hi
      simpa [yef, nms, ze1, nmB, nmL, nmD] using hi
    · refine ⟨by decide, ?_⟩
      simp [stL, nmE, nmD, ze1, nmB, nmL, nms]
  | false =>
    cases h2 : zci op kid with
    | true =>
      obtain ⟨p, hp1, hp2⟩ := hp h h2
      have e : zad (.mk op n x ks ps) kid = za8 p := by
        show (if zb2 op kid then [x] else if zci op kid then (match ps[(kid - 1).toNat]? with | some p => za8 p | none => []) else []) = za8 p
        rw [h, h2, hp1]
        rfl
      rw [e]
      refine zar (st0 := []) (fr := [6]) [] [(6, 6)] rfl (by simp) (zyk op n x ks ps kid h h2 p hp1 hk) trivial rfl rfl rfl rfl ?_
      refine nd [] rfl (by simp [zai]) ?_
      refine zdq (y := 3) (j := 4) (j2 := 5) (stc := ycd p) (stc' := ycd p) (stx := stL (za8 p) 0) (stB := stL (za8 p) (za8 p).length) (pend := none) (E := [(5, .ref 1 0)]) (ids' := [7, 8, 9]) (d := .tup []) rfl Tryz.func113 (by decide +kernel) rfl (by decide) ⟨rfl, trivial⟩
        (zb4 ⟨rfl, rfl, trivial⟩) (fun L h1 h2 h3 h4 h5 h6 h7 => zxk (b := true) p ?_) ?_ ?_ ?_ ?_ (zm6 (za8 p))
      · have := Yields.all (P := Tryz.prog) (l := zh7 p) (fun i => zdl L (stL (za8 p) i) none) fun i d hi => by
          rw [ziw, List.getElem?_map] at hi
          cases hu : (zc6 p)[i]? with
          | none => rw [hu] at hi; cases hi
          | some u =>
            rw [hu] at hi
            cases hi
            exact zqi (za8 p) hp2 i u (by simp [za8, hu]) h1 h2 h3 h4 h5 h6 h7
        have hl : (zh7 p).length = (za8 p).length := by simp [ziw, za8]
        rw [hl] at this
        exact this
      · cases (za8 p).length <;> simp [ycd, stL, nms]
      · simp [ycd, nms]
      · intro i hi
        have e : nmL (zlh (zie (zbq [] ++ [(6, 6)])) [] ++ zlh (zie (zbq [] ++ [(6, 6)])) [.ref 6 0]) = [6] := rfl
        rw [e] at hi
        simpa [ycd, nms, ze1, nmB, nmL, nmD] using hi
      · refine ⟨by decide, ?_⟩
        cases (za8 p).length <;> simp [stL, nmE, nmD, ze1, nmB, nmL, nms]
    | false =>
      have e : zad (.mk op n x ks ps) kid = [] := by simp [zad, h, h2]
      rw [e]
      refine zar (st0 := []) (fr := []) [] [] rfl (by simp) (zt1 op n x ks ps kid h h2) trivial rfl rfl rfl rfl ?_
      refine nd [] rfl (by simp [zai]) ?_
      refine zrb 9 rfl ?_
      refine zdq (y := 3) (j := 4) (j2 := 5) (stc := []) (stc' := []) (stx := stL [] 0) (stB := stL [] 0) (pend := none) (E := [(5, .ref 1 0)]) (ids' := [7, 8, 9]) (d := .tup []) rfl Tryz.func99 (by decide +kernel) rfl (by decide) ⟨rfl, trivial⟩
        (zb4 ⟨rfl, trivial⟩) (fun L h1 h2 h3 h4 h5 h6 h7 => zml) ?_ ?_ ?_ ?_ (zm6 [])
      · simp [nms]
      · simp [nms]
      · intro i hi
        have e : nmL (([] : List D) ++ []) = [] := rfl
        rw [e] at hi
        simp [ze1] at hi
      · refine ⟨by decide, ?_⟩
        simp [stL, nmE, nmD, ze1, nmB, nmL, nms]
end Go.Hk

/- The names that a term binds in a part, of a term that is zbx by address (list). -/
namespace Go.Hk
open Go.Proofs
theorem yfm {I J : Imm} {μ : Mu} {w : World} {vs : List Value} {bs : List Nat} {b : Nat} {a : An} {v : Value} (h : (zid b a).P vs I w bs) (hle : I.le J) (hb : ∀ k ∈ bs, J k = w.heap[k]?) (hv : RepD J μ v (.raw (.pointer (some ⟨b, 0, none⟩)))) :
    RepD J μ v (.ip 26 (vA a) 0) := by
  obtain ⟨h1, h2, h3, h4, ⟨cur, ty, k, h5, h6⟩, h7⟩ := h
  have hr : RepVL J (cA a) (vA a) := zt2 hle h7 fun k hk => hb k (by rw [h1]; simp [hk])
  have hJ : J b = some (.cells cur ty k) := (hb b (by rw [h1]; simp)).trans h5
  have e := hv.rawInv
  subst e
  have hget : ∀ (j : Nat) (x : V), (vA a)[j]? = some x → ∃ c, (cA a)[j]? = some c ∧ cur[j]? = some c := fun j x hx => by
    have hlt : j < (cA a).length := by rw [hr.1]; exact (List.getElem?_eq_some_iff.1 hx).1
    refine ⟨_, List.getElem?_eq_getElem hlt, ?_⟩
    have := h6 j _ (List.getElem?_eq_getElem hlt)
    simpa using this
  have := RepD.ip (I := J) (μ := μ) b 0 26 (vA a) 0 (fun j => (cur[j]?).getD undef) (fun j x hx => ?_) (fun j x hx => ?_)
  · simpa using this
  · obtain ⟨c, q1, q2⟩ := hget j x hx
    simp only [Imm.cell, hJ, Nat.zero_add, q2, Option.getD_some, true_and]
    exact zyh h7 c (List.mem_of_getElem? q1)
  · obtain ⟨c, q1, q2⟩ := hget j x hx
    simp only [q2, Option.getD_some]
    exact hr.2 j c x q1 hx
end Go.Hk

/- Contracts of term: all names that stand in a term, added to a set (stands). -/
namespace Go.Hk
open Go.Proofs
mutual
def zc8 : Tm → List Str → List Str
  | .mk op n x ks ps, m => zed (.mk op n x ks ps) 0 ks (if op = 4 then zlj m x else m)
def zed (t : Tm) : Nat → List Tm → List Str → List Str
  | _, [], m => m
  | i, k :: r, m => zed t (i + 1) r (zc8 k ((zad t i).foldl zlj m))
end
theorem yei {op n : Int} {x : Str} {ks : List Tm} {ps : List Ty} {kid : Int} (hp : zb2 op kid = false → zci op kid = true → ∃ p, ps[(kid - 1).toNat]? = some p ∧ (za8 p).length ≤ 1000000) : (zad (.mk op n x ks ps) kid).length ≤ 1000000 := by
  simp only [zad]
  split
  · simp
  · rename_i h1
    split
    · rename_i h2
      obtain ⟨p, h3, h4⟩ := hp (by simpa using h1) h2
      rw [h3]; exact h4
    · simp
def yl8 (t : Tm) (m : List Str) : Prop := zc5 Tryz.prog 66 [.imm (.agg (dTmc t)), .mapr 1] [(1, some (.map (zem m)))] (.ret (.tup []) [(1, some (.map (zem (zc8 t m))))])
set_option maxRecDepth 100000 in
theorem zwn : ∀ (t : Tm) (m : List Str), zfc t → yl8 t m
  | .mk op n x ks ps, m, hok => by
    obtain ⟨hk1, hk2, hk3⟩ := hok
    refine zaf zbl Tryz.func66 (by decide +kernel) rfl [2, 3, 4, 5, 6] rfl rfl ?_
    have tail : ∀ m1, zc8 (.mk op n x ks ps) m = zed (.mk op n x ks ps) 0 ks m1 →
        DGo Tryz.prog Tryz.f66.ntmps (nms [(1, some (.map (zem m)))]) (yex ttF Tryz.f66.results.toList (.ret (.tup []) [(1, some (.map (zem (zc8 (.mk op n x ks ps) m))))])) [.code (zh9 Tryz.f66 2)]
          [(2, .ref 2 0), (1, .mapr 1)] [(2, some (.immb 26 5 (dTmc (.mk op n x ks ps)))), (1, some (.map (zem m1)))] [3, 4, 5, 6] := fun m1 hm1 => by
      refine fd_ [] rfl (by simp) ?_
      refine zhv 2 rfl rfl ?_
      refine zak (fun y : Nat × List Str => [(17, .imm (.int .i64 y.1)), (16, .imm (.int .i64 ks.length)), (15, .imm (.sl (zdg ks))), (1, .mapr 1), (2, .ip 26 (dTmc (.mk op n x ks ps)) 0)])
        (fun y => [(1, some (.map (zem y.2)))]) [3, 4, 5, 6] (fun y => ks.length - y.1) (fun y => y.1 ≤ ks.length ∧ zc8 (.mk op n x ks ps) m = zed (.mk op n x ks ps) y.1 (ks.drop y.1) y.2) (0, m1)
        ⟨Nat.zero_le _, hm1⟩ ⟨rfl, zcr (by simp), rfl, rfl, rfl, trivial⟩ ⟨rfl, trivial⟩ rfl fun y hi ih => ?_
      obtain ⟨i, m2⟩ := y
      obtain ⟨hi1, hi2⟩ := hi
      simp only at hi1 hi2
      refine fd_ [] rfl (by simp) ?_
      refine zab rfl (fun h => ?_) (fun h => ?_)
      · simp at h
        obtain ⟨k, hk⟩ := zal h
        rw [zaq hk] at hi2
        have hbl : (zad (.mk op n x ks ps) i).length ≤ 1000000 := yei (hk2 i h)
        refine fd_ [] rfl (by simp) ?_
        refine fi_ rfl (c := dTmc k) (fun _ => ⟨by simp, by simpa using zch hk, by simp⟩) (by simp) ?_
        refine fg_ [] rfl (by simp) ?_
        refine zac rfl (fun _ => ygs op n x ks ps i (by omega) (hk2 i h)) (by simp) ?_
        refine fg_ [] rfl (by simp) ?_
        refine zak (fun z : Nat × List Str => [(25, .imm (.int .i64 z.1)), (24, .imm (.int .i64 (zad (.mk op n x ks ps) i).length)), (23, .imm (.sl (zbu (zad (.mk op n x ks ps) i)))), (5, .ref 3 0), (17, .imm (.int .i64 i)), (16, .imm (.int .i64 ks.length)), (15, .imm (.sl (zdg ks))), (1, .mapr 1), (2, .ip 26 (dTmc (.mk op n x ks ps)) 0)])
          (fun z => [(3, some (.immb 26 5 (dTmc k))), (1, some (.map (zem z.2)))]) [4, 5, 6] (fun z => (zad (.mk op n x ks ps) i).length - z.1)
          (fun z => z.1 ≤ (zad (.mk op n x ks ps) i).length ∧ (zad (.mk op n x ks ps) i).foldl zlj m2 = ((zad (.mk op n x ks ps) i).drop z.1).foldl zlj z.2) (0, m2)
          ⟨Nat.zero_le _, rfl⟩ ⟨rfl, zcr (by simp), rfl, rfl, rfl, rfl, rfl, rfl, rfl, trivial⟩ ⟨rfl, rfl, trivial⟩ rfl fun z hz ihz => ?_
        obtain ⟨j, m3⟩ := z
        obtain ⟨hj1, hj2⟩ := hz
        simp only at hj1 hj2
        refine fd_ [] rfl (by simp) ?_
        refine zab rfl (fun h4 => ?_) (fun h4 => ?_)
        · simp at h4
          obtain ⟨s, hs⟩ := zal h4
          rw [zaq hs] at hj2
          refine fd_ [] rfl (by simp) ?_
          refine fi_ rfl (c := [.str s]) (fun _ => ⟨by simp, by simpa using zdh hs, rfl⟩) (by simp) ?_
          refine fg_ [] rfl (by simp) ?_
          refine zoa zbl rfl rfl rfl (zc0 m3) ?_
          refine fg_ [] rfl (by simp) ?_
          rw [zlp]
          exact zae (ihz (j + 1, zlj m3 s) (by simp only; omega) ⟨by simp only; omega, hj2⟩) ⟨zcr (w64 (by simp only; omega) (by simp only; omega)), rfl, rfl, rfl, rfl, rfl, rfl, rfl, rfl, trivial⟩ ⟨rfl, rfl, trivial⟩ rfl
        · simp at h4
          rw [List.drop_eq_nil_of_le (by omega)] at hj2
          have hj2 : (zad (.mk op n x ks ps) i).foldl zlj m2 = m3 := hj2
          refine za2 rfl ?_
          refine fd_ [] rfl (by simp) ?_
          refine zar (fr := []) [(1, 1)] [] rfl (by simp) (zwn k m3 (zf4 hk3 (List.mem_of_getElem? hk))) ⟨⟨rfl, rfl, rfl⟩, trivial⟩ rfl rfl rfl rfl ?_
          refine fg_ [] rfl (by simp) ?_
          exact zae (ih (i + 1, zc8 k m3) (by simp only; omega) ⟨by simp only; omega, by simp only; rw [hi2]; simp only [zed]; rw [hj2]⟩) ⟨zcr (w64 (by omega) (by omega)), rfl, rfl, rfl, rfl, trivial⟩ ⟨rfl, trivial⟩ rfl
      · simp at h
        rw [List.drop_eq_nil_of_le (by omega)] at hi2
        refine za2 rfl ?_
        refine fd_ [] rfl (by simp) ?_
        rw [hi2]
        exact zb0 ⟨[], rfl, rfl, rfl, trivial⟩
    refine fg_ [] rfl (by simp) ?_
    refine zab rfl (fun h => ?_) (fun h => ?_)
    · have e : op = 4 := by simpa using h
      refine fd_ [] rfl (by simp) ?_
      refine zoa zbl rfl rfl rfl (zc0 m) ?_
      rw [zlp]
      refine ztt ?_
      exact zae (tail (zlj m x) (by simp [zc8, e])) ⟨rfl, rfl, trivial⟩ ⟨rfl, rfl, trivial⟩ rfl
    · have e : ¬ op = 4 := by simpa using h
      refine ze0 ?_
      exact zae (tail m (by simp [zc8, e])) ⟨rfl, rfl, trivial⟩ ⟨rfl, rfl, trivial⟩ rfl
termination_by t => SizeOf.sizeOf t
decreasing_by
  all_goals
    have := List.sizeOf_lt_of_mem (List.mem_of_getElem? hk)
    simp_wf
    omega
end Go.Hk

/- All names that stand in a term that is zbx by address (stands). -/
namespace Go.Hk
open Go.Proofs
def yfp (o n : Int) (x : Str) (v u : Value) : D := .agg [.imm (.int .i64 o), .imm (.int .i64 n), .imm (.str x), .raw v, .raw u]
theorem ycp {I J : Imm} {μ : Mu} {w : World} {vs : List Value} {bs : List Nat} {b : Nat} {o n : Int} {x : Str} {v : Value} {ks : List An} {u : Value} {ps : List An} {y : Value} (h : (zid b (.mk true o n x v ks u ps)).P vs I w bs) (hle : I.le J) (hb : ∀ k ∈ bs, J k = w.heap[k]?)
    (hy : RepD J μ y (yfp o n x v u)) : RepD J μ y (.imm (.agg (vA (.mk true o n x v ks u ps)))) := by
  obtain ⟨h1, h2, h3, h4, h5, h7⟩ := h
  have hr : RepVL J (cA (.mk true o n x v ks u ps)) (vA (.mk true o n x v ks u ps)) := zt2 hle h7 fun k hk => hb k (by rw [h1]; simp [hk])
  cases hy with
  | agg cs ds hl hone hrep =>
    have hcs : cs.toList = cA (.mk true o n x v ks u ps) := by
      obtain ⟨cs⟩ := cs
      match cs, hl with
      | [c0, c1, c2, c3, c4], _ =>
        have e0 := (hrep 0 c0 _ rfl rfl).immInv.intInv
        have e1 := (hrep 1 c1 _ rfl rfl).immInv.intInv
        have e2 := zpi (hrep 2 c2 _ rfl rfl)
        have e3 := (hrep 3 c3 _ rfl rfl).rawInv
        have e4 := (hrep 4 c4 _ rfl rfl).rawInv
        rw [e0, e1, e2, e3, e4]; rfl
    refine .imm _ _ (.agg cs _ (by rw [← hr.1, ← hcs]; simp) hone fun i c z hc hz => hr.2 i c z ?_ hz)
    rw [← hcs]; simpa using hc
end Go.Hk

/- Patterns that are zbx: what they stand for when the name at a place is another one. -/
namespace Go.Hk
open Go.Proofs
mutual
def zer : Ty → Nat → Str → Ty
  | .mk s n y ps, j, x => if s = 2 then (match j with | 0 => .mk s n x ps | j + 1 => .mk s n y (zel ps j x)) else .mk s n y (zel ps j x)
def zel : List Ty → Nat → Str → List Ty
  | [], _, _ => []
  | t :: r, j, x => if j < (zc6 t).length then zer t j x :: r else t :: zel r (j - (zc6 t).length) x
end
mutual
theorem zju : ∀ (a : An) (t : Ty), okP a → vA a = zb5 t → (ppaths a).length = (zc6 t).length
  | .im _ _ _, _, h, _ => h.elim
  | .mk s o n x v ks u ps, .mk s' n' x' qs, hok, hv => by
    obtain ⟨rfl, _, _, hks⟩ := hok
    simp only [vA, zb5, List.cons.injEq, V.sl.injEq, V.int.injEq, true_and] at hv
    obtain ⟨rfl, _, _, he, _⟩ := hv
    have := zp1 ks qs 0 hks he
    simp only [ppaths, zc6, List.length_append, this]
    by_cases h : o = 2 <;> simp [h]
theorem zp1 : ∀ (l : List An) (ts : List Ty) (i : Nat), ybh l → vAs l = zcf ts → (ppaths.ppathss i l).length = (zcb ts).length
  | [], [], _, _, _ => rfl
  | [], _ :: _, _, _, h => by simp [vAs, zcf] at h
  | _ :: _, [], _, _, h => by simp [vAs, zcf] at h
  | a :: r, t :: q, i, hok, h => by
    simp only [vAs, zcf, List.cons.injEq] at h
    simp only [ppaths.ppathss, zcb, List.length_append, List.length_map, zju a t hok.1 h.1, zp1 r q (i + 1) hok.2 h.2]
end
mutual
theorem ylj : ∀ (a : An) (t : Ty), okP a → vA a = zb5 t → ∀ (j : Nat) (p : zmn) (x : Str), (ppaths a)[j]? = some p → ∀ (b off : Nat) (a' : An) (b' off' : Nat), zec a b off p = some (a', b', off') → vA (zmx a p (yfc a' x)) = zb5 (zer t j x)
  | .im _ _ _, _, h, _, _, _, _, _, _, _, _, _, _, _ => h.elim
  | .mk s o n y v ks u ps, .mk s' n' y' qs, hok, hv, j, p, x, hp, b, off, a', b', off', hl => by
    obtain ⟨rfl, _, _, hks⟩ := hok
    have hv0 := hv
    simp only [vA, zb5, List.cons.injEq, V.sl.injEq, V.int.injEq, V.str.injEq, true_and] at hv
    obtain ⟨rfl, rfl, rfl, he, _⟩ := hv
    have deep : ∀ j, (ppaths.ppathss 0 ks)[j]? = some p → vA (zmx (.mk false o n y v ks u ps) p (yfc a' x)) = zb5 (.mk o n y (zel qs j x)) := fun j hj => by
      obtain ⟨k, c, r, rfl, hc, hset⟩ := yf8 ks qs 0 hks he j p x hj
      simp only [zec, ze7, Nat.zero_add, hc, Option.map_some] at hl
      have := hset _ _ _ _ _ hl
      simp only [zmx, ze7, Nat.zero_add, hc, Option.map_some, zww, vA, zb5, this]
    simp only [ppaths] at hp
    by_cases ho : o = 2
    · rw [if_pos ho] at hp
      cases j with
      | zero =>
        simp at hp; subst hp
        simp only [zec, Option.some.injEq, Prod.mk.injEq] at hl
        obtain ⟨rfl, _, _⟩ := hl
        simp [zer, ho, zmx, yfc, vA, zb5, he]
      | succ j =>
        simp only [List.singleton_append, List.getElem?_cons_succ] at hp
        rw [deep j hp]
        simp [zer, ho]
    · rw [if_neg ho] at hp
      rw [deep j hp]
      simp [zer, ho]
theorem yf8 : ∀ (l : List An) (ts : List Ty) (i : Nat), ybh l → vAs l = zcf ts → ∀ (j : Nat) (p : zmn) (x : Str), (ppaths.ppathss i l)[j]? = some p → ∃ k c r, p = (false, i + k) :: r ∧ l[k]? = some c ∧
    ∀ (b off : Nat) (c' : An) (b' off' : Nat), zec c b off r = some (c', b', off') → vAs (l.set k (zmx c r (yfc c' x))) = zcf (zel ts j x)
  | [], _, _, _, _, _, _, _, h => by simp [ppaths.ppathss] at h
  | _ :: _, [], _, _, h, _, _, _, _ => by simp [vAs, zcf] at h
  | a :: r, t :: q, i, hok, h, j, p, x, hp => by
    simp only [vAs, zcf, List.cons.injEq] at h
    have hlen := zju a t hok.1 h.1
    simp only [ppaths.ppathss] at hp
    by_cases hj : j < (ppaths a).length
    · rw [List.getElem?_append_left (by simpa using hj), List.getElem?_map] at hp
      obtain ⟨p', hp', rfl⟩ := Option.map_eq_some_iff.1 hp
      refine ⟨0, a, p', rfl, rfl, fun b off c' b' off' hl => ?_⟩
      have := ylj a t hok.1 h.1 j p' x hp' b off c' b' off' hl
      simp only [List.set_cons_zero, vAs, zel, if_pos (hlen ▸ hj), zcf, this, h.2]
    · rw [List.getElem?_append_right (by simp; omega)] at hp
      simp only [List.length_map] at hp
      obtain ⟨k, c, r', rfl, hc, hset⟩ := yf8 r q (i + 1) hok.2 h.2 _ p x hp
      refine ⟨k + 1, c, r', by rw [show i + (k + 1) = i + 1 + k by omega], by simpa using hc, fun b off c' b' off' hl => ?_⟩
      have := hset b off c' b' off' hl
      simp only [List.set_cons_succ, vAs, zel, h.1, ← hlen, this, if_neg hj, zcf]
end
end Go.Hk

namespace Go.Hk
open Go.Proofs
mutual
def er : An → An
  | .mk s o n _ v ks u ps => .mk s o n [] v (ers ks) u (ers ps)
  | .im s _ _ => .im s [] []
def ers : List An → List An
  | [] => []
  | a :: r => er a :: ers r
end
theorem zh8 : ∀ l : List An, ers l = l.map er
  | [] => rfl
  | a :: r => by simp [ers, zh8 r]
theorem zev (l : List An) : (ers l).length = l.length := by rw [zh8]; simp
theorem zk9 {l : List An} {i : Nat} {a : An} (h : l[i]? = some a) : (ers l)[i]? = some (er a) := by rw [zh8, List.getElem?_map, h]; rfl
theorem ym6 {l : List An} {i : Nat} {c : An} (h : (ers l)[i]? = some c) : ∃ a, l[i]? = some a ∧ er a = c := by
  rw [zh8, List.getElem?_map] at h
  exact Option.map_eq_some_iff.1 h
mutual
theorem okP_er : ∀ a : An, okP (er a) ↔ okP a
  | .im _ _ _ => Iff.rfl
  | .mk s o n x v ks u ps => by
    have h : ers ks = [] ↔ ks = [] := by cases ks <;> simp [ers]
    simp only [er, okP, zlz ks, zev, h]
theorem zlz : ∀ l : List An, ybh (ers l) ↔ ybh l
  | [] => Iff.rfl
  | a :: r => by simp only [ers, ybh, okP_er a, zlz r]
end
mutual
theorem zj0 : ∀ a : An, zi9 (er a) ↔ zi9 a
  | .im _ _ _ => Iff.rfl
  | .mk s o n x v ks u ps => by simp only [er, zi9, zeu ks, zeu ps]
theorem zeu : ∀ l : List An, zcw (ers l) ↔ zcw l
  | [] => Iff.rfl
  | a :: r => by simp only [ers, zcw, zj0 a, zeu r]
end
mutual
theorem zw8 : ∀ a : An, ppaths (er a) = ppaths a
  | .im _ _ _ => rfl
  | .mk s o n x v ks u ps => by simp only [er, ppaths, zp2 ks 0]
theorem zp2 : ∀ (l : List An) (i : Nat), ppaths.ppathss i (ers l) = ppaths.ppathss i l
  | [], _ => rfl
  | a :: r, i => by simp only [ers, ppaths.ppathss, zw8 a, zp2 r (i + 1)]
end
mutual
theorem yfa {I : Imm} {w : World} : ∀ (a : An) (b off : Nat), skW I w (er a) b off ↔ skW I w a b off
  | .im _ _ _, _, _ => Iff.rfl
  | .mk s o n x v ks u ps, b, off => by simp only [er, skW, yaz ks]
theorem yaz {I : Imm} {w : World} : ∀ (l : List An) (b i : Nat), yma I w b i (ers l) ↔ yma I w b i l
  | [], _, _ => Iff.rfl
  | a :: r, b, i => by simp only [ers, yma, yfa a, yaz r]
end
mutual
theorem zyn : ∀ a : An, anB (er a) = anB a
  | .im _ _ _ => rfl
  | .mk s o n x v ks u ps => by
    have h1 := zvq ks
    have h2 := zvq ps
    cases s <;> simp [er, anB, h1, h2, zev]
theorem zvq : ∀ l : List An, zdv (ers l) = zdv l
  | [] => rfl
  | a :: r => by simp only [ers, zdv, zyn a, zvq r]
end
theorem ymt (a : An) (p : Bool × Nat) : ze7 (er a) p = (ze7 a p).map fun r => (er r.1, r.2.1, r.2.2) := by
  rcases a with ⟨s, o, n, x, v, ks, u, ps⟩ | ⟨s0, cs0, c0⟩
  case im => rfl
  obtain ⟨r, k⟩ := p
  cases r with
  | false =>
    simp only [er, ze7, zh8, List.getElem?_map]
    cases ks[k]? <;> rfl
  | true =>
    cases s with
    | false => rfl
    | true =>
      simp only [er, ze7, zh8, List.getElem?_map]
      cases ps[k]? <;> rfl
theorem zi1 : ∀ (p : zmn) (a : An) (b off : Nat), zec (er a) b off p = (zec a b off p).map fun r => (er r.1, r.2.1, r.2.2)
  | [], a, b, off => rfl
  | q :: r, a, b, off => by
    simp only [zec, ymt]
    cases ze7 a q with
    | none => rfl
    | some y => exact zi1 r y.1 y.2.1 y.2.2
theorem yhs (a c d : An) (p : Bool × Nat) (b off : Nat) (h : ze7 a p = some (c, b, off)) (hd : er d = er c) : er (zww a p d) = er a := by
  have st : ∀ {l : List An} {k : Nat}, l[k]? = some c → ers (l.set k d) = ers l := by
    intro l k hk
    rw [zh8, zh8, List.map_set, hd]
    apply List.ext_getElem?
    intro i
    rw [List.getElem?_set]
    split
    · rename_i e; subst e
      rw [List.getElem?_map, hk]; simp
      exact (List.getElem?_eq_some_iff.1 hk).1
    · rfl
  rcases a with ⟨s, o, n, x, v, ks, u, ps⟩ | ⟨s0, cs0, c0⟩
  case im => simp [ze7] at h
  obtain ⟨r, k⟩ := p
  cases r with
  | false =>
    simp only [ze7, Option.map_eq_some_iff, Prod.mk.injEq] at h
    obtain ⟨c', hc, rfl, _, _⟩ := h
    simp only [zww, er, st hc]
  | true =>
    cases s with
    | true =>
      simp only [ze7, Option.map_eq_some_iff, Prod.mk.injEq] at h
      obtain ⟨c', hc, rfl, _, _⟩ := h
      simp only [zww, er, st hc]
    | false => simp [ze7] at h
theorem zqz : ∀ (p : zmn) (a : An) (b off : Nat) (a' : An) (b' off' : Nat) (a2 : An), zec a b off p = some (a', b', off') → er a2 = er a' → er (zmx a p a2) = er a
  | [], a, b, off, a', b', off', a2, h, hs => by
    simp only [zec, Option.some.injEq, Prod.mk.injEq] at h
    obtain ⟨rfl, _, _⟩ := h
    exact hs
  | q :: r, a, b, off, a', b', off', a2, h, hs => by
    simp only [zec] at h
    simp only [zmx]
    split at h
    · rename_i c b1 off1 hk
      exact yhs a c _ q b1 off1 hk (zqz r c b1 off1 a' b' off' a2 h hs)
    · cases h
mutual
theorem ylr : ∀ (a : An) (t : Ty), okP a → vA a = zb5 t → ∀ (j : Nat) (p : zmn), (ppaths a)[j]? = some p → ∀ (b off : Nat) (a' : An) (b' off' : Nat), zec a b off p = some (a', b', off') → ∃ s o n x v ks u ps, a' = .mk s o n x v ks u ps ∧ (za8 t)[j]? = some x
  | .im _ _ _, _, h, _, _, _, _, _, _, _, _, _, _ => h.elim
  | .mk s o n y v ks u ps, .mk s' n' y' qs, hok, hv, j, p, hp, b, off, a', b', off', hl => by
    obtain ⟨rfl, _, _, hks⟩ := hok
    simp only [vA, zb5, List.cons.injEq, V.sl.injEq, V.int.injEq, V.str.injEq, true_and] at hv
    obtain ⟨rfl, rfl, rfl, he, _⟩ := hv
    have deep : ∀ j, (ppaths.ppathss 0 ks)[j]? = some p → ∃ s o n x v ks u ps, a' = .mk s o n x v ks u ps ∧ ((zcb qs).map zij)[j]? = some x := fun j hj => by
      obtain ⟨k, c, r, rfl, hc, hset⟩ := yhg ks qs 0 hks he j p hj
      simp only [zec, ze7, Nat.zero_add, hc, Option.map_some] at hl
      exact hset _ _ _ _ _ hl
    simp only [ppaths] at hp
    simp only [za8, zc6]
    by_cases ho : o = 2
    · rw [if_pos ho] at hp
      have hb : (o == 2) = true := by simp [ho]
      simp only [ho, if_true, List.singleton_append, List.map_cons]
      cases j with
      | zero =>
        simp at hp; subst hp
        simp only [zec, Option.some.injEq, Prod.mk.injEq] at hl
        obtain ⟨rfl, _, _⟩ := hl
        exact ⟨_, _, _, _, _, _, _, _, rfl, by simp [zij]⟩
      | succ j =>
        simp only [List.singleton_append, List.getElem?_cons_succ] at hp ⊢
        exact deep j hp
    · rw [if_neg ho] at hp
      simp only [ho, if_false, List.nil_append]
      exact deep j hp
theorem yhg : ∀ (l : List An) (ts : List Ty) (i : Nat), ybh l → vAs l = zcf ts → ∀ (j : Nat) (p : zmn), (ppaths.ppathss i l)[j]? = some p → ∃ k c r, p = (false, i + k) :: r ∧ l[k]? = some c ∧
    ∀ (b off : Nat) (a' : An) (b' off' : Nat), zec c b off r = some (a', b', off') → ∃ s o n x v ks u ps, a' = .mk s o n x v ks u ps ∧ ((zcb ts).map zij)[j]? = some x
  | [], _, _, _, _, _, _, h => by simp [ppaths.ppathss] at h
  | _ :: _, [], _, _, h, _, _, _ => by simp [vAs, zcf] at h
  | a :: r, t :: q, i, hok, h, j, p, hp => by
    simp only [vAs, zcf, List.cons.injEq] at h
    have hlen := zju a t hok.1 h.1
    simp only [ppaths.ppathss] at hp
    by_cases hj : j < (ppaths a).length
    · rw [List.getElem?_append_left (by simpa using hj), List.getElem?_map] at hp
      obtain ⟨p', hp', rfl⟩ := Option.map_eq_some_iff.1 hp
      refine ⟨0, a, p', rfl, rfl, fun b off a' b' off' hl => ?_⟩
      obtain ⟨s, o, n, x, v, ks, u, ps, h1, h2⟩ := ylr a t hok.1 h.1 j p' hp' b off a' b' off' hl
      refine ⟨s, o, n, x, v, ks, u, ps, h1, ?_⟩
      simp only [zcb, List.map_append]
      rw [List.getElem?_append_left (by simp; omega)]
      exact h2
    · rw [List.getElem?_append_right (by simp; omega)] at hp
      simp only [List.length_map] at hp
      obtain ⟨k, c, r', rfl, hc, hset⟩ := yhg r q (i + 1) hok.2 h.2 _ p hp
      refine ⟨k + 1, c, r', by rw [show i + (k + 1) = i + 1 + k by omega], by simpa using hc, fun b off a' b' off' hl => ?_⟩
      obtain ⟨s, o, n, x, v, ks, u, ps, h1, h2⟩ := hset b off a' b' off' hl
      refine ⟨s, o, n, x, v, ks, u, ps, h1, ?_⟩
      simp only [zcb, List.map_append]
      rw [List.getElem?_append_right (by simp; omega)]
      simpa [← hlen] using h2
end
def bp : An → Int → List zmn
  | .mk _ o _ _ _ _ _ qs, i => bif zb2 o i then [[]] else bif zci o i then (match qs[(i - 1).toNat]? with
    | some q => (ppaths q).map ((true, (i - 1).toNat) :: ·)
    | none => []) else []
  | .im _ _ _, _ => []
theorem zyj (a : An) (i : Int) : bp (er a) i = bp a i := by
  rcases a with ⟨s, o, n, x, v, ks, u, ps⟩ | ⟨s0, cs0, c0⟩
  · simp only [er, bp, zh8, List.getElem?_map]
    cases ps[(i - 1).toNat]? with
    | none => rfl
    | some q => simp [zw8]
  · rfl
def plD (b : Nat) (a : An) (p : zmn) : D := match zec a b 0 p with
  | some (_, b', off') => .raw (ptr b' (zdi off' 2))
  | none => .undef
def zea : Tm → Int → Nat → Str → Tm
  | .mk op n y ks ps, i, j, x => if zb2 op i then .mk op n x ks ps else if zci op i then (match ps[(i - 1).toNat]? with
    | some p => .mk op n y ks (ps.set (i - 1).toNat (zer p j x))
    | none => .mk op n y ks ps) else .mk op n y ks ps
def okQ : An → Prop
  | .mk s _ _ _ _ _ _ qs => s = true ∧ ybh qs
  | .im _ _ _ => False
theorem zg0 (a : An) : okQ (er a) ↔ okQ a := by
  cases a with
  | mk s o n x v ks u ps => simp only [er, okQ, zlz]
  | im => exact Iff.rfl
theorem ykr {l : List Ty} {i : Nat} {c : Ty} : zcf (l.set i c) = (zcf l).set i (zb5 c) := by
  simp [zhy, List.map_set]
theorem zyb {l : List Ty} {i : Nat} {c : Ty} (h : l[i]? = some c) : (zcf l)[i]? = some (zb5 c) := by simp [zhy, h]
theorem zs0 {a : An} (hok : okP a) (b off : Nat) {j : Nat} {p : zmn} (h : (ppaths a)[j]? = some p) : ∃ a' b' off', zec a b off p = some (a', b', off') ∧ (zs3 a b off)[j]? = some (.raw (ptr b' (zdi off' 2))) := by
  have hlt : j < (zs3 a b off).length := by rw [zoy]; exact (List.getElem?_eq_some_iff.1 h).1
  obtain ⟨p', a', b', off', h1, h2, h3, _⟩ := yge a b off hok j _ (List.getElem?_eq_getElem hlt)
  rw [h] at h1; cases h1
  exact ⟨a', b', off', h2, by rw [List.getElem?_eq_getElem hlt, h3]⟩
theorem zrp {a : An} {t : Tm} (hok : okQ a) (hv : vA a = dTmc t) {i : Int} {j : Nat} {p : zmn} (hp : (bp a i)[j]? = some p) (b : Nat) :
    ∃ s o n x v ks u ps b' off', zec a b 0 p = some (.mk s o n x v ks u ps, b', off') ∧ (zad t i)[j]? = some x ∧ ∀ y, vA (zmx a p (.mk s o n y v ks u ps)) = dTmc (zea t i j y) := by
  rcases a with ⟨s, o, n, x, v, ks, u, qs⟩ | ⟨s0, cs0, c0⟩
  case im => exact hok.elim
  obtain ⟨op, tn, tx, tks, tps⟩ := t
  obtain ⟨rfl, hq⟩ := hok
  have hv0 := hv
  simp only [vA, dTmc, List.cons.injEq, V.int.injEq, V.str.injEq, V.sl.injEq, true_and, and_true] at hv
  obtain ⟨rfl, rfl, rfl, e1, e2⟩ := hv
  simp only [bp] at hp
  cases h1 : zb2 o i with
  | true =>
    simp only [h1, cond_true] at hp
    cases j with
    | succ j => simp at hp
    | zero =>
      simp at hp; subst hp
      exact ⟨_, _, _, _, _, _, _, _, b, 0, rfl, by simp [zad, h1], fun y => by simp [zmx, vA, zea, h1, dTmc, e1, e2]⟩
  | false =>
    cases h2 : zci o i with
    | false => simp [h1, h2] at hp
    | true =>
      simp only [h1, h2, cond_true, cond_false] at hp
      cases hg : qs[(i - 1).toNat]? with
      | none => simp only [hg] at hp; simp at hp
      | some q =>
        simp only [hg, List.getElem?_map] at hp
        obtain ⟨p', hp', rfl⟩ := Option.map_eq_some_iff.1 hp
        have hokq := zly hq hg
        obtain ⟨tp, htp⟩ : ∃ tp, tps[(i - 1).toNat]? = some tp := by
          have hl : qs.length = tps.length := by have := congrArg List.length e2; simpa using this
          exact zal (by rw [← hl]; exact (List.getElem?_eq_some_iff.1 hg).1)
        have hvq : vA q = zb5 tp := by
          have := congrArg (fun l => l[(i - 1).toNat]?) e2
          simp only [zyv hg, zyb htp] at this
          exact Option.some.inj this
        obtain ⟨a', b', off', hl, _⟩ := zs0 hokq (zb9 u) ((i - 1).toNat * 4) hp'
        obtain ⟨s, o', n', x', v', ks', u', ps', rfl, hx⟩ := ylr q tp hokq hvq j p' hp' _ _ _ _ _ hl
        refine ⟨s, o', n', x', v', ks', u', ps', b', off', ?_, ?_, fun y => ?_⟩
        · simp only [zec, ze7, hg, Option.map_some]
          exact hl
        · simp only [zad, h1, h2, htp, if_true, Bool.false_eq_true, if_false]; exact hx
        · have := ylj q tp hokq hvq j p' y hp' _ _ _ _ _ hl
          simp only [yfc] at this
          simp only [zmx, ze7, hg, Option.map_some, zww, vA, zea, h1, h2, htp, if_true, Bool.false_eq_true, if_false, dTmc, e1]
          congr 5
          rw [zgf, List.map_set, ← zgf, this, e2, ykr]
def zck (b : Nat) (sk : An) (t : Tm) : Asn where
  P := fun vs I w bs => ∃ a, er a = sk ∧ vA a = dTmc t ∧ (zid b a).P vs I w bs
  mono := fun h ⟨a, h1, h2, h3⟩ => ⟨a, h1, h2, (zid b a).mono h h3⟩
  loc := fun h ⟨a, h1, h2, h3⟩ => ⟨a, h1, h2, (zid b a).loc h h3⟩
theorem zsv {b : Nat} {sk : An} {t : Tm} (hok : okQ sk) {i : Int} {j : Nat} {p : zmn} (hp : (bp sk i)[j]? = some p) {a0 : An} {b' off' : Nat} (hl : zec sk b 0 p = some (a0, b', off')) {x : Str} (hx : (zad t i)[j]? = some x) :
    ∀ vs I w bs, (zck b sk t).P vs I w bs → zc3 I w b' (zdi off' 2) [.imm (.str x)] := by
  rintro vs I w bs ⟨a, rfl, hv, hP⟩
  rw [zyj] at hp
  obtain ⟨s, o, n, x', v, ks, u, ps, b2, off2, h1, h2, _⟩ := zrp ((zg0 a).1 hok) hv hp b
  rw [hx] at h2; cases h2
  rw [zi1, h1] at hl
  simp only [Option.map_some, Option.some.injEq, Prod.mk.injEq] at hl
  obtain ⟨_, rfl, rfl⟩ := hl
  have hat := (zuy h1 hP.2.2.2.2.1 hP.2.2.2.2.2).1
  exact zex hat (i := 2) (c := zv1 x) (by cases s <;> rfl) rfl (.imm _ _ (.encStr _ _))
theorem zpu {b : Nat} {sk : An} {t : Tm} (hok : okQ sk) {i : Int} {j : Nat} {p : zmn} (hp : (bp sk i)[j]? = some p) {a0 : An} {b' off' : Nat} (hl : zec sk b 0 p = some (a0, b', off')) (x : Str) :
    zrx (zck b sk t) (zck b sk (zea t i j x)) b' (zdi off' 2) [.imm (.str x)] := by
  rintro vs I w bs ⟨a, rfl, hv, hP⟩
  rw [zyj] at hp
  obtain ⟨s, o, n, x', v, ks, u, ps, b2, off2, h1, _, h3⟩ := zrp ((zg0 a).1 hok) hv hp b
  rw [zi1, h1] at hl
  simp only [Option.map_some, Option.some.injEq, Prod.mk.injEq] at hl
  obtain ⟨_, rfl, rfl⟩ := hl
  obtain ⟨q1, cur, ty, q2, q3, q4⟩ := zsl x h1 vs I w bs hP
  exact ⟨q1, cur, ty, q2, q3, fun cs hr ho => ⟨_, zqz p a b 0 _ _ _ _ h1 (by simp [er]), h3 x, q4 cs hr ho⟩⟩
theorem zox {b : Nat} {sk : An} {op n : Int} {x : Str} {ks : List Tm} {ps : List Ty} (hok : okQ sk) : ya1 (zck b sk (.mk op n x ks ps)) b op := by
  rintro vs I w bs ⟨a, rfl, hv, hP⟩
  have hok := (zg0 a).1 hok
  rcases a with ⟨s, o, n, x, v, ks, u, qs⟩ | ⟨s0, cs0, c0⟩
  case im => exact hok.elim
  obtain ⟨rfl, _⟩ := hok
  simp only [vA, dTmc, List.cons.injEq, V.int.injEq, true_and] at hv
  obtain ⟨rfl, _⟩ := hv
  have := zex (I := I) hP.2.2.2.2.1 (i := 0) (c := .int .i64 o) rfl rfl (.imm _ _ (.int _ _))
  simpa [zej] using this
theorem zd5 {b : Nat} {o n : Int} {x : Str} {v : Value} {ks : List An} {u : Value} {qs : List An} {t : Tm} {vs : List Value} {I : Imm} {w : World} {bs : List Nat} (h : (zck b (.mk true o n x v ks u qs) t).P vs I w bs) : zc3 I w b 3 [.raw v] ∧ zc3 I w b 4 [.raw u] := by
  obtain ⟨a, he, hv, hP⟩ := h
  rcases a with ⟨s, o', n', x', v', ks', u', qs'⟩ | ⟨s0, cs0, c0⟩
  case im => simp [er] at he
  simp only [er, An.mk.injEq] at he
  obtain ⟨rfl, rfl, rfl, _, rfl, _, rfl, _⟩ := he
  have hw := hP.2.2.2.2.2
  simp only [anW] at hw
  have h1 := zjq hw.1.1
  have h2 := zjq (hw.2 trivial).1
  have e1 := zex (I := I) hP.2.2.2.2.1 (i := 3) (c := v') rfl h1 (.raw _ h1)
  have e2 := zex (I := I) hP.2.2.2.2.1 (i := 4) (c := u') rfl h2 (.raw _ h2)
  simp only [zej, Nat.zero_add] at e1 e2
  exact ⟨e1, e2⟩
end Go.Hk
