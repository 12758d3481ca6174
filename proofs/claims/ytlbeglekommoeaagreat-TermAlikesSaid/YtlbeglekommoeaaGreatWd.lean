/- The names that a term binds in a part, of a term that is owned by address (list). (And what it stands on.) -/
import Derived.Test.YtlbeglekommoeaaGreatWc
set_option linter.unusedSimpArgs false
set_option linter.unusedVariables false

namespace Go.Hk
def noMu : Mu := fun _ => none
theorem yp5 (μ : Mu) : noMu.le μ := fun _ _ h => by cases h
def zdh (I : Imm) (w : World) (b off : Nat) (ds : List D) : Prop :=
  ∃ vs t k, w.heap[b]? = some (.cells vs t k) ∧ ∀ j d, ds[j]? = some d → ∃ c, vs[off + j]? = some c ∧ c.oneCell' = true ∧ RepD I noMu c d
structure PRi where
  a : Addr
  len : Nat
  m : Int
  sz : Nat
  g : Option (Bool × Bool)
  ob : List Prop
  t : Nat
  todo : List DI
def pridx (tt : TT) (n : Nat) (env : Env) (todo : List DI) : Option PRi :=
  match zcr todo ([], []) with
  | some (all, o, todo') => match o.op, zea all env o with
    | .indexAddr t x i, some g => match lk tt t, ycq (zag g) env x, ycq (zag g) env i with
      | some { sh := .sl e, .. }, some (.raw (.slice (some a) len _), o1), some (.imm (.int _ m), o2) => match lk tt e, o.dst, zdg n o.dst with
        | some ti, some t', true => some ⟨a, len, m, ti.size, g, cat o1 o2, t', todo'⟩
        | _, _, _ => none
      | _, _, _ => none
    | _, _ => none
  | none => none
structure PRl where
  b : Nat
  off : Nat
  i : TyI
  g : Option (Bool × Bool)
  ob : List Prop
  t : Nat
  todo : List DI
def ydh (tt : TT) (n : Nat) (env : Env) (id : Nat) (todo : List DI) : Option PRl :=
  match zcr todo ([id], []) with
  | some (all, o, todo') => match o.op, zea all env o with
    | .load t x, some g => match lk tt t, ycq (zag g) env x with
      | some i, some (.raw (.pointer (some ⟨b, off, none⟩)), o1) => match o.dst, zdg n o.dst with
        | some t', true => some ⟨b, off, i, g, o1, t', todo'⟩
        | _, _ => none
      | _, _ => none
    | _, _ => none
  | none => none
structure PRs where
  b : Nat
  off : Nat
  ds : List D
  todo : List DI
def yi0 (tt : TT) (env : Env) (id : Nat) (todo : List DI) : Option PRs :=
  match zcr todo ([id], [id]) with
  | some (_, o, todo') => match o.guard, o.dst, o.op with
    | none, none, .store t p x => match lk tt t, evO env p, evO env x with
      | some i, some (.raw (.pointer (some ⟨b, off, none⟩))), some dx => match znj dx with
        | some ds => match Nat.beq ds.length i.size, nmL ds with
          | true, [] => some ⟨b, off, ds, todo'⟩
          | _, _ => none
        | none => none
      | _, _, _ => none
    | _, _, _ => none
  | none => none
section
variable {P : Program} {n : Nat} {F : List Nat} {Q : DQ} {tt : TT} {env env' : Env} {st st' : St} {ids ids' : List Nat} {k todo todo' : List DI} {I : Imm} {μ : Mu} {w : World} {a : Act} {Pn : V → Prop} {d : D} {cx : Prop} {ob : List Prop}
theorem RepD.rawInv {v u : Value} (h : RepD I μ v (.raw u)) : v = u := by cases h; rfl
theorem zdq (htt : TTok P tt) {c : PRi} (h : pridx tt n env todo = some c) (hs : c.a.spot = none) (hc : zag c.g → 0 ≤ c.m ∧ c.m < c.len) (hob : zb7 c.ob)
    (hk : G P n F Q c.todo ((c.t, gD c.g (.raw (.pointer (some ⟨c.a.block, c.a.off + c.m.toNat * c.sz, none⟩)))) :: env) st ids) : G P n F Q todo env st ids := by
  unfold pridx at h
  split at h
  · rename_i all o todo' h1
    split at h
    · rename_i t x i g hop hg
      split at h
      · rename_i e _ _ _ _ ad len cap o1 kk m o2 ht hx hi
        split at h
        · rename_i ti t' hti hdst hd
          cases h
          obtain ⟨b, off, spot⟩ := ad
          simp only at hs
          subst hs
          have hk : G P n F Q todo' (zei o.dst (gD g (.raw (.pointer (some ⟨b, off + m.toNat * ti.size, none⟩)))) env) st ids := by rw [hdst]; exact hk
          refine zc5 (fr := []) (wr := []) (rd := []) h1 (zep hg fun I μ st1 ids1 a w _ hst hops hcx => ?_) (by rw [hdst] at hd ⊢; exact hd) (fun c hc => by rw [hop] at hc; cases hc) hk
          rw [hop] at hops
          obtain ⟨ho1, ho2⟩ := zbh hob
          have rx := (zd4 hx ho1 hcx (hops x (by simp [Op.operands]))).rawInv
          have ri := (zd4 hi ho2 hcx (hops i (by simp [Op.operands]))).immInv.intInv
          obtain ⟨c0, c1⟩ := hc hcx
          have hu : P.underlying t = some (.slice e) := htt.sh ht
          simp only [execOp, hop, ri, rx]
          have hr := zsg (w := w) hu (htt e ti hti) (b := b) (off := off) (len := len) (cap := cap) (kk := kk) c0 c1
          have hrun : (do pure (.value (← Instr.indexAt t (.slice (some ⟨b, off, none⟩) len cap) (.int kk m))) : Sem Next).run P w = .ok (.value (.pointer (some ⟨b, off + m.toNat * ti.size, none⟩))) w := zao hr
          rw [hrun]
          exact ⟨I, μ, hst, .raw _ rfl, Mu.le_refl μ, Ext.refl _ _ _ _⟩
        · cases h
      · cases h
    · cases h
  · cases h
theorem yjz {t : TypeId} {i : TyI} (hi : TyOk P t i) {b off : Nat} {ds : List D} {d : D} (h : zdh I w b off ds) (hl : ds.length = i.size) (hd : zks i true ds 0 = some d) (μ : Mu) :
    ∃ v, (Instr.loadAt t (.pointer (some ⟨b, off, none⟩))).run P w = .ok v w ∧ RepD I μ v d := by
  obtain ⟨vs, bt, kk, hheap, hcs⟩ := h
  have hcell : ∀ (j : Nat), j < ds.length → ∃ c d, ds[j]? = some d ∧ vs[off + j]? = some c ∧ c.oneCell' = true ∧ RepD I μ c d := fun j hj => by
    obtain ⟨c, h1, h2, h3⟩ := hcs j _ (List.getElem?_eq_getElem hj)
    exact ⟨c, _, List.getElem?_eq_getElem hj, h1, h2, h3.mono (Imm.le_refl I) (yp5 μ)⟩
  have hw : ∀ j, j < ds.length → w.cell? ⟨b, off + j, none⟩ = some ((vs[off + j]?).getD undef) := fun j hj => by
    obtain ⟨c, d, _, h2, _⟩ := hcell j hj
    rw [zeq hheap (off + j) c (by simpa using h2)]
    simp [h2]
  cases ha : i.agg with
  | true =>
    simp only [zks, ha] at hd
    cases hd
    have hr := zmr hi b off (fun j => (vs[off + j]?).getD undef) (w := w) (fun j hj => hw j (by omega)) (fun hf => by rw [ha] at hf; cases hf)
    rw [ha] at hr
    simp only [if_true] at hr
    refine ⟨_, hr, ?_⟩
    have := zjm (I := I) (μ := μ) (vs := (List.range i.size).map fun j => (vs[off + j]?).getD undef) (ds := ds) ⟨by simp [hl], fun j v d hv hd => ?_⟩ (fun c hc => ?_)
    · simpa using this
    · rw [List.getElem?_map] at hv
      obtain ⟨c, d', h1, h2, _, h4⟩ := hcell j (List.getElem?_eq_some_iff.1 hd).1
      rw [h1] at hd; cases hd
      cases hj : (List.range i.size)[j]? with
      | none => rw [hj] at hv; cases hv
      | some q =>
        rw [hj] at hv
        have : q = j := by
          obtain ⟨h6, h7⟩ := List.getElem?_eq_some_iff.1 hj
          simpa using h7.symm
        subst this
        cases hv
        simpa [h2] using h4
    · obtain ⟨j, hj, rfl⟩ := List.mem_map.1 hc
      obtain ⟨c, d', _, h2, h3, _⟩ := hcell j (by rw [hl]; simpa using hj)
      simpa [h2] using h3
  | false =>
    simp only [zks, ha] at hd
    have hlt : 0 < ds.length := by
      cases ds with
      | nil => simp [nth] at hd
      | cons => simp
    have hr := zmr hi b off (fun j => (vs[off + j]?).getD undef) (w := w) (fun j hj => hw j (by omega)) (fun _ => hw 0 hlt)
    rw [ha] at hr
    simp only [Bool.false_eq_true, if_false] at hr
    obtain ⟨c, d', h1, h2, _, h4⟩ := hcell 0 hlt
    rw [zho, h1] at hd
    cases hd
    rw [Nat.add_zero] at h2
    exact ⟨_, hr, by simpa [h2] using h4⟩
theorem zbw (htt : TTok P tt) (id : Nat) {A : Asn} {c : PRl} (ds : List D) {d : D} (h : ydh tt n env id todo = some c) (hl : lk st id = some (some (.hp A)))
    (hA : zag c.g → ∀ vs I w bs, A.P vs I w bs → zdh I w c.b c.off ds) (hlen : ds.length = c.i.size) (hd : zks c.i true ds 0 = some d) (hob : zb7 c.ob)
    (hk : G P n F Q c.todo ((c.t, gD c.g d) :: env) st ids) : G P n F Q todo env st ids := by
  unfold ydh at h
  split at h
  · rename_i all o todo' h1
    split at h
    · rename_i t x g hop hg
      split at h
      · rename_i i b off o1 ht hx
        split at h
        · rename_i t' hdst hd'
          cases h
          have hk : G P n F Q todo' (zei o.dst (gD g d) env) st ids := by rw [hdst]; exact hk
          refine zc5 (fr := []) (wr := []) (rd := [id]) h1 (zep hg fun I μ st1 ids1 a w hag hst hops hcx => ?_) (by rw [hdst] at hd' ⊢; exact hd') (fun c hc => by rw [hop] at hc; cases hc) hk
          rw [hop] at hops
          have rx := (zd4 hx hob hcx (hops x (by simp [Op.operands]))).rawInv
          have hl1 : zat st1 id (.hp A) := by unfold zat; rw [hag id (by simp)]; exact hl
          obtain ⟨gg, hg', us, bs, e1, e2⟩ := hst.blk id _ hl1
          obtain ⟨v, q1, q2⟩ := yjz (P := P) (htt t i ht) (hA hcx us I w bs e2) hlen hd μ
          simp only [execOp, hop, rx]
          have hrun : (do pure (.value (← Instr.loadAt t (.pointer (some ⟨b, off, none⟩)))) : Sem Next).run P w = .ok (.value v) w := zao q1
          rw [hrun]
          exact ⟨I, μ, hst, q2, Mu.le_refl μ, Ext.refl _ _ _ _⟩
        · cases h
      · cases h
    · cases h
  · cases h
theorem ybw (htt : TTok P tt) (id : Nat) {y : Nat} {S : Bun} {c : PRl} (ds : List D) {d : D} (h : ydh tt n env id todo = some c) (hl : lk st id = some (some (.bun y S)))
    (hA : zag c.g → ∀ I w b bs, S.P I w b bs → zdh I w c.b c.off ds) (hlen : ds.length = c.i.size) (hd : zks c.i true ds 0 = some d) (hob : zb7 c.ob)
    (hk : G P n F Q c.todo ((c.t, gD c.g d) :: env) st ids) : G P n F Q todo env st ids := by
  unfold ydh at h
  split at h
  · rename_i all o todo' h1
    split at h
    · rename_i t x g hop hg
      split at h
      · rename_i i b off o1 ht hx
        split at h
        · rename_i t' hdst hd'
          cases h
          have hk : G P n F Q todo' (zei o.dst (gD g d) env) st ids := by rw [hdst]; exact hk
          refine zc5 (fr := []) (wr := []) (rd := [id]) h1 (zep hg fun I μ st1 ids1 a w hag hst hops hcx => ?_) (by rw [hdst] at hd' ⊢; exact hd') (fun c hc => by rw [hop] at hc; cases hc) hk
          rw [hop] at hops
          have rx := (zd4 hx hob hcx (hops x (by simp [Op.operands]))).rawInv
          have hl1 : zat st1 id (.bun y S) := by unfold zat; rw [hag id (by simp)]; exact hl
          obtain ⟨gg, hg', b', bs, _, e1, e2⟩ := hst.blk id _ hl1
          obtain ⟨v, q1, q2⟩ := yjz (P := P) (htt t i ht) (hA hcx I w b' bs e2) hlen hd μ
          simp only [execOp, hop, rx]
          have hrun : (do pure (.value (← Instr.loadAt t (.pointer (some ⟨b, off, none⟩)))) : Sem Next).run P w = .ok (.value v) w := zao q1
          rw [hrun]
          exact ⟨I, μ, hst, q2, Mu.le_refl μ, Ext.refl _ _ _ _⟩
        · cases h
      · cases h
    · cases h
  · cases h
def ztl (A A' : Asn) (b off : Nat) (ds : List D) : Prop := ∀ us I w bs, A.P us I w bs → b ∈ bs ∧ ∃ vs t, w.heap[b]? = some (.cells vs t (0, 0)) ∧ off + ds.length ≤ vs.size ∧
  ∀ cs, RepL I noMu cs ds → (∀ c ∈ cs, c.oneCell' = true) → A'.P us I (w.setRow b (vs.toList.take off ++ cs ++ vs.toList.drop (off + ds.length)).toArray) bs
theorem zqh (htt : TTok P tt) (id : Nat) {A : Asn} (A' : Asn) {c : PRs} (h : yi0 tt env id todo = some c) (hl : lk st id = some (some (.hp A))) (hA : ztl A A' c.b c.off c.ds)
    (hk : G P n F Q c.todo env ((id, some (.hp A')) :: st) ids) : G P n F Q todo env st ids := by
  unfold yi0 at h
  split at h
  · rename_i all o todo' h1
    split at h
    · rename_i t p x hgd hdst hop
      split at h
      · rename_i i b off dx ht hp hx
        split at h
        · rename_i ds hds
          split at h
          · rename_i hsz hnm
            cases h
            simp only at hA hk
            have hk : G P n F Q todo' (zei o.dst .undef env) ([(id, some (.hp A'))] ++ st) ids := by rw [hdst]; exact hk
            refine zc5 (fr := []) (wr := [(id, some (.hp A'))]) (rd := [id]) h1 ?_ (by simp [zdg, hdst]) (fun c hc => by rw [hop] at hc; cases hc) hk
            intro I μ st1 ids1 a w hag hst hon
            refine ⟨fun _ => ?_, fun hw => by rw [zax hgd] at hw; cases hw⟩
            have hops := zbo hon
            rw [hop] at hops
            have rp := (hops p (by simp [Op.operands]) _ hp).rawInv
            obtain ⟨r1, r2⟩ := zhx hds (hops x (by simp [Op.operands]) _ hx)
            have hl1 : zat st1 id (.hp A) := by unfold zat; rw [hag id (by simp)]; exact hl
            obtain ⟨gg, hg', us, bs, e1, e2⟩ := hst.blk id _ hl1
            obtain ⟨k1, vs, bt, k2, k3, k4⟩ := hA us I w bs e2
            have hvl : (a.eval x).cells.toList.length = ds.length := r1.1
            have hs := Nat.eq_of_beq_eq_true hsz
            have hrun : (execOp a.eval o).run P w = .ok .skip (w.setRow b (vs.toList.take off ++ (a.eval x).cells.toList ++ vs.toList.drop (off + (a.eval x).cells.toList.length)).toArray) := by
              simp only [execOp, hop, rp, Sem.run_bind, zf9 (htt t i ht) k2 (by rw [← hs, ← hvl]; simp) r2 (show off + (a.eval x).cells.toList.length ≤ vs.size by rw [hvl]; exact k3), Result.andThen_ok, Sem.run_pure]
            rw [hrun, hvl]
            have hR : RepL I noMu (a.eval x).cells.toList ds := r1.sub fun j hj => by rw [hnm] at hj; cases hj
            have hnew : BlkRep I μ (w.setRow b (vs.toList.take off ++ (a.eval x).cells.toList ++ vs.toList.drop (off + ds.length)).toArray) gg (.hp A') := ⟨us, bs, e1, k4 _ hR r2⟩
            obtain ⟨q1, q2⟩ := hst.update (id := id) (blk := .hp A) (g := gg) (b := b) hl1 hg' (by rw [e1]; exact za7.2 k1) (w' := w.setRow b _) (setRow_size w b _) rfl rfl rfl (fun k hk => setRow_other w b k _ hk) hnew
            exact ⟨I, μ, q1, .undef _, Mu.le_refl μ, q2⟩
          · cases h
        · cases h
      · cases h
    · cases h
  · cases h
end
end Go.Hk
namespace Go.Hk
def zy8 : List (Nat × Value × Blk) → St
  | [] => []
  | (i, _, b) :: r => (i, some b) :: zy8 r
def zy9 : List (Nat × Value × Blk) → List Nat
  | [] => []
  | (i, _, _) :: r => i :: zy9 r
def zha (new : List (Nat × Value × Blk)) (μ : Mu) : Mu := fun i => match lk new i with
  | some p => some p.1
  | none => μ i
def yjb (R : List Nat) (μ : Mu) (st : St) (b : Nat) : Prop := ∃ r blk g, r ∈ R ∧ zat st r blk ∧ μ r = some g ∧ zgy g b
section
variable {P : Program} {n : Nat} {F : List Nat} {Q : DQ} {tt : TT} {env env' : Env} {st st' : St} {ids ids' : List Nat} {todo : List DI} {I J : Imm} {μ : Mu} {w : World} {a : Act} {d : D}
theorem yfo {new : List (Nat × Value × Blk)} {i : Nat} {b : Blk} {st : St} : zat (zy8 new ++ st) i b → (∃ g, (i, g, b) ∈ new ∧ lk new i = some (g, b)) ∨ (lk new i = none ∧ zat st i b) := by
  induction new with
  | nil => intro h; exact .inr ⟨rfl, h⟩
  | cons p r ih =>
    obtain ⟨k, g, x⟩ := p
    intro h
    simp only [zy8, List.cons_append] at h
    rcases zai.1 h with ⟨rfl, rfl⟩ | ⟨h1, h2⟩
    · exact .inl ⟨g, by simp, zaj _ _ _⟩
    · rw [zan _ _ (fun e => h1 e.symm)]
      rcases ih h2 with ⟨g', q1, q2⟩ | h
      · exact .inl ⟨g', by simp [q1], q2⟩
      · exact .inr h
theorem ydv {new : List (Nat × Value × Blk)} {i : Nat} : lk new i = none ↔ i ∉ zy9 new := by
  induction new with
  | nil => simp [lk, zy9]
  | cons p r ih =>
    obtain ⟨k, g, x⟩ := p
    by_cases h : k = i
    · subst h; rw [zaj]; simp [zy9]
    · rw [zan _ _ h, ih]; simp [zy9]; exact fun _ e => h e.symm
theorem StRep.relay {R : List Nat} {new : List (Nat × Value × Blk)} (hst : StRep I μ st (zy9 new ++ ids') w)
    (hown : ∀ p ∈ new, ∀ b, zgy p.2.1 b → yjb R μ st b) (hdisj : ∀ p ∈ new, ∀ q ∈ new, ∀ b, zgy p.2.1 b → zgy q.2.1 b → p.1 = q.1)
    (hI : I.le J) (hJ : J.ok w) (hold : ∀ b o, J b = some o → I b = some o ∨ (yjb R μ st b ∧ ∀ p ∈ new, ¬ zgy p.2.1 b))
    (hrep : μ.le (zha new μ) → ∀ p ∈ new, BlkRep J (zha new μ) w p.2.1 p.2.2) :
    μ.le (zha new μ) ∧ StRep J (zha new μ) (zy8 new ++ (zem R ++ st)) ids' w ∧ Ext I μ st w J (zha new μ) (zy8 new ++ (zem R ++ st)) w := by
  have hnd := List.nodup_append.1 hst.nodup
  have hle : μ.le (zha new μ) := fun i v h => by
    have : i ∉ zy9 new := fun hi => by rw [hst.idsFree i (by simp [hi])] at h; cases h
    simp [zha, ydv.2 this, h]
  have hcase : ∀ {i b}, zat (zy8 new ++ (zem R ++ st)) i b → (∃ g, (i, g, b) ∈ new ∧ zha new μ i = some g) ∨ (i ∉ R ∧ zat st i b ∧ zha new μ i = μ i) := by
    intro i b h
    rcases yfo h with ⟨g, q1, q2⟩ | ⟨q1, q2⟩
    · exact .inl ⟨g, q1, by simp [zha, q2]⟩
    · obtain ⟨h3, h4⟩ := zod q2
      exact .inr ⟨h3, h4, by simp [zha, q1]⟩
  have hold' : ∀ {b}, zcd μ st b → (∀ r ∈ R, ∀ blk g, zat st r blk → μ r = some g → ¬ zgy g b) → J b = none := by
    intro b ⟨i, blk, g, q1, q2, q3⟩ hR
    have hI0 := (hst.apart i blk g b q1 q2 q3).1
    cases hJb : J b with
    | none => rfl
    | some o =>
      rcases hold b o hJb with h | ⟨⟨r, blk', g', k1, k2, k3, k4⟩, _⟩
      · rw [hI0] at h; cases h
      · exact absurd k4 (hR r k1 blk' g' k2 k3)
  have hE : Ext I μ st w J (zha new μ) (zy8 new ++ (zem R ++ st)) w :=
    { imm := hI, os := rfl, tape := rfl, output := rfl, size := Nat.le_refl _, block := fun _ _ _ => rfl
      fresh := fun b _ ⟨i, blk, g, q1, q2, q3⟩ => by
        rcases hcase q1 with ⟨g', k1, k2⟩ | ⟨_, k2, k3⟩
        · rw [k2] at q2; cases q2
          obtain ⟨r, blk', g', _, a2, a3, a4⟩ := hown _ k1 b q3
          exact ⟨r, blk', g', a2, a3, a4⟩
        · exact ⟨i, blk, g, k2, by rw [← k3]; exact q2, q3⟩
      old := fun b _ ho => by
        cases hJb : J b with
        | none =>
          cases hIb : I b with
          | none => rfl
          | some o => rw [hI b o hIb] at hJb; cases hJb
        | some o =>
          rcases hold b o hJb with h | ⟨⟨r, blk, g, _, k2, k3, k4⟩, _⟩
          · exact h.symm
          · exact absurd ⟨r, blk, g, k2, k3, k4⟩ ho }
  refine ⟨hle, { imm := hJ, blk := fun i b hl => ?_, apart := fun i b g k hl hg hk => ?_, inj := fun i j bi bj gi gj k hi hj hgi hgj hki hkj => ?_, nodup := hnd.2.1, idsFree := fun i hi => ?_ }, hE⟩
  · rcases hcase hl with ⟨g, k1, k2⟩ | ⟨_, k2, k3⟩
    · exact ⟨g, k2, hrep hle _ k1⟩
    · obtain ⟨g, q1, q2⟩ := hst.blk i b k2
      exact ⟨g, by rw [k3]; exact q1, q2.mono hI hle⟩
  · rcases hcase hl with ⟨g', k1, k2⟩ | ⟨kR, k2, k3⟩
    · rw [k2] at hg; cases hg
      obtain ⟨r, blk', g', a1, a2, a3, a4⟩ := hown _ k1 k hk
      obtain ⟨z1, z2⟩ := hst.apart r blk' g' k a2 a3 a4
      refine ⟨?_, z2⟩
      cases hJb : J k with
      | none => rfl
      | some o =>
        rcases hold k o hJb with h | ⟨_, h⟩
        · rw [z1] at h; cases h
        · exact absurd hk (h _ k1)
    · rw [k3] at hg
      obtain ⟨z1, z2⟩ := hst.apart i b g k k2 hg hk
      refine ⟨hold' ⟨i, b, g, k2, hg, hk⟩ fun r hr blk' g' h1 h2 h3 => ?_, z2⟩
      exact kR (by rw [hst.inj i r b blk' g g' k k2 h1 hg h2 hk h3]; exact hr)
  · rcases hcase hi with ⟨g1, k1, k2⟩ | ⟨kR, k2, k3⟩
    · rw [k2] at hgi; cases hgi
      rcases hcase hj with ⟨g2, l1, l2⟩ | ⟨lR, l2, l3⟩
      · rw [l2] at hgj; cases hgj
        exact hdisj _ k1 _ l1 k hki hkj
      · rw [l3] at hgj
        obtain ⟨r, blk', g', a1, a2, a3, a4⟩ := hown _ k1 k hki
        exact absurd (by rw [hst.inj j r bj blk' gj g' k l2 a2 hgj a3 hkj a4]; exact a1) lR
    · rw [k3] at hgi
      rcases hcase hj with ⟨g2, l1, l2⟩ | ⟨lR, l2, l3⟩
      · rw [l2] at hgj; cases hgj
        obtain ⟨r, blk', g', a1, a2, a3, a4⟩ := hown _ l1 k hkj
        exact absurd (by rw [hst.inj i r bi blk' gi g' k k2 a2 hgi a3 hki a4]; exact a1) kR
      · rw [l3] at hgj
        exact hst.inj i j bi bj gi gj k k2 l2 hgi hgj hki hkj
  · have : i ∉ zy9 new := fun h => hnd.2.2 i h i hi rfl
    simp only [zha, ydv.2 this]
    exact hst.idsFree i (by simp [hi])
theorem zed (h : ∀ I μ a w, Conc n I μ env st ids a w → ∃ J ν env' st' ids', StRep J ν st' ids' w ∧ (∀ t d, lk env' t = some d → RepD J ν (a.tmps.getD t undef) d) ∧ Ext I μ st w J ν st' w ∧ Pin F μ ν ∧ DGo P n F Q todo env' st' ids') :
    DGo P n F Q todo env st ids := by
  intro b cs I μ a w items hd hc
  obtain ⟨J, ν, env', st', ids', h1, h2, h3, h4, h5⟩ := h I μ a w hc
  exact (h5 b cs J ν a w items hd { h1 with size := hc.size, env := h2, defers := hc.defers.ext h3 }).mono fun e a' w' hp => hp.back h4 h3
theorem yk8 {α : Type} (id j : Nat) {A : Asn} (B : α → Asn) (hl : lk st id = some (some (.hp A))) (hA : ∀ vs I w bs, A.P vs I w bs → ∃ x bs', (∀ b ∈ bs', b ∈ bs) ∧ (B x).P [] I w bs')
    (h : ∀ x, DGo P n F Q todo env ((j, some (.hp (B x))) :: (id, none) :: st) ids') : DGo P n F Q todo env st (j :: ids') := by
  refine zed fun I μ a w hc => ?_
  obtain ⟨g, hg, vs, bs, rfl, hP⟩ := hc.blk id _ hl
  obtain ⟨x, bs', h1, h2⟩ := hA vs I w bs hP
  obtain ⟨q1, q2, q3⟩ := StRep.relay (R := [id]) (new := [(j, hpG [] bs', .hp (B x))]) (ids' := ids') hc.toStRep
    (fun p hp b hb => by
      rw [List.mem_singleton.1 hp] at hb
      exact ⟨id, _, _, by simp, hl, hg, za7.2 (h1 b (za7.1 hb))⟩)
    (fun p hp q hq b _ _ => by rw [List.mem_singleton.1 hp, List.mem_singleton.1 hq]) (Imm.le_refl I) hc.imm (fun b o h => .inl h)
    (fun _ p hp => by rw [List.mem_singleton.1 hp]; exact ⟨[], bs', rfl, h2⟩)
  exact ⟨I, _, env, _, ids', q2, fun t d hd => (hc.env t d hd).mono (Imm.le_refl I) q1, q3, .of_le q1, h x⟩
theorem yqr {α : Type} (id i j : Nat) {A : Asn} (B C : α → Asn) (hl : lk st id = some (some (.hp A)))
    (hA : ∀ vs I w bs, A.P vs I w bs → ∃ x b1 b2, (∀ b ∈ b1, b ∈ bs) ∧ (∀ b ∈ b2, b ∈ bs) ∧ (∀ b ∈ b1, b ∉ b2) ∧ (B x).P [] I w b1 ∧ (C x).P [] I w b2)
    (h : ∀ x, DGo P n F Q todo env ((i, some (.hp (B x))) :: (j, some (.hp (C x))) :: (id, none) :: st) ids') : DGo P n F Q todo env st (i :: j :: ids') := by
  refine zed fun I μ a w hc => ?_
  obtain ⟨g, hg, vs, bs, rfl, hP⟩ := hc.blk id _ hl
  obtain ⟨x, b1, b2, k1, k2, k3, k4, k5⟩ := hA vs I w bs hP
  obtain ⟨q1, q2, q3⟩ := StRep.relay (R := [id]) (new := [(i, hpG [] b1, .hp (B x)), (j, hpG [] b2, .hp (C x))]) (ids' := ids') hc.toStRep
    (fun p hp b hb => by
      simp only [List.mem_cons, List.not_mem_nil, or_false] at hp
      rcases hp with rfl | rfl
      · exact ⟨id, _, _, by simp, hl, hg, za7.2 (k1 b (za7.1 hb))⟩
      · exact ⟨id, _, _, by simp, hl, hg, za7.2 (k2 b (za7.1 hb))⟩)
    (fun p hp q hq b e1 e2 => by
      simp only [List.mem_cons, List.not_mem_nil, or_false] at hp hq
      rcases hp with rfl | rfl <;> rcases hq with rfl | rfl <;> first
        | rfl
        | exact absurd (za7.1 e2) (k3 b (za7.1 e1))
        | exact absurd (za7.1 e1) (k3 b (za7.1 e2))) (Imm.le_refl I) hc.imm (fun b o h => .inl h)
    (fun _ p hp => by
      simp only [List.mem_cons, List.not_mem_nil, or_false] at hp
      rcases hp with rfl | rfl
      · exact ⟨[], b1, rfl, k4⟩
      · exact ⟨[], b2, rfl, k5⟩)
  exact ⟨I, _, env, _, ids', q2, fun t d hd => (hc.env t d hd).mono (Imm.le_refl I) q1, q3, .of_le q1, h x⟩
theorem yb9 {α : Type} (i j id : Nat) {A B : Asn} (C : α → Asn) (hi : lk st i = some (some (.hp A))) (hj : lk st j = some (some (.hp B))) (hne : i ≠ j)
    (hA : ∀ vs us I w b1 b2, A.P vs I w b1 → B.P us I w b2 → (∀ b ∈ b1, b ∉ b2) → ∃ x bs, (∀ b ∈ bs, b ∈ b1 ∨ b ∈ b2) ∧ (C x).P [] I w bs)
    (h : ∀ x, DGo P n F Q todo env ((id, some (.hp (C x))) :: (i, none) :: (j, none) :: st) ids') : DGo P n F Q todo env st (id :: ids') := by
  refine zed fun I μ a w hc => ?_
  obtain ⟨g1, hg1, vs, b1, rfl, hP1⟩ := hc.blk i _ hi
  obtain ⟨g2, hg2, us, b2, rfl, hP2⟩ := hc.blk j _ hj
  obtain ⟨x, bs, k1, k2⟩ := hA vs us I w b1 b2 hP1 hP2 fun b h1 h2 => hne (hc.inj i j _ _ _ _ b hi hj hg1 hg2 (za7.2 h1) (za7.2 h2))
  obtain ⟨q1, q2, q3⟩ := StRep.relay (R := [i, j]) (new := [(id, hpG [] bs, .hp (C x))]) (ids' := ids') hc.toStRep
    (fun p hp b hb => by
      rw [List.mem_singleton.1 hp] at hb
      rcases k1 b (za7.1 hb) with h | h
      · exact ⟨i, _, _, by simp, hi, hg1, za7.2 h⟩
      · exact ⟨j, _, _, by simp, hj, hg2, za7.2 h⟩)
    (fun p hp q hq b _ _ => by rw [List.mem_singleton.1 hp, List.mem_singleton.1 hq]) (Imm.le_refl I) hc.imm (fun b o h => .inl h)
    (fun _ p hp => by rw [List.mem_singleton.1 hp]; exact ⟨[], bs, rfl, k2⟩)
  exact ⟨I, _, env, _, ids', q2, fun t d hd => (hc.env t d hd).mono (Imm.le_refl I) q1, q3, .of_le q1, h x⟩
mutual
def yo0 (id : Nat) (vs : List Value) : D → D
  | .hv i k => match Nat.beq i id, nth vs k with
    | true, some v => .raw v
    | _, _ => .hv i k
  | .agg cs => .agg (yha id vs cs)
  | .tup cs => .tup (yha id vs cs)
  | d => d
def yha (id : Nat) (vs : List Value) : List D → List D
  | [] => []
  | d :: r => yo0 id vs d :: yha id vs r
end
def yq4 (id : Nat) (vs : List Value) : Env → Env
  | [] => []
  | (t, d) :: r => (t, yo0 id vs d) :: yq4 id vs r
def opnB (id : Nat) (vs : List Value) : Blk → Blk
  | .cells t sz cs => .cells t sz (yha id vs cs)
  | b => b
def yl3 (id : Nat) (vs : List Value) : St → St
  | [] => []
  | (i, some b) :: r => (i, some (opnB id vs b)) :: yl3 id vs r
  | (i, none) :: r => (i, none) :: yl3 id vs r
theorem zh7 (id : Nat) (vs : List Value) : ∀ l : List D, yha id vs l = l.map (yo0 id vs)
  | [] => rfl
  | d :: r => by simp [yha, zh7 id vs r]
theorem RepD.opn {id : Nat} {vs : List Value} {bs : List Nat} (hm : μ id = some (hpG vs bs)) {v : Value} (h : RepD I μ v d) : RepD I μ v (yo0 id vs d) := by
  have at_ : ∀ {l : List D} {i : Nat} {x : D}, (yha id vs l)[i]? = some x → ∃ y, l[i]? = some y ∧ x = yo0 id vs y := by
    intro l i x hx
    rw [zh7, List.getElem?_map] at hx
    cases hl : l[i]? with
    | none => rw [hl] at hx; cases hx
    | some y => rw [hl] at hx; cases hx; exact ⟨y, rfl, rfl⟩
  induction h with
  | hv v i k us cs h hi h1 =>
    simp only [yo0]
    split
    · rename_i u he hu
      rw [Nat.eq_of_beq_eq_true he, hm] at h
      have hvs : vs = us ∧ bs = cs := by
        simp only [hpG, Option.some.injEq, Value.tuple.injEq, Array.mk.injEq, List.cons.injEq, Value.agg.injEq, and_true] at h
        refine ⟨by simpa using h.1, ?_⟩
        have h2 := congrArg Array.toList h.2
        simp only [ymy] at h2
        exact (List.map_inj_right (fun x y e => by simpa using e)).1 h2
      rw [zho, hvs.1, hi] at hu
      cases hu
      exact .raw _ h1
    · exact .hv v i k us cs h hi h1
  | agg cs ds hl h1 _ ih =>
    refine .agg cs _ (by rw [zh7, List.length_map, hl]) h1 fun i c x hc hx => ?_
    obtain ⟨y, hy, rfl⟩ := at_ hx
    exact ih i c y hc hy
  | tup cs ds hl _ ih =>
    refine .tup cs _ (by rw [zh7, List.length_map, hl]) fun i c x hc hx => ?_
    obtain ⟨y, hy, rfl⟩ := at_ hx
    exact ih i c y hc hy
  | undef v => exact .undef v
  | imm v x hx => exact .imm v x hx
  | nils => exact .nils
  | ref b id off hm => exact .ref b id off hm
  | ip b o t cs off vs hcell hrep => exact .ip b o t cs off vs hcell hrep
  | own i len a cap hm => exact .own i len a cap hm
  | elp b i len cap k sz f hm => exact .elp b i len cap k sz f hm
  | mapr i b hm => exact .mapr i b hm
  | iter i b hm => exact .iter i b hm
  | fn f first cap df dc hf hc h1 h2 _ _ => exact .fn f first cap df dc hf hc h1 h2
  | iface t v d h _ => exact .iface t v d h
  | guard c want v d h hu _ => exact .guard c want v d h hu
  | clip a len es hr => exact .clip a len es hr
  | slc b i off len cap hm hl hx => exact .slc b i off len cap hm hl hx
  | yld b i hm => exact .yld b i hm
  | raw v h => exact .raw v h
theorem yjd {id : Nat} {vs : List Value} : ∀ {env : Env} {t : Nat} {d : D}, lk (yq4 id vs env) t = some d → ∃ d0, lk env t = some d0 ∧ d = yo0 id vs d0
  | [], t, d, h => by simp [yq4, lk] at h
  | (s, x) :: r, t, d, h => by
    simp only [yq4] at h
    by_cases hs : s = t
    · subst hs; rw [zaj] at h ⊢; cases h; exact ⟨x, rfl, rfl⟩
    · rw [zan _ _ hs] at h ⊢; exact yjd h
theorem zrp {id : Nat} {vs : List Value} {i : Nat} {b : Blk} : ∀ {st : St}, zat (yl3 id vs st) i b → ∃ b0, zat st i b0 ∧ b = opnB id vs b0
  | [], h => by simp [yl3, zat, lk] at h
  | (k, some x) :: r, h => by
    simp only [yl3] at h
    rcases zai.1 h with ⟨h1, h2⟩ | ⟨h1, h2⟩
    · exact ⟨x, by unfold zat; rw [h1, zaj], h2⟩
    · obtain ⟨b0, q1, q2⟩ := zrp h2
      exact ⟨b0, zai.2 (.inr ⟨h1, q1⟩), q2⟩
  | (k, none) :: r, h => by
    simp only [yl3] at h
    obtain ⟨h1, h2⟩ := zbf.1 h
    obtain ⟨b0, q1, q2⟩ := zrp h2
    exact ⟨b0, zbf.2 ⟨h1, q1⟩, q2⟩
theorem StRep.retell {st1 : St} (hst : StRep I μ st ids w) (h : ∀ i b, zat st1 i b → ∃ b0, zat st i b0 ∧ ∀ g, BlkRep I μ w g b0 → BlkRep I μ w g b) : StRep I μ st1 ids w ∧ Ext I μ st w I μ st1 w := by
  refine ⟨{ imm := hst.imm, blk := fun i b hl => ?_, apart := fun i b g k hl hg hk => ?_, inj := fun i j bi bj gi gj k hi hj => ?_, nodup := hst.nodup, idsFree := hst.idsFree }, ?_⟩
  · obtain ⟨b0, h1, h2⟩ := h i b hl
    obtain ⟨g, hg, hr⟩ := hst.blk i b0 h1
    exact ⟨g, hg, h2 g hr⟩
  · obtain ⟨b0, h1, _⟩ := h i b hl
    exact hst.apart i b0 g k h1 hg hk
  · obtain ⟨b0, h1, _⟩ := h i bi hi
    obtain ⟨b1, h2, _⟩ := h j bj hj
    exact hst.inj i j b0 b1 gi gj k h1 h2
  · exact { imm := Imm.le_refl I, os := rfl, tape := rfl, output := rfl, size := Nat.le_refl _, block := fun _ _ _ => rfl, old := fun _ _ _ => rfl
            fresh := fun b _ ⟨i, bi, g, h1, h2⟩ => let ⟨b0, q, _⟩ := h i bi h1; ⟨i, b0, g, q, h2⟩ }
theorem zg8 {α : Type} (id j : Nat) {A : Asn} (val : α → List Value) (B : α → Asn) (hl : lk st id = some (some (.hp A)))
    (hA : ∀ vs I w bs, A.P vs I w bs → ∃ x, vs = val x ∧ (B x).P [] I w bs)
    (h : ∀ x, DGo P n F Q todo (yq4 id (val x) env) ((j, some (.hp (B x))) :: (id, none) :: yl3 id (val x) st) ids') : DGo P n F Q todo env st (j :: ids') := by
  refine zed fun I μ a w hc => ?_
  obtain ⟨g, hg, vs, bs, rfl, hP⟩ := hc.blk id _ hl
  obtain ⟨x, rfl, h2⟩ := hA vs I w bs hP
  obtain ⟨p1, p2⟩ := hc.toStRep.retell (st1 := yl3 id (val x) st) (fun i b hlb => by
    obtain ⟨b0, q1, rfl⟩ := zrp hlb
    refine ⟨b0, q1, fun gb hb => ?_⟩
    cases b0 with
    | cells t sz cs =>
      obtain ⟨hs, b, us, e1, e2, e3, e4⟩ := hb
      exact ⟨by rw [zh7, List.length_map, hs], b, us, e1, e2, ⟨by rw [zh7, List.length_map, e3.1], fun i v y hv hy => by
        rw [zh7, List.getElem?_map] at hy
        cases hc' : cs[i]? with
        | none => rw [hc'] at hy; cases hy
        | some z => rw [hc'] at hy; cases hy; exact (e3.2 i v z hv hc').opn hg⟩, e4⟩
    | _ => exact hb)
  have hl' : zat (yl3 id (val x) st) id (.hp A) := by
    have : ∀ {st : St}, zat st id (.hp A) → zat (yl3 id (val x) st) id (.hp A) := by
      intro st
      induction st with
      | nil => intro h; simp [zat, lk] at h
      | cons p r ih =>
        obtain ⟨k, y⟩ := p
        intro h
        cases y with
        | none => obtain ⟨h1, h2⟩ := zbf.1 h; exact zbf.2 ⟨h1, ih h2⟩
        | some y =>
          rcases zai.1 h with ⟨h1, h2⟩ | ⟨h1, h2⟩
          · exact zai.2 (.inl ⟨h1, by rw [← h2]; rfl⟩)
          · exact zai.2 (.inr ⟨h1, ih h2⟩)
    exact this hl
  obtain ⟨q1, q2, q3⟩ := StRep.relay (R := [id]) (new := [(j, hpG [] bs, .hp (B x))]) (ids' := ids') p1
    (fun p hp b hb => by
      rw [List.mem_singleton.1 hp] at hb
      exact ⟨id, _, _, by simp, hl', hg, za7.2 (za7.1 hb)⟩)
    (fun p hp q hq b _ _ => by rw [List.mem_singleton.1 hp, List.mem_singleton.1 hq]) (Imm.le_refl I) hc.imm (fun b o h => .inl h)
    (fun _ p hp => by rw [List.mem_singleton.1 hp]; exact ⟨[], bs, rfl, h2⟩)
  refine ⟨I, _, yq4 id (val x) env, _, ids', q2, fun t d hd => ?_, p2.trans q3, .of_le q1, h x⟩
  obtain ⟨d0, h0, rfl⟩ := yjd hd
  exact ((hc.env t d0 h0).opn hg).mono (Imm.le_refl I) q1
def clD (j : Nat) (vs : List Value) (d d' : D) : Prop := d = d' ∨ ∃ k v, d = .raw v ∧ d' = .hv j k ∧ vs[k]? = some v
def clL (j : Nat) (vs : List Value) : List D → List D → Prop
  | [], [] => True
  | d :: r, d' :: r' => clD j vs d d' ∧ clL j vs r r'
  | _, _ => False
theorem yei {j : Nat} {vs : List Value} : ∀ {ds ds' : List D}, clL j vs ds ds' → ds.length = ds'.length ∧ ∀ (i : Nat) (d' : D), ds'[i]? = some d' → ∃ d, ds[i]? = some d ∧ clD j vs d d'
  | [], [], _ => ⟨rfl, fun i d h => by simp at h⟩
  | d :: r, d' :: r', h => by
    obtain ⟨h1, h2⟩ := yei h.2
    refine ⟨by simp [h1], fun i x hx => ?_⟩
    cases i with
    | zero => simp at hx; subst hx; exact ⟨d, rfl, h.1⟩
    | succ i => exact h2 i x (by simpa using hx)
  | [], _ :: _, h => h.elim
  | _ :: _, [], h => h.elim
theorem zz5 (id k j : Nat) {B A : Asn} (vs : List Value) {t : TypeId} {sz : Nat} {ds : List D} (ds' : List D) (hl : lk st id = some (some (.hp B))) (hk : lk st k = some (some (.cells t sz ds)))
    (hA : ∀ us I w bs, B.P us I w bs → A.P vs I w bs) (hcl : clL j vs ds ds')
    (h : DGo P n F Q todo env ((k, some (.cells t sz ds')) :: (j, some (.hp A)) :: (id, none) :: st) ids') : DGo P n F Q todo env st (j :: ids') := by
  refine zed fun I μ a w hc => ?_
  obtain ⟨g, hg, us, bs, rfl, hP⟩ := hc.blk id _ hl
  obtain ⟨gk, hgk, hs, b, xs, rfl, hheap, hrep, hone⟩ := hc.blk k _ hk
  have hjk : j ≠ k := fun e => by rw [← e, hc.idsFree j (by simp)] at hgk; cases hgk
  have hik : id ≠ k := fun e => by subst e; rw [hl] at hk; cases hk
  obtain ⟨q1, q2, q3⟩ := StRep.relay (R := [id]) (new := [(j, hpG vs bs, .hp A)]) (ids' := ids') hc.toStRep
    (fun p hp b hb => by
      rw [List.mem_singleton.1 hp] at hb
      exact ⟨id, _, _, by simp, hl, hg, za7.2 (za7.1 hb)⟩)
    (fun p hp q hq b _ _ => by rw [List.mem_singleton.1 hp, List.mem_singleton.1 hq]) (Imm.le_refl I) hc.imm (fun b o h => .inl h)
    (fun _ p hp => by rw [List.mem_singleton.1 hp]; exact ⟨vs, bs, rfl, hA us I w bs hP⟩)
  have hk2 : zat ((j, some (.hp A)) :: (id, none) :: st) k (.cells t sz ds) := zai.2 (.inr ⟨hjk.symm, zbf.2 ⟨hik.symm, hk⟩⟩)
  have hmj : zha [(j, hpG vs bs, .hp A)] μ j = some (hpG vs bs) := by simp [zha, lk]
  obtain ⟨c1, c2⟩ := yei hcl
  obtain ⟨p1, p2⟩ := q2.retell (st1 := (k, some (.cells t sz ds')) :: (j, some (.hp A)) :: (id, none) :: st) (fun i bb hlb => by
    rcases zai.1 hlb with ⟨rfl, rfl⟩ | ⟨_, h2⟩
    · refine ⟨_, hk2, fun gb hb => ?_⟩
      obtain ⟨hs, b, us, e1, e2, e3, e4⟩ := hb
      refine ⟨by rw [← c1, hs], b, us, e1, e2, ⟨by rw [← c1, e3.1], fun i v y hv hy => ?_⟩, e4⟩
      obtain ⟨d, y1, y2⟩ := c2 i y hy
      have hr := e3.2 i v d hv y1
      rcases y2 with rfl | ⟨kk, u, rfl, rfl, hu⟩
      · exact hr
      · have := hr.rawInv
        subst this
        exact .hv _ j kk vs bs hmj hu (e4 _ (List.mem_of_getElem? hv))
    · exact ⟨_, h2, fun _ h => h⟩)
  exact ⟨I, _, env, _, ids', p1, fun t d hd => (hc.env t d hd).mono (Imm.le_refl I) q1, q3.trans p2, .of_le q1, h⟩
def Imm.plus (I : Imm) (bs : List Nat) (w : World) : Imm := fun b => if zlm bs b = true then w.heap[b]? else I b
theorem zfo (id k : Nat) {A : Asn} {t : TypeId} {sz : Nat} {ds : List D} (xs : List V) (hl : lk st id = some (some (.hp A))) (hk : lk st k = some (some (.cells t sz ds)))
    (hA : ∀ vs I J w bs, A.P vs I w bs → I.le J → (∀ b ∈ bs, J b = w.heap[b]?) → ∀ (cs : List Value), RepL J noMu cs ds → RepVL J cs xs) (hnm : nmL ds = [])
    (h : DGo P n F Q todo env ((k, some (.immb t sz xs)) :: (id, none) :: st) ids) : DGo P n F Q todo env st ids := by
  refine zed fun I μ a w hc => ?_
  obtain ⟨g, hg, vs, bs, rfl, hP⟩ := hc.blk id _ hl
  obtain ⟨gk, hgk, hs, b, us, rfl, hheap, hrep, hone⟩ := hc.blk k _ hk
  have hik : id ≠ k := fun e => by subst e; rw [hl] at hk; cases hk
  have hbs : ∀ b ∈ bs, I b = none ∧ b < w.heap.size := fun b hb => hc.apart id _ _ b hl hg (za7.2 hb)
  have hle : I.le (I.plus bs w) := fun b o h => by
    have : zlm bs b = false := by
      cases hm : zlm bs b with
      | false => rfl
      | true => rw [(hbs b (zbx.1 hm)).1] at h; cases h
    simp [Imm.plus, this, h]
  have hJb : ∀ b ∈ bs, I.plus bs w b = w.heap[b]? := fun b hb => by simp [Imm.plus, zbx.2 hb]
  obtain ⟨q1, q2, q3⟩ := StRep.relay (R := [id]) (new := []) (ids' := ids) (J := I.plus bs w) hc.toStRep (fun p hp => by cases hp) (fun p hp => by cases hp) hle
    (fun b o h => by
      unfold Imm.plus at h
      split at h
      · exact h
      · exact hc.imm b o h)
    (fun b o h => by
      unfold Imm.plus at h
      split at h
      · rename_i hm; exact .inr ⟨⟨id, _, _, by simp, hl, hg, za7.2 (zbx.1 hm)⟩, fun p hp => by cases hp⟩
      · exact .inl h)
    (fun _ p hp => by cases hp)
  have hk2 : zat ((id, none) :: st) k (.cells t sz ds) := zbf.2 ⟨hik.symm, hk⟩
  obtain ⟨p1, p2⟩ := q2.retell (st1 := (k, some (.immb t sz xs)) :: (id, none) :: st) (fun i bb hlb => by
    rcases zai.1 hlb with ⟨rfl, rfl⟩ | ⟨_, h2⟩
    · refine ⟨_, hk2, fun gb hb => ?_⟩
      obtain ⟨hs', b', us', e1, e2, e3, e4⟩ := hb
      have hmu : zha ([] : List (Nat × Value × Blk)) μ = μ := by funext i; simp [zha, lk]
      rw [hmu] at e3
      have e3' : RepL (I.plus bs w) noMu us'.toList ds := e3.sub fun j hj => by rw [hnm] at hj; cases hj
      have hx' := hA vs I (I.plus bs w) w bs hP hle hJb us'.toList e3'
      exact ⟨by rw [← hx'.1, e3.1, hs'], b', us', e1, e2, hx', e4⟩
    · exact ⟨_, h2, fun _ h => h⟩)
  exact ⟨_, _, env, _, ids, p1, fun t d hd => (hc.env t d hd).mono hle q1, q3.trans p2, .of_le q1, h⟩
end
end Go.Hk
namespace Go.Hk
def RowA (e : TypeId) (sz : Nat) (es : List (List V)) (v : Value) : Asn where
  P := fun _ I w bs => (v = .slice none 0 0 ∧ es = [] ∧ bs = []) ∨ ∃ b cap cur, v = .slice (some ⟨b, 0, none⟩) es.length cap ∧ bs = [b] ∧ w.heap[b]? = some (.cells cur e (0, 0)) ∧ es.length ≤ cap ∧ cap ≤ maxLen ∧
    cur.size = cap * sz ∧ RepVL I (cur.toList.take (es.length * sz)) es.flatten ∧ (∀ c ∈ es, c.length = sz) ∧ (∀ c ∈ es, ∀ x ∈ c, V.one x = true) ∧ 0 < sz
  mono := fun h hp => by
    rcases hp with hp | ⟨b, cap, cur, h1, h2, h3, h4, h5, h6, h7, h8⟩
    · exact .inl hp
    · exact .inr ⟨b, cap, cur, h1, h2, h3, h4, h5, h6, h7.mono h, h8⟩
  loc := fun h hp => by
    rcases hp with hp | ⟨b, cap, cur, h1, h2, h3, h4⟩
    · exact .inl hp
    · exact .inr ⟨b, cap, cur, h1, h2, (h b (by simp [h2])).trans h3, h4⟩
section
variable {P : Program} {n : Nat} {F : List Nat} {Q : DQ} {tt : TT} {env env' : Env} {st st' : St} {ids ids' : List Nat} {todo : List DI} {I J : Imm} {μ : Mu} {w : World} {a : Act} {d : D}
end
end Go.Hk
namespace Go.Hk
structure PA0 where
  dx : D
  dst : Option Nat
  todo : List DI
def papp0 (tt : TT) (n : Nat) (env : Env) (todo : List DI) : Option PA0 :=
  match zcr todo ([], []) with
  | some (_, o, todo') => match o.guard, o.op with
    | none, .call { callee := .builtin .append, args := ⟨[x, y]⟩, argTypes := ⟨[t, t']⟩ } => match Nat.beq t t', lk tt t, evO env x, evO env y with
      | true, some { sh := .sl e, .. }, some (.clip es), some (.imm (.sl [])) => match lk tt e, zdg n o.dst with
        | some _, true => some ⟨.clip es, o.dst, todo'⟩
        | _, _ => none
      | true, some { sh := .sl e, .. }, some (.imm (.sl es)), some (.imm (.sl [])) => match lk tt e, zdg n o.dst with
        | some _, true => some ⟨.imm (.sl es), o.dst, todo'⟩
        | _, _ => none
      | _, _, _, _ => none
    | _, _ => none
  | none => none
structure PEn where
  es : List (List V)
  eq : Bool
  dst : Option Nat
  todo : List DI
def peqn (tt : TT) (n : Nat) (env : Env) (todo : List DI) : Option PEn :=
  match zcr todo ([], []) with
  | some (_, o, todo') => match o.guard, o.op with
    | none, .binOp .eql t x y _ => match lk tt t, evO env x, evO env y, zdg n o.dst with
      | some { sh := .sl _, .. }, some (.imm (.sl es)), some .nils, true => some ⟨es, true, o.dst, todo'⟩
      | _, _, _, _ => none
    | none, .binOp .neq t x y _ => match lk tt t, evO env x, evO env y, zdg n o.dst with
      | some { sh := .sl _, .. }, some (.imm (.sl es)), some .nils, true => some ⟨es, false, o.dst, todo'⟩
      | _, _, _, _ => none
    | _, _ => none
  | none => none
def ImmA (x : V) : Asn where
  P := fun vs I _ bs => bs = [] ∧ ∃ v, vs = [v] ∧ RepV I v x ∧ v.oneCell' = true
  mono := fun h ⟨h1, v, h2, h3, h4⟩ => ⟨h1, v, h2, h3.mono h, h4⟩
  loc := fun _ h => h
def RowH (e : TypeId) (sz : Nat) (es : List (List V)) : Asn where
  P := fun vs I w bs => ∃ v, vs = [v] ∧ (RowA e sz es v).P [] I w bs
  mono := fun h ⟨v, h1, h2⟩ => ⟨v, h1, (RowA e sz es v).mono h h2⟩
  loc := fun h ⟨v, h1, h2⟩ => ⟨v, h1, (RowA e sz es v).loc h h2⟩
def yq7 (I : Imm) (j : Nat) (vs : List Value) (c : Value) (d : D) : Prop := match d with
  | .hv i k => i = j ∧ vs[k]? = some c
  | d => RepD I noMu c d
def zis (A B : Asn) (A' : Asn) (j b off : Nat) (ds : List D) : Prop := ∀ us vs I w b1 b2, A.P us I w b1 → B.P vs I w b2 → (∀ b ∈ b1, b ∉ b2) → b ∈ b1 ∧ ∃ cur t, w.heap[b]? = some (.cells cur t (0, 0)) ∧ off + ds.length ≤ cur.size ∧
  ∀ cs : List Value, cs.length = ds.length → (∀ (i : Nat) (c : Value) (d : D), cs[i]? = some c → ds[i]? = some d → yq7 I j vs c d) → (∀ c ∈ cs, c.oneCell' = true) →
    ∃ bs, (∀ b ∈ bs, b ∈ b1 ∨ b ∈ b2) ∧ A'.P [] I (w.setRow b (cur.toList.take off ++ cs ++ cur.toList.drop (off + ds.length)).toArray) bs
def yfn (j : Nat) : List D → Bool
  | [] => true
  | .hv i _ :: r => Nat.beq i j && yfn j r
  | d :: r => (match nmD d with | [] => true | _ => false) && yfn j r
structure PRj where
  b : Nat
  off : Nat
  ds : List D
  todo : List DI
def ydg (tt : TT) (env : Env) (id j id' : Nat) (todo : List DI) : Option PRj :=
  match zcr todo ([id, j], [id', id, j]) with
  | some (_, o, todo') => match o.guard, o.dst, o.op with
    | none, none, .store t p x => match lk tt t, evO env p, evO env x with
      | some i, some (.raw (.pointer (some ⟨b, off, none⟩))), some dx => match znj dx with
        | some ds => match Nat.beq ds.length i.size, yfn j ds with
          | true, true => some ⟨b, off, ds, todo'⟩
          | _, _ => none
        | none => none
      | _, _, _ => none
    | _, _, _ => none
  | none => none
section
variable {P : Program} {n : Nat} {F : List Nat} {Q : DQ} {tt : TT} {env env' : Env} {st st' : St} {ids ids' : List Nat} {k todo todo' : List DI} {I J : Imm} {μ : Mu} {w : World} {a : Act} {d : D}
theorem zwa {v : Value} {es : List (List V)} (h : RepV I v (.sl es)) : ∃ ad len cap, v = .slice ad len cap ∧ len ≤ cap ∧ len = es.length := by
  cases h with
  | slnil => exact ⟨_, _, _, rfl, Nat.le_refl _, rfl⟩
  | sl0 ad => exact ⟨_, _, _, rfl, Nat.le_refl _, rfl⟩
  | sl b o len cap sz _ vs hl hc => exact ⟨_, _, _, rfl, hc, hl⟩
theorem zsj (htt : TTok P tt) {c : PA0} (h : papp0 tt n env todo = some c) (hk : G P n F Q c.todo (zei c.dst c.dx env) st ids) : G P n F Q todo env st ids := by
  have key : ∀ {todo' : List DI} {o : Oper} {all : List Oper} {x y : Operand} {t e : TypeId} {dx : D} {es : List (List V)} {ti : TyI}, zcr todo ([], []) = some (all, o, todo') → o.guard = none → o.op = .call { callee := .builtin .append, args := ⟨[x, y]⟩, argTypes := ⟨[t, t]⟩ } →
      P.underlying t = some (.slice e) → lk tt e = some ti → evO env x = some dx → evO env y = some (.imm (.sl [])) → (∀ I μ v, RepD I μ v dx → RepV I v (.sl es)) → zdg n o.dst = true → G P n F Q todo' (zei o.dst dx env) st ids → G P n F Q todo env st ids := by
    intro todo' o all x y t e dx es ti h1 hg hop hu hi hx hy hd hdst hk
    refine zc5 (fr := []) (wr := []) (rd := []) h1 ?_ hdst (fun c hc => by rw [hop] at hc; cases hc) hk
    intro I μ st1 ids1 a w hag hst hon
    refine ⟨fun _ => ?_, fun hw => by rw [zax hg] at hw; cases hw⟩
    have hops := zbo hon
    rw [hop] at hops
    have rx := hops x (by simp [Op.operands, Call.operands]) _ hx
    have ry := (hops y (by simp [Op.operands, Call.operands]) _ hy).immInv
    obtain ⟨ad, len, cap, e1, e2, _⟩ := zwa (hd _ _ _ rx)
    obtain ⟨ady, ly, capy, e3, e4, e5⟩ := zwa ry
    obtain ⟨inf, z, z1, z2, z3, z4, z5, z6⟩ := (htt e ti hi).info
    simp only [List.length_nil] at e5
    subst e5
    have hr : (Builtin.append_ #[t, t] o.type #[a.eval x, a.eval y]).run P w = .ok (a.eval x) w := by
      rw [e1, e3]
      cases ad <;> cases ady <;> simp [Builtin.append_, run_underlying hu, sizeOf, typeInfo, z1, Builtin.lenOf, e2, Builtin.firstCells, loadCells, loadCellsFrom, storeCells]
    have hrun : (execOp a.eval o).run P w = .ok (.value (a.eval x)) w := by
      simp only [execOp, hop, resolve, invoke, builtin, Sem.run_bind, Sem.run_pure, Result.andThen_ok, List.map_toArray, List.map_cons, List.map_nil, hr]
    rw [hrun]
    exact ⟨I, μ, hst, rx, Mu.le_refl μ, Ext.refl _ _ _ _⟩
  unfold papp0 at h
  split at h
  · rename_i all o todo' h1
    split at h
    · rename_i x y t t' hg hop
      split at h
      · rename_i e _ _ _ _ es htt' ht hx hy
        have := Nat.eq_of_beq_eq_true htt'
        subst this
        split at h
        · rename_i ti hi hd
          cases h
          exact key h1 hg hop (htt.sh ht) hi hx hy (fun I μ v h => by cases h; assumption) hd hk
        · cases h
      · rename_i e _ _ _ _ es htt' ht hx hy
        have := Nat.eq_of_beq_eq_true htt'
        subst this
        split at h
        · rename_i ti hi hd
          cases h
          exact key h1 hg hop (htt.sh ht) hi hx hy (fun I μ v h => h.immInv) hd hk
        · cases h
      · cases h
    · cases h
  · cases h
theorem yo9 {α : Type} {all rest : List Oper} {o : Oper} (f : α → D) (good : α → Prop) (hnd : ∀ c, o.op ≠ .defer c) (hg : o.guard = none) (hn : ∀ t, o.dst = some t → t < n)
    (hy : ∀ I μ a w, StRep I μ st ids w → zfq I μ env a o.op → ∃ x v, good x ∧ (execOp a.eval o).run P w = .ok (.value v) w ∧ RepD I μ v (f x))
    (h : ∀ x, good x → DGo P n F Q (.ops all rest :: k) (zei o.dst (f x) env) st ids) : DGo P n F Q (.ops all (o :: rest) :: k) env st ids := by
  intro b cs I μ a w items hd hc
  obtain ⟨j, is, rfl, hr, hk⟩ := zjy hd
  obtain ⟨hj, hr'⟩ := zej hr
  have hon : ztn (o.looksAt all.toArray) I μ env a := fun t _ d hl => hc.env t d hl
  obtain ⟨x, v, hx, hrun, hv⟩ := hy I μ a w hc.toStRep (zbo hon)
  obtain ⟨p1, p2, p3⟩ := zje (n := n) (w := w) (dst := o.dst) (fun t d hl => hc.env t d hl) hc.size hn hv
  have := h x hx b cs I μ (a.put o.dst v) w (.inRegion all.toArray (List.range' (j + 1) rest.length) :: is) ⟨⟨rfl, j + 1, hr', rfl⟩, hk⟩
    { hc.toStRep with size := p2, env := by cases hdst : o.dst <;> simpa [zei, hdst] using p1, defers := by rw [p3]; exact hc.defers }
  rw [p3] at this
  have hlen : (o :: rest).length = rest.length + 1 := rfl
  rw [hlen, List.range'_succ]
  refine zfz hj (zax hg) hnd ?_
  unfold zx3
  rw [hrun]
  exact this
theorem zw4 (m : Nat) {t e : TypeId} (hs : P.underlying t = some (.slice e)) (ad : Option Addr) (len cap : Nat) : (Op.equalIn (m + 1) t (.slice ad len cap) (.slice none 0 0)).run P w = .ok ad.isNone w := by
  cases ad <;> simp [Op.equalIn, run_underlying hs]
theorem zsu {t e : TypeId} (hs : P.underlying t = some (.slice e)) (ad : Option Addr) (len cap : Nat) : (Op.equal t (.slice ad len cap) (.slice none 0 0)).run P w = .ok ad.isNone w := zw4 9999 hs ad len cap
theorem zm2 {t e : TypeId} (hs : P.underlying t = some (.slice e)) (x y : Operand) (ad : Option Addr) (len cap : Nat) :
    (do eqGuard .eql t x y (.slice ad len cap) (.slice none 0 0); binOp .eql t (.slice ad len cap) (.slice none 0 0) : Sem Value).run P w = .ok (.bool ad.isNone) w ∧
    (do eqGuard .neq t x y (.slice ad len cap) (.slice none 0 0); binOp .neq t (.slice ad len cap) (.slice none 0 0) : Sem Value).run P w = .ok (.bool (!ad.isNone)) w := by
  constructor
  · simp only [Sem.run_bind, zdo .eql t x y (.slice ad len cap) (.slice none 0 0) (by simp) (by simp), Result.andThen_ok, binOp, zsu hs, Sem.run_pure]
  · simp only [Sem.run_bind, zdo .neq t x y (.slice ad len cap) (.slice none 0 0) (by simp) (by simp), Result.andThen_ok, binOp, zsu hs, Sem.run_pure]
theorem zhr (htt : TTok P tt) {all rest : List Oper} {o : Oper} {c : PEn} (h : peqn tt n env (.ops all (o :: rest) :: k) = some c) (hk : ∀ b : Bool, (c.es ≠ [] → b = !c.eq) → DGo P n F Q c.todo (zei c.dst (.imm (.bool b)) env) st ids) :
    DGo P n F Q (.ops all (o :: rest) :: k) env st ids := by
  unfold peqn at h
  simp only [zcr] at h
  have hnone : ∀ {I : Imm} {v : Value} {es : List (List V)}, RepV I v (.sl es) → ∃ ad len cap, v = .slice ad len cap ∧ (es ≠ [] → ad.isNone = false) := by
    intro I v es h
    cases h with
    | slnil => exact ⟨_, _, _, rfl, fun h => absurd rfl h⟩
    | sl0 ad => exact ⟨_, _, _, rfl, fun _ => rfl⟩
    | sl b o len cap sz _ vs hl hc => exact ⟨_, _, _, rfl, fun _ => rfl⟩
  split at h
  · rename_i t x y t' hg hop
    split at h
    · rename_i e _ _ _ _ es ht hx hy hd
      cases h
      have hn : ∀ t, o.dst = some t → t < n := fun t ht => by
        unfold zdg at hd; rw [ht] at hd; simpa [Nat.blt_eq] using hd
      refine yo9 (fun b => .imm (.bool b)) (fun b => es ≠ [] → b = false) (fun c hc => by rw [hop] at hc; cases hc) hg hn (fun I μ a w hst hops => ?_) fun b hb => hk b hb
      rw [hop] at hops
      obtain ⟨ad, len, cap, e1, e2⟩ := hnone (hops x (by simp [Op.operands]) _ hx).immInv
      have e3 : a.eval y = .slice none 0 0 := by
        have := hops y (by simp [Op.operands]) _ hy
        generalize a.eval y = v at this
        cases this; rfl
      refine ⟨ad.isNone, .bool ad.isNone, e2, ?_, .imm _ _ (.bool _)⟩
      simp only [execOp, hop, e1, e3]
      exact zao (zm2 (htt.sh ht) x y ad len cap).1
    · cases h
  · rename_i t x y t' hg hop
    split at h
    · rename_i e _ _ _ _ es ht hx hy hd
      cases h
      have hn : ∀ t, o.dst = some t → t < n := fun t ht => by
        unfold zdg at hd; rw [ht] at hd; simpa [Nat.blt_eq] using hd
      refine yo9 (fun b => .imm (.bool b)) (fun b => es ≠ [] → b = true) (fun c hc => by rw [hop] at hc; cases hc) hg hn (fun I μ a w hst hops => ?_) fun b hb => hk b hb
      rw [hop] at hops
      obtain ⟨ad, len, cap, e1, e2⟩ := hnone (hops x (by simp [Op.operands]) _ hx).immInv
      have e3 : a.eval y = .slice none 0 0 := by
        have := hops y (by simp [Op.operands]) _ hy
        generalize a.eval y = v at this
        cases this; rfl
      refine ⟨!ad.isNone, .bool (!ad.isNone), fun h => by rw [e2 h]; rfl, ?_, .imm _ _ (.bool _)⟩
      simp only [execOp, hop, e1, e3]
      exact zao (zm2 (htt.sh ht) x y ad len cap).2
    · cases h
  · cases h
theorem zij (t j : Nat) {d0 : D} {x : V} (ht : lk env t = some d0) (hd : toV d0 = some x) (hx : V.one x = true) (h : DGo P n F Q todo ((t, .hv j 0) :: env) ((j, some (.hp (ImmA x))) :: st) ids') : DGo P n F Q todo env st (j :: ids') := by
  refine zed fun I μ a w hc => ?_
  have hr : RepV I (a.tmps.getD t undef) x := zv7 hd (hc.env t _ ht)
  have h1 := hr.one hx
  obtain ⟨q1, q2, q3⟩ := StRep.relay (R := []) (new := [(j, hpG [a.tmps.getD t undef] [], .hp (ImmA x))]) (ids' := ids') hc.toStRep
    (fun p hp b hb => by rw [List.mem_singleton.1 hp] at hb; cases za7.1 hb)
    (fun p hp q hq b _ _ => by rw [List.mem_singleton.1 hp, List.mem_singleton.1 hq]) (Imm.le_refl I) hc.imm (fun b o h => .inl h)
    (fun _ p hp => by rw [List.mem_singleton.1 hp]; exact ⟨_, [], rfl, rfl, _, rfl, hr, h1⟩)
  refine ⟨I, _, _, _, ids', q2, fun t' d hd => ?_, q3, .of_le q1, h⟩
  by_cases e : t = t'
  · subst e
    rw [zaj] at hd; cases hd
    exact .hv _ j 0 [a.tmps.getD t undef] [] (by simp [zha, lk]) rfl h1
  · rw [zan _ _ e] at hd; exact (hc.env t' d hd).mono (Imm.le_refl I) q1
theorem zs2 (t id j : Nat) {len : Nat} {e : TypeId} {sz : Nat} {es : List (List V)} (ht : lk env t = some (.own id len)) (hl : lk st id = some (some (.row e sz es))) (h : DGo P n F Q todo ((t, .hv j 0) :: env) ((j, some (.hp (RowH e sz es))) :: (id, none) :: st) ids') : DGo P n F Q todo env st (j :: ids') := by
  refine zed fun I μ a w hc => ?_
  obtain ⟨g, hg, xs, ⟨_, hown⟩, hrep, hsz, hone, hp⟩ := hc.blk id _ hl
  have hv : a.tmps.getD t undef = g := by
    have := hc.env t _ ht
    generalize a.tmps.getD t undef = v at this
    cases this with
    | own _ _ ad cap hm => rw [hm] at hg; cases hg; rfl
  have hg1 : g.oneCell' = true := by
    rcases hown with ⟨rfl, _⟩ | ⟨b, cap, cur, rfl, _⟩ <;> rfl
  obtain ⟨bs, hP, hbs⟩ : ∃ bs, (RowA e sz es g).P [] I w bs ∧ ∀ b ∈ bs, zgy g b := by
    rcases hown with ⟨rfl, h0⟩ | ⟨b, cap, cur, rfl, _, h2, h3, h4, h5, h6⟩
    · exact ⟨[], .inl ⟨rfl, List.eq_nil_of_length_eq_zero h0, rfl⟩, fun b hb => by cases hb⟩
    · rw [← h6] at hrep
      exact ⟨[b], .inr ⟨b, cap, cur, rfl, rfl, h2, h3, h4, h5, hrep, hsz, hone, hp⟩, fun b hb => by rw [List.mem_singleton.1 hb]; rfl⟩
  obtain ⟨q1, q2, q3⟩ := StRep.relay (R := [id]) (new := [(j, hpG [g] bs, .hp (RowH e sz es))]) (ids' := ids') hc.toStRep
    (fun p hp b hb => by
      rw [List.mem_singleton.1 hp] at hb
      exact ⟨id, _, _, by simp, hl, hg, hbs b (za7.1 hb)⟩)
    (fun p hp q hq b _ _ => by rw [List.mem_singleton.1 hp, List.mem_singleton.1 hq]) (Imm.le_refl I) hc.imm (fun b o h => .inl h)
    (fun _ p hp => by rw [List.mem_singleton.1 hp]; exact ⟨_, bs, rfl, _, rfl, hP⟩)
  refine ⟨I, _, _, _, ids', q2, fun t' d hd => ?_, q3, .of_le q1, h⟩
  by_cases e : t = t'
  · subst e
    rw [zaj] at hd; cases hd
    rw [hv]
    exact .hv _ j 0 [g] bs (by simp [zha, lk]) rfl hg1
  · rw [zan _ _ e] at hd; exact (hc.env t' d hd).mono (Imm.le_refl I) q1
theorem ydu {j : Nat} : ∀ {ds : List D} {i : Nat} {d : D}, yfn j ds = true → ds[i]? = some d → (∃ k, d = .hv j k) ∨ nmD d = []
  | [], i, d, _, h => by simp at h
  | x :: r, i, d, hn, h => by
    cases i with
    | zero =>
      simp at h; subst h
      cases x <;> simp only [yfn, Bool.and_eq_true] at hn <;> first
        | exact .inl ⟨_, by rw [Nat.eq_of_beq_eq_true hn.1]⟩
        | (right; revert hn; split <;> simp_all)
    | succ i =>
      refine ydu (ds := r) (i := i) ?_ (by simpa using h)
      cases x <;> simp only [yfn, Bool.and_eq_true] at hn <;> exact hn.2
theorem zmx (htt : TTok P tt) (id j id' : Nat) {A B : Asn} (A' : Asn) {c : PRj} (h : ydg tt env id j id' todo = some c) (hl : lk st id = some (some (.hp A))) (hlj : lk st j = some (some (.hp B))) (hne : id ≠ j) (hA : zis A B A' j c.b c.off c.ds)
    (hk : G P n F Q c.todo env ((id', some (.hp A')) :: (id, none) :: (j, none) :: st) ids') : G P n F Q todo env st (id' :: ids') := by
  unfold ydg at h
  split at h
  · rename_i all o todo' h1
    split at h
    · rename_i t p x hgd hdst hop
      split at h
      · rename_i i b off dx ht hp hx
        split at h
        · rename_i ds hds
          split at h
          · rename_i hsz hnm
            cases h
            simp only at hA hk
            have hk : G P n F Q todo' (zei o.dst .undef env) ([(id', some (.hp A')), (id, none), (j, none)] ++ st) ids' := by rw [hdst]; exact hk
            refine zc5 (fr := [id']) (wr := [(id', some (.hp A')), (id, none), (j, none)]) (rd := [id, j]) h1 ?_ (by simp [zdg, hdst]) (fun c hc => by rw [hop] at hc; cases hc) hk
            intro I μ st1 ids1 a w hag hst hon
            refine ⟨fun _ => ?_, fun hw => by rw [zax hgd] at hw; cases hw⟩
            have hops := zbo hon
            rw [hop] at hops
            have rp := (hops p (by simp [Op.operands]) _ hp).rawInv
            obtain ⟨r1, r2⟩ := zhx hds (hops x (by simp [Op.operands]) _ hx)
            have hl1 : zat st1 id (.hp A) := by unfold zat; rw [hag id (by simp)]; exact hl
            have hl2 : zat st1 j (.hp B) := by unfold zat; rw [hag j (by simp)]; exact hlj
            obtain ⟨g1, hg1, us, b1, rfl, hP1⟩ := hst.blk id _ hl1
            obtain ⟨g2, hg2, vs, b2, rfl, hP2⟩ := hst.blk j _ hl2
            obtain ⟨k1, cur, bt, k2, k3, k4⟩ := hA us vs I w b1 b2 hP1 hP2 fun b h1 h2 => hne (hst.inj id j _ _ _ _ b hl1 hl2 hg1 hg2 (za7.2 h1) (za7.2 h2))
            have hvl : (a.eval x).cells.toList.length = ds.length := r1.1
            have hs := Nat.eq_of_beq_eq_true hsz
            have hrun : (execOp a.eval o).run P w = .ok .skip (w.setRow b (cur.toList.take off ++ (a.eval x).cells.toList ++ cur.toList.drop (off + (a.eval x).cells.toList.length)).toArray) := by
              simp only [execOp, hop, rp, Sem.run_bind, zf9 (htt t i ht) k2 (by rw [← hs, ← hvl]; simp) r2 (show off + (a.eval x).cells.toList.length ≤ cur.size by rw [hvl]; exact k3), Result.andThen_ok, Sem.run_pure]
            rw [hrun, hvl]
            obtain ⟨bs, z1, z2⟩ := k4 (a.eval x).cells.toList hvl (fun q c d hc hd => by
              have hr := r1.2 q c d hc hd
              rcases ydu hnm hd with ⟨kk, rfl⟩ | hno
              · cases hr with
                | hv _ _ _ us' bs' hm hi h1 =>
                  rw [hg2] at hm
                  have : vs = us' := by
                    simp only [hpG, Option.some.injEq, Value.tuple.injEq, Array.mk.injEq, List.cons.injEq, Value.agg.injEq, and_true] at hm
                    simpa using hm.1
                  exact ⟨rfl, by rw [this]; exact hi⟩
              · have : RepD I noMu c d := hr.sub fun j hj => by rw [hno] at hj; cases hj
                cases d <;> first | exact this | simp [nmD] at hno) r2
            -- the store, and the names
            obtain ⟨p1, p2⟩ := hst.update (id := id) (blk := .hp A) (blk' := .hp { P := fun _ _ w' bs' => w' = w.setRow b (cur.toList.take off ++ (a.eval x).cells.toList ++ cur.toList.drop (off + ds.length)).toArray ∧ bs' = b1 ∨ True, mono := fun _ h => h, loc := fun _ _ => .inr trivial }) (g := hpG us b1) (b := b) hl1 hg1 (za7.2 k1) (w' := w.setRow b (cur.toList.take off ++ (a.eval x).cells.toList ++ cur.toList.drop (off + ds.length)).toArray) (setRow_size w b _) rfl rfl rfl (fun k hk => setRow_other w b k _ hk) ⟨us, b1, rfl, .inr trivial⟩
            obtain ⟨q1, q2, q3⟩ := StRep.relay (R := [id, j]) (new := [(id', hpG [] bs, .hp A')]) (ids' := ids1) p1
              (fun p hp b hb => by
                rw [List.mem_singleton.1 hp] at hb
                rcases z1 b (za7.1 hb) with h | h
                · exact ⟨id, _, _, by simp, zai.2 (.inl ⟨rfl, rfl⟩), hg1, za7.2 h⟩
                · exact ⟨j, _, _, by simp, zai.2 (.inr ⟨fun e => hne e.symm, hl2⟩), hg2, za7.2 h⟩)
              (fun p hp q hq b _ _ => by rw [List.mem_singleton.1 hp, List.mem_singleton.1 hq]) (Imm.le_refl I) p1.imm (fun b o h => .inl h)
              (fun _ p hp => by rw [List.mem_singleton.1 hp]; exact ⟨[], bs, rfl, z2⟩)
            have hsame : ∀ i bb, zat ([(id', some (.hp A')), (id, none), (j, none)] ++ st1) i bb → zat (zy8 [(id', hpG [] bs, Blk.hp A')] ++ (zem [id, j] ++ (id, some (.hp { P := fun _ _ w' bs' => w' = w.setRow b (cur.toList.take off ++ (a.eval x).cells.toList ++ cur.toList.drop (off + ds.length)).toArray ∧ bs' = b1 ∨ True, mono := fun _ h => h, loc := fun _ _ => .inr trivial })) :: st1)) i bb := by
              intro i bb hlb
              rcases zai.1 hlb with ⟨h1, h2⟩ | ⟨h1, h2⟩
              · exact zai.2 (.inl ⟨h1, h2⟩)
              · obtain ⟨h3, h4⟩ := zbf.1 h2
                obtain ⟨h5, h6⟩ := zbf.1 h4
                exact zai.2 (.inr ⟨h1, zbf.2 ⟨h3, zbf.2 ⟨h5, zai.2 (.inr ⟨h3, h6⟩)⟩⟩⟩)
            obtain ⟨y1, y2⟩ := q2.retell (st1 := [(id', some (.hp A')), (id, none), (j, none)] ++ st1) fun i bb hlb => ⟨bb, hsame i bb hlb, fun _ h => h⟩
            exact ⟨I, _, y1, .undef _, q1, (p2.trans q3).trans y2⟩
          · cases h
        · cases h
      · cases h
    · cases h
  · cases h
end
end Go.Hk
namespace Go.Hk
section
variable {P : Program} {n : Nat} {F : List Nat} {Q : DQ} {tt : TT} {env env' : Env} {st st' : St} {ids ids' : List Nat} {k todo todo' : List DI} {I J : Imm} {μ : Mu} {w : World} {a : Act} {d : D}
theorem zel {α : Type} (id : Nat) {A : Asn} (B : α → Asn) (hl : lk st id = some (some (.hp A))) (hA : ∀ vs I w bs, A.P vs I w bs → ∃ x, (B x).P vs I w bs)
    (h : ∀ x, DGo P n F Q todo env ((id, some (.hp (B x))) :: st) ids) : DGo P n F Q todo env st ids := by
  refine zed fun I μ a w hc => ?_
  obtain ⟨g, hg, vs, bs, rfl, hP⟩ := hc.blk id _ hl
  obtain ⟨x, hx⟩ := hA vs I w bs hP
  have hlive : ∀ i b, zat ((id, some (.hp (B x))) :: st) i b → (i = id ∧ b = .hp (B x)) ∨ (i ≠ id ∧ zat st i b) := fun i b hl => by
    rcases zai.1 hl with ⟨rfl, rfl⟩ | h
    · exact .inl ⟨rfl, rfl⟩
    · exact .inr h
  have hold : ∀ i b, zat ((id, some (.hp (B x))) :: st) i b → ∃ b0, zat st i b0 := fun i b hl => by
    rcases hlive i b hl with ⟨rfl, _⟩ | ⟨_, h⟩
    · exact ⟨_, ‹lk st i = _›⟩
    · exact ⟨_, h⟩
  refine ⟨I, μ, env, _, ids, { imm := hc.imm, blk := fun i b hlb => ?_, apart := fun i b g k hlb hg' hk => ?_, inj := fun i j bi bj gi gj k hi hj => ?_, nodup := hc.nodup, idsFree := hc.idsFree }, fun t d hd => hc.env t d hd, ?_, Pin.refl _ _, h x⟩
  · rcases hlive i b hlb with ⟨rfl, rfl⟩ | ⟨_, h⟩
    · exact ⟨_, hg, vs, bs, rfl, hx⟩
    · exact hc.blk i b h
  · obtain ⟨b0, h0⟩ := hold i b hlb
    exact hc.apart i b0 g k h0 hg' hk
  · obtain ⟨b0, h0⟩ := hold i bi hi
    obtain ⟨b1, h1⟩ := hold j bj hj
    exact hc.inj i j b0 b1 gi gj k h0 h1
  · exact { imm := Imm.le_refl I, os := rfl, tape := rfl, output := rfl, size := Nat.le_refl _, block := fun _ _ _ => rfl, old := fun _ _ _ => rfl
            fresh := fun b _ ⟨i, bi, g, h1, h2⟩ => let ⟨b0, q⟩ := hold i bi h1; ⟨i, b0, g, q, h2⟩ }
end
end Go.Hk
namespace Go.Hk
theorem yeb : ∀ (vs pre post : List Value), post.length = vs.length → (∀ v ∈ vs, v.oneCell' = true) →
    Instr.fill (fun i => some (i * 1, 1)) (pre ++ post).toArray (vs.zipIdx pre.length |>.map fun p => (p.2, p.1)) = some (pre ++ vs).toArray
  | [], pre, post, h, _ => by
    have : post = [] := List.eq_nil_of_length_eq_zero h
    subst this; rfl
  | v :: r, pre, post, h, h1 => by
    cases post with
    | nil => simp at h
    | cons p q =>
      have hc := zgw (h1 v (by simp))
      simp only [List.zipIdx_cons, List.map_cons, Instr.fill, hc]
      rw [if_neg (by simp)]
      have ih := yeb r (pre ++ [v]) q (by simpa using h) (fun u hu => h1 u (by simp [hu]))
      simp only [List.length_append, List.length_cons, List.length_nil, List.append_assoc, List.cons_append, List.nil_append] at ih
      rw [← ih]
      congr 1
      simp [Nat.mul_one]
def zmj (env : Env) : Nat → List (Nat × Operand) → Option (List D)
  | _, [] => some []
  | i, (j, x) :: r => match Nat.beq i j, evO env x, zmj env (i + 1) r with
    | true, some d, some ds => match d.one with
      | true => some (d :: ds)
      | false => none
    | _, _, _ => none
structure PBa where
  ds : List D
  dst : Option Nat
  todo : List DI
def pbarr (tt : TT) (n : Nat) (env : Env) (todo : List DI) : Option PBa :=
  match zcr todo ([], []) with
  | some (_, o, todo') => match o.guard, o.op with
    | none, .build t ⟨parts⟩ => match lk tt t with
      | some { sh := .arr m e, zero := z, .. } => match lk tt e, zmj env 0 parts, zdg n o.dst with
        | some ti, some ds, true => match Nat.beq ti.size 1, Nat.beq ds.length m, Nat.beq z.length m with
          | true, true, true => some ⟨ds, o.dst, todo'⟩
          | _, _, _ => none
        | _, _, _ => none
      | _ => none
    | _, _ => none
  | none => none
structure PAx where
  id : Nat
  off : Nat
  len : Nat
  m : Int
  sz : Nat
  g : Option (Bool × Bool)
  ob : List Prop
  t : Nat
  todo : List DI
def paidx (tt : TT) (n : Nat) (env : Env) (todo : List DI) : Option PAx :=
  match zcr todo ([], []) with
  | some (all, o, todo') => match o.op, zea all env o with
    | .indexAddr t x i, some g => match lk tt t, ycq (zag g) env x, ycq (zag g) env i with
      | some { sh := .arr len e, .. }, some (.ref id off, o1), some (.imm (.int _ m), o2) => match lk tt e, o.dst, zdg n o.dst with
        | some ti, some t', true => some ⟨id, off, len, m, ti.size, g, cat o1 o2, t', todo'⟩
        | _, _, _ => none
      | _, _, _ => none
    | _, _ => none
  | none => none
section
variable {P : Program} {n : Nat} {F : List Nat} {Q : DQ} {tt : TT} {env env' : Env} {st st' : St} {ids ids' : List Nat} {k todo todo' : List DI} {I J : Imm} {μ : Mu} {w : World} {a : Act} {d : D}
theorem zrn {a : Act} : ∀ {ps : List (Nat × Operand)} {i : Nat} {ds : List D}, zmj env i ps = some ds → (∀ x ∈ ps.map (·.2), ∀ d, evO env x = some d → RepD I μ (a.eval x) d) →
    ps.map (fun p => (p.1, a.eval p.2)) = ((ps.map fun p => a.eval p.2).zipIdx i).map (fun p => (p.2, p.1)) ∧ RepL I μ (ps.map fun p => a.eval p.2) ds ∧ ∀ v ∈ ps.map (fun p => a.eval p.2), v.oneCell' = true
  | [], i, ds, h, _ => by
    simp only [zmj, Option.some.injEq] at h
    subst h
    exact ⟨rfl, ⟨rfl, fun i v d h => by simp at h⟩, fun v h => by simp at h⟩
  | (j, x) :: r, i, ds, h, hx => by
    simp only [zmj] at h
    split at h
    · rename_i d ds' hj hd hr
      split at h
      · rename_i h1
        cases h
        have hj := Nat.eq_of_beq_eq_true hj
        subst hj
        have hv := hx x (by simp) d hd
        obtain ⟨q1, q2, q3⟩ := zrn (a := a) hr (fun y hy => hx y (by simp at hy ⊢; exact .inr hy))
        refine ⟨by simp [q1], ⟨by simp [q2.1], fun k v d' h1 h2 => ?_⟩, fun v hv' => ?_⟩
        · cases k with
          | zero => simp at h1 h2; rw [← h1, ← h2]; exact hv
          | succ k => exact q2.2 k v d' (by simpa using h1) (by simpa using h2)
        · simp only [List.map_cons, List.mem_cons] at hv'
          rcases hv' with rfl | hv'
          · exact hv.one h1
          · exact q3 v hv'
      · cases h
    · cases h
theorem g_barr (htt : TTok P tt) {c : PBa} (h : pbarr tt n env todo = some c) (hk : G P n F Q c.todo (zei c.dst (zpq c.ds) env) st ids) : G P n F Q todo env st ids := by
  unfold pbarr at h
  split at h
  · rename_i all o todo' h1
    split at h
    · rename_i t parts hg hop
      split at h
      · rename_i m e _ _ _ z ht
        split at h
        · rename_i ti ds hti hps hd
          split at h
          · rename_i hsz hlen hzlen
            cases h
            refine zc5 (fr := []) (wr := []) (rd := []) h1 ?_ hd (fun c hc => by rw [hop] at hc; cases hc) hk
            intro I μ st1 ids1 a w hag hst hon
            refine ⟨fun _ => ?_, fun hw => by rw [zax hg] at hw; cases hw⟩
            have hops := zbo hon
            rw [hop] at hops
            obtain ⟨q1, q2, q3⟩ := zrn (a := a) (I := I) (μ := μ) hps (fun x hx => hops x (by simp only [Op.operands]; simpa using hx))
            have hty := htt t _ ht
            obtain ⟨inf, zv, hi1, _, _, hi4, hi5, hi6⟩ := hty.info
            have hu : P.underlying t = some (.array m e) := htt.sh ht
            have hs1 : ti.size = 1 := Nat.eq_of_beq_eq_true hsz
            have hzl : zv.cells.toList.length = m := by
              rw [(hi5 I μ).1]; exact Nat.eq_of_beq_eq_true hzlen
            have hpl : (parts.map fun p => a.eval p.2).length = m := by rw [q2.1]; exact Nat.eq_of_beq_eq_true hlen
            have hfill := yeb (parts.map fun p => a.eval p.2) [] zv.cells.toList (by rw [hzl, hpl]) q3
            simp only [List.nil_append, List.length_nil] at hfill
            have hrun : (execOp a.eval o).run P w = .ok (.value (.agg (parts.map fun p => a.eval p.2).toArray)) w := by
              simp only [execOp, hop, Instr.build, Sem.run_bind, zeroValue, typeInfo, run_program, Result.andThen_ok, hi1, hi4, Sem.run_pure, run_underlying hu, (htt e ti hti).sizeOf w, hs1, List.map_toArray, q1]
              rw [show zv.cells = zv.cells.toList.toArray from rfl, hfill]
              rfl
            rw [hrun]
            exact ⟨I, μ, hst, zjm q2 q3, Mu.le_refl μ, Ext.refl _ _ _ _⟩
          · cases h
        · cases h
      · cases h
    · cases h
  · cases h
theorem yd4 (htt : TTok P tt) {c : PAx} (h : paidx tt n env todo = some c) (hc : zag c.g → 0 ≤ c.m ∧ c.m < c.len) (hob : zb7 c.ob)
    (hk : G P n F Q c.todo ((c.t, gD c.g (.ref c.id (c.off + c.m.toNat * c.sz))) :: env) st ids) : G P n F Q todo env st ids := by
  unfold paidx at h
  split at h
  · rename_i all o todo' h1
    split at h
    · rename_i t x i g hop hg
      split at h
      · rename_i len e _ _ _ _ id off o1 kk m o2 ht hx hi
        split at h
        · rename_i ti t' hti hdst hd
          cases h
          have hk : G P n F Q todo' (zei o.dst (gD g (.ref id (off + m.toNat * ti.size))) env) st ids := by rw [hdst]; exact hk
          refine zc5 (fr := []) (wr := []) (rd := []) h1 (zep hg fun I μ st1 ids1 a w _ hst hops hcx => ?_) (by rw [hdst] at hd ⊢; exact hd) (fun c hc => by rw [hop] at hc; cases hc) hk
          rw [hop] at hops
          obtain ⟨ho1, ho2⟩ := zbh hob
          obtain ⟨b, e1, e2⟩ := (zd4 hx ho1 hcx (hops x (by simp [Op.operands]))).refInv
          have ri := (zd4 hi ho2 hcx (hops i (by simp [Op.operands]))).immInv.intInv
          obtain ⟨c0, c1⟩ := hc hcx
          simp only at c0 c1
          have hu : P.underlying t = some (.array len e) := htt.sh ht
          simp only [execOp, hop, ri, e1]
          have hrun : (do pure (.value (← Instr.indexAt t (.pointer (some ⟨b, off, none⟩)) (.int kk m))) : Sem Next).run P w = .ok (.value (.pointer (some ⟨b, off + m.toNat * ti.size, none⟩))) w := by
            apply zao
            simp only [Instr.indexAt, Sem.run_bind, asIntOf, Sem.run_pure, Result.andThen_ok, run_underlying hu, Instr.sureAddr]
            simp [c0, c1, (htt e ti hti).sizeOf w, zir]
          rw [hrun]
          exact ⟨I, μ, hst, .ref b id _ e2, Mu.le_refl μ, Ext.refl _ _ _ _⟩
        · cases h
      · cases h
    · cases h
  · cases h
end
end Go.Hk
namespace Go.Hk
def ylx (b : Nat) (t : TypeId) (ds : List D) : Asn where
  P := fun _ I w bs => bs = [b] ∧ ∃ vs, w.heap[b]? = some (.cells vs t (0, 0)) ∧ RepL I noMu vs.toList ds ∧ ∀ v ∈ vs.toList, v.oneCell' = true
  mono := fun h ⟨h1, vs, h2, h3, h4⟩ => ⟨h1, vs, h2, h3.mono h (Mu.le_refl _), h4⟩
  loc := fun h ⟨h1, vs, h2, h3⟩ => ⟨h1, vs, (h b (by simp [h1])).trans h2, h3⟩
mutual
def ypz (id b : Nat) : D → D
  | .ref i off => bif Nat.beq i id then .raw (.pointer (some ⟨b, off, none⟩)) else .ref i off
  | .agg cs => .agg (ypy id b cs)
  | .tup cs => .tup (ypy id b cs)
  | d => d
def ypy (id b : Nat) : List D → List D
  | [] => []
  | d :: r => ypz id b d :: ypy id b r
end
def yq3 (id b : Nat) : Env → Env
  | [] => []
  | (t, d) :: r => (t, ypz id b d) :: yq3 id b r
def refB (id b : Nat) : Blk → Blk
  | .cells t sz cs => .cells t sz (ypy id b cs)
  | x => x
def yil (id b : Nat) : St → St
  | [] => []
  | (i, some x) :: r => (i, some (refB id b x)) :: yil id b r
  | (i, none) :: r => (i, none) :: yil id b r
theorem zli (id b : Nat) : ∀ l : List D, ypy id b l = l.map (ypz id b)
  | [] => rfl
  | d :: r => by simp [ypy, zli id b r]
section
variable {P : Program} {n : Nat} {F : List Nat} {Q : DQ} {tt : TT} {env env' : Env} {st st' : St} {ids ids' : List Nat} {todo : List DI} {I J : Imm} {μ : Mu} {w : World} {a : Act} {d : D}
theorem RepD.refd {id b : Nat} (hm : μ id = some (.pointer (some ⟨b, 0, none⟩))) {v : Value} (h : RepD I μ v d) : RepD I μ v (ypz id b d) := by
  have at_ : ∀ {l : List D} {i : Nat} {x : D}, (ypy id b l)[i]? = some x → ∃ y, l[i]? = some y ∧ x = ypz id b y := by
    intro l i x hx
    rw [zli, List.getElem?_map] at hx
    cases hl : l[i]? with
    | none => rw [hl] at hx; cases hx
    | some y => rw [hl] at hx; cases hx; exact ⟨y, rfl, rfl⟩
  induction h with
  | ref b' i off h =>
    simp only [ypz]
    cases hb : Nat.beq i id with
    | false => exact .ref b' i off h
    | true =>
      rw [Nat.eq_of_beq_eq_true hb, hm] at h
      cases h
      exact .raw _ rfl
  | agg cs ds hl h1 _ ih =>
    refine .agg cs _ (by rw [zli, List.length_map, hl]) h1 fun i c x hc hx => ?_
    obtain ⟨y, hy, rfl⟩ := at_ hx
    exact ih i c y hc hy
  | tup cs ds hl _ ih =>
    refine .tup cs _ (by rw [zli, List.length_map, hl]) fun i c x hc hx => ?_
    obtain ⟨y, hy, rfl⟩ := at_ hx
    exact ih i c y hc hy
  | undef v => exact .undef v
  | imm v x hx => exact .imm v x hx
  | nils => exact .nils
  | own i len a cap hm => exact .own i len a cap hm
  | ip b o t cs off vs hcell hrep => exact .ip b o t cs off vs hcell hrep
  | elp b i len cap k sz f hm => exact .elp b i len cap k sz f hm
  | mapr i b hm => exact .mapr i b hm
  | iter i b hm => exact .iter i b hm
  | fn f first cap df dc hf hc h1 h2 _ _ => exact .fn f first cap df dc hf hc h1 h2
  | iface t v d h _ => exact .iface t v d h
  | guard c want v d h hu _ => exact .guard c want v d h hu
  | clip a len es hr => exact .clip a len es hr
  | slc b i off len cap hm hl hx => exact .slc b i off len cap hm hl hx
  | yld b i hm => exact .yld b i hm
  | raw v h => exact .raw v h
  | hv v i k us cs h hi h1 => exact .hv v i k us cs h hi h1
theorem yio {id b : Nat} : ∀ {env : Env} {t : Nat} {d : D}, lk (yq3 id b env) t = some d → ∃ d0, lk env t = some d0 ∧ d = ypz id b d0
  | [], t, d, h => by simp [yq3, lk] at h
  | (s, x) :: r, t, d, h => by
    simp only [yq3] at h
    by_cases hs : s = t
    · subst hs; rw [zaj] at h ⊢; cases h; exact ⟨x, rfl, rfl⟩
    · rw [zan _ _ hs] at h ⊢; exact yio h
theorem zre {id b i : Nat} {x : Blk} : ∀ {st : St}, zat (yil id b st) i x → ∃ b0, zat st i b0 ∧ x = refB id b b0
  | [], h => by simp [yil, zat, lk] at h
  | (k, some y) :: r, h => by
    simp only [yil] at h
    rcases zai.1 h with ⟨h1, h2⟩ | ⟨h1, h2⟩
    · exact ⟨y, by unfold zat; rw [h1, zaj], h2⟩
    · obtain ⟨b0, q1, q2⟩ := zre h2
      exact ⟨b0, zai.2 (.inr ⟨h1, q1⟩), q2⟩
  | (k, none) :: r, h => by
    simp only [yil] at h
    obtain ⟨h1, h2⟩ := zbf.1 h
    obtain ⟨b0, q1, q2⟩ := zre h2
    exact ⟨b0, zbf.2 ⟨h1, q1⟩, q2⟩
theorem zr7 {id b i : Nat} {x : Blk} : ∀ {st : St}, zat st i x → zat (yil id b st) i (refB id b x)
  | [], h => by simp [zat, lk] at h
  | (k, some y) :: r, h => by
    simp only [yil]
    rcases zai.1 h with ⟨h1, h2⟩ | ⟨h1, h2⟩
    · exact zai.2 (.inl ⟨h1, by rw [h2]⟩)
    · exact zai.2 (.inr ⟨h1, zr7 h2⟩)
  | (k, none) :: r, h => by
    simp only [yil]
    obtain ⟨h1, h2⟩ := zbf.1 h
    exact zbf.2 ⟨h1, zr7 h2⟩
theorem zpf (id j : Nat) {t : TypeId} {sz : Nat} {ds : List D} (hl : lk st id = some (some (.cells t sz ds))) (hnm : nmL ds = [])
    (h : ∀ b, DGo P n F Q todo (yq3 id b env) ((j, some (.hp (ylx b t ds))) :: (id, none) :: yil id b st) ids') : DGo P n F Q todo env st (j :: ids') := by
  refine zed fun I μ a w hc => ?_
  obtain ⟨g, hg, hs, b, us, rfl, hheap, hrep, hone⟩ := hc.blk id _ hl
  obtain ⟨p1, p2⟩ := hc.toStRep.retell (st1 := yil id b st) (fun i x hlb => by
    obtain ⟨b0, q1, rfl⟩ := zre hlb
    refine ⟨b0, q1, fun gb hb => ?_⟩
    cases b0 with
    | cells t sz cs =>
      obtain ⟨hs, b', us, e1, e2, e3, e4⟩ := hb
      exact ⟨by rw [zli, List.length_map, hs], b', us, e1, e2, ⟨by rw [zli, List.length_map, e3.1], fun i v y hv hy => by
        rw [zli, List.getElem?_map] at hy
        cases hc' : cs[i]? with
        | none => rw [hc'] at hy; cases hy
        | some z => rw [hc'] at hy; cases hy; exact (e3.2 i v z hv hc').refd hg⟩, e4⟩
    | _ => exact hb)
  obtain ⟨q1, q2, q3⟩ := StRep.relay (R := [id]) (new := [(j, hpG [] [b], .hp (ylx b t ds))]) (ids' := ids') p1
    (fun p hp b' hb => by
      rw [List.mem_singleton.1 hp] at hb
      have := za7.1 hb
      rw [List.mem_singleton.1 this]
      exact ⟨id, _, _, by simp, zr7 hl, hg, rfl⟩)
    (fun p hp q hq b _ _ => by rw [List.mem_singleton.1 hp, List.mem_singleton.1 hq]) (Imm.le_refl I) hc.imm (fun b o h => .inl h)
    (fun _ p hp => by rw [List.mem_singleton.1 hp]; exact ⟨[], [b], rfl, rfl, us, hheap, hrep.sub (fun j hj => by rw [hnm] at hj; cases hj), hone⟩)
  refine ⟨I, _, yq3 id b env, _, ids', q2, fun t d hd => ?_, p2.trans q3, .of_le q1, h b⟩
  obtain ⟨d0, h0, rfl⟩ := yio hd
  exact ((hc.env t d0 h0).refd hg).mono (Imm.le_refl I) q1
end
end Go.Hk
namespace Go.Hk
def zq9 : V → Bool
  | .bool _ | .int .. | .str _ => true
  | _ => false
def zja : List V → Bool
  | [] => true
  | x :: r => zq9 x && zja r
def zuc : List (List V) → Bool
  | [] => true
  | e :: r => zja e && zuc r
def zym : List (V × V) → Bool
  | [] => true
  | (a, b) :: r => zq9 a && zq9 b && zym r
def ymj : D → Bool
  | .imm x => zq9 x
  | .tup [] => true
  | .own _ _ => true
  | .tup [.imm a, .imm b] => zq9 a && zq9 b
  | _ => false
def ypu : Blk → Prop
  | .map kv => zym kv = true
  | .row _ _ es => zuc es = true
  | .immb _ _ xs => zja xs = true
  | _ => False
def yh1 : St → Prop
  | [] => True
  | (_, some b) :: r => ypu b ∧ yh1 r
  | (_, none) :: r => yh1 r
section
variable {P : Program} {I J : Imm} {μ ν : Mu} {st : St} {w : World}
theorem zhl {v : Value} {x : V} (h : zq9 x = true) (hr : RepV J v x) : RepV I v x := by
  cases hr <;> first | (simp [zq9] at h; done) | constructor <;> assumption
theorem zub : ∀ {xs : List V} {vs : List Value}, zja xs = true → RepVL J vs xs → RepVL I vs xs := by
  intro xs vs h hr
  refine ⟨hr.1, fun i v x h1 h2 => ?_⟩
  have : ∀ {xs : List V} {i : Nat} {x : V}, zja xs = true → xs[i]? = some x → zq9 x = true := by
    intro xs
    induction xs with
    | nil => intro i x _ h; simp at h
    | cons y r ih =>
      intro i x hs h
      simp only [zja, Bool.and_eq_true] at hs
      cases i with
      | zero => simp at h; subst h; exact hs.1
      | succ i => exact ih hs.2 (by simpa using h)
  exact zhl (this h h2) (hr.2 i v x h1 h2)
theorem zq8 : ∀ {es : List (List V)}, zuc es = true → zja es.flatten = true
  | [], _ => rfl
  | e :: r, h => by
    simp only [zuc, Bool.and_eq_true] at h
    have : ∀ {a b : List V}, zja a = true → zja b = true → zja (a ++ b) = true := by
      intro a
      induction a with
      | nil => intro b _ h; exact h
      | cons x r ih =>
        intro b h1 h2
        simp only [zja, Bool.and_eq_true, List.cons_append] at h1 ⊢
        exact ⟨h1.1, ih h1.2 h2⟩
    exact this h.1 (zq8 h.2)
theorem znn : ∀ {kv : List (V × V)} {i : Nat} {p : V × V}, zym kv = true → kv[i]? = some p → zq9 p.1 = true ∧ zq9 p.2 = true
  | [], i, p, _, h => by simp at h
  | (a, b) :: r, i, p, hs, h => by
    simp only [zym, Bool.and_eq_true] at hs
    cases i with
    | zero => simp at h; subst h; exact hs.1
    | succ i => exact znn hs.2 (by simpa using h)
theorem zyo {g : Value} {b : Blk} (h : ypu b) (hr : BlkRep J μ w g b) : BlkRep I ν w g b := by
  cases b with
  | map kv =>
    obtain ⟨b, es, clock, h1, h2, h3, h4, h5⟩ := hr
    exact ⟨b, es, clock, h1, h2, h3, h4, fun i e p a b => ⟨zhl (znn h b).1 (h5 i e p a b).1, zhl (znn h b).2 (h5 i e p a b).2⟩⟩
  | row t sz es =>
    obtain ⟨xs, h1, h2, h3⟩ := hr
    exact ⟨xs, h1, zub (zq8 h) h2, h3⟩
  | immb t sz xs =>
    obtain ⟨hs, b, vs, h1, h2, h3, h4⟩ := hr
    exact ⟨hs, b, vs, h1, h2, zub h h3, h4⟩
  | _ => exact h.elim
theorem zj9 : ∀ {st : St} {i : Nat} {b : Blk}, yh1 st → zat st i b → ypu b
  | [], i, b, _, h => by simp [zat, lk] at h
  | (k, some y) :: r, i, b, hs, h => by
    rcases zai.1 h with ⟨_, rfl⟩ | ⟨_, h⟩
    · exact hs.1
    · exact zj9 hs.2 h
  | (k, none) :: r, i, b, hs, h => zj9 (st := r) hs (zbf.1 h).2
theorem zyn {v : Value} {d : D} (h : ymj d = true) (hr : RepD J μ v d) (hn : ∀ i ∈ nmD d, ∀ g, μ i = some g → ν i = some g) : RepD I ν v d := by
  unfold ymj at h
  split at h
  · exact .imm _ _ (zhl h hr.immInv)
  · cases hr with
    | tup cs _ hl _ => exact .tup cs [] hl fun i c x _ hx => by simp at hx
  · cases hr with
    | own _ _ a cap hm => exact .own _ _ a cap (hn _ (by simp [nmD]) _ hm)
  · rename_i a b
    rw [Bool.and_eq_true] at h
    cases hr with
    | tup cs _ hl hh =>
      refine .tup cs _ hl fun i c x hc hx => ?_
      match i with
      | 0 => simp at hx; subst hx; exact .imm _ _ (zhl h.1 (hh 0 c _ hc rfl).immInv)
      | 1 => simp at hx; subst hx; exact .imm _ _ (zhl h.2 (hh 1 c _ hc rfl).immInv)
      | i + 2 => simp at hx
  · cases h
theorem zs0 {f : FuncId} {das das' : List D} {st0 st1 : St} {d : D} (k : Nat) (A : Asn) (hE : zc8 P f das st0 (.ret d st1)) (hd : ymj d = true) (hs : yh1 st1) (hk0 : k ∉ nms st0) (hk1 : k ∉ nms st1) (hkd : k ∉ nmD d)
    (hview : ∀ vs I J μ w bs, A.P vs I w bs → I.le J → (∀ b ∈ bs, J b = w.heap[b]?) → ∀ xs : List Value, RepL J μ xs das' → RepL J μ xs das) : zc8 P f das' ((k, some (.hp A)) :: st0) (.ret d ((k, some (.hp A)) :: st1)) := by
  intro I μ w xs hst hx
  obtain ⟨g, hg, vs, bs, rfl, hP⟩ := hst.blk k _ (zai.2 (.inl ⟨rfl, rfl⟩))
  have hkl : zat ((k, some (.hp A)) :: st0) k (.hp A) := zai.2 (.inl ⟨rfl, rfl⟩)
  have hbs : ∀ b ∈ bs, I b = none ∧ b < w.heap.size := fun b hb => hst.apart k _ _ b hkl hg (za7.2 hb)
  have hle : I.le (I.plus bs w) := fun b o h => by
    have : zlm bs b = false := by
      cases hm : zlm bs b with
      | false => rfl
      | true => rw [(hbs b (zbx.1 hm)).1] at h; cases h
    simp [Imm.plus, this, h]
  have hJb : ∀ b ∈ bs, I.plus bs w b = w.heap[b]? := fun b hb => by simp [Imm.plus, zbx.2 hb]
  have up : ∀ {i b}, zat st0 i b → zat ((k, some (.hp A)) :: st0) i b := fun {i b} hl => zai.2 (.inr ⟨fun e => hk0 (e ▸ zcb hl), hl⟩)
  have hno : ∀ b ∈ bs, ¬ zcd μ st0 b := fun b hb ⟨i, blk, g, h1, h2, h3⟩ => hk0 (by
    have := hst.inj k i _ _ _ _ b hkl (up h1) hg h2 (za7.2 hb) h3
    rw [this]; exact zcb h1)
  have hst0 : StRep (I.plus bs w) μ st0 [] w :=
    { imm := fun b o h => by
        unfold Imm.plus at h
        split at h
        · exact h
        · exact hst.imm b o h
      blk := fun i b hl => by
        obtain ⟨g, h1, h2⟩ := hst.blk i b (up hl)
        exact ⟨g, h1, h2.mono hle (Mu.le_refl μ)⟩
      apart := fun i b g bb hl hg' hb => by
        obtain ⟨h1, h2⟩ := hst.apart i b g bb (up hl) hg' hb
        refine ⟨?_, h2⟩
        unfold Imm.plus
        split
        · rename_i hm; exact absurd ⟨i, b, g, hl, hg', hb⟩ (hno bb (zbx.1 hm))
        · exact h1
      inj := fun i j bi bj gi gj b hi hj => hst.inj i j bi bj gi gj b (up hi) (up hj)
      nodup := .nil
      idsFree := fun i hi => by cases hi }
  refine (hE (I.plus bs w) μ w xs hst0 (hview vs I _ μ w bs hP hle hJb _ (hx.mono hle (Mu.le_refl μ)))).mono (fun u w' hu => ?_) (fun _ _ h => h)
  obtain ⟨I', μ', r1, r2, r3, r4⟩ := hu
  obtain ⟨ν, hν⟩ : ∃ ν : Mu, ν = fun i => if i = k then some (hpG vs bs) else μ' i := ⟨_, rfl⟩
  have hνk : ν k = some (hpG vs bs) := by rw [hν]; simp
  have hνo : ∀ i, i ≠ k → ν i = μ' i := fun i hi => by rw [hν]; simp [hi]
  have hlive : ∀ {i b}, zat ((k, some (.hp A)) :: st1) i b → (i = k ∧ b = .hp A) ∨ (i ≠ k ∧ zat st1 i b) := fun {i b} hl => by
    rcases zai.1 hl with ⟨rfl, rfl⟩ | h
    · exact .inl ⟨rfl, rfl⟩
    · exact .inr h
  have hheap : ∀ b ∈ bs, w'.heap[b]? = w.heap[b]? := fun b hb => r4.block b (hbs b hb).2 (hno b hb)
  have hno1 : ∀ b ∈ bs, ∀ i blk g, zat st1 i blk → μ' i = some g → ¬ zgy g b := fun b hb i blk g h1 h2 h3 => hno b hb (r4.fresh b (hbs b hb).2 ⟨i, blk, g, h1, h2, h3⟩)
  refine ⟨I, ν, zyn hd r1 (fun i hi g hg' => by rw [hνo i (fun e => hkd (e ▸ hi))]; exact hg'), ?_, ?_, ?_⟩
  · refine { imm := fun b o h => r2.imm b o (r4.imm b o (hle b o h)), blk := fun i b hl => ?_, apart := fun i b g bb hl hg' hb => ?_, inj := fun i j bi bj gi gj b hi hj hgi hgj hbi hbj => ?_, nodup := .nil, idsFree := fun i hi => by cases hi }
    · rcases hlive hl with ⟨rfl, rfl⟩ | ⟨hne, h⟩
      · exact ⟨_, hνk, vs, bs, rfl, A.loc hheap hP⟩
      · obtain ⟨g, q1, q2⟩ := r2.blk i b h
        exact ⟨g, by rw [hνo i hne]; exact q1, zyo (zj9 hs h) q2⟩
    · rcases hlive hl with ⟨rfl, rfl⟩ | ⟨hne, h⟩
      · rw [hνk] at hg'; cases hg'
        have := hbs bb (za7.1 hb)
        exact ⟨this.1, Nat.lt_of_lt_of_le this.2 r4.size⟩
      · rw [hνo i hne] at hg'
        obtain ⟨q1, q2⟩ := r2.apart i b g bb h hg' hb
        refine ⟨?_, q2⟩
        cases hI : I bb with
        | none => rfl
        | some o => rw [r4.imm bb o (hle bb o hI)] at q1; cases q1
    · rcases hlive hi with ⟨rfl, rfl⟩ | ⟨hni, h1⟩
      · rw [hνk] at hgi; cases hgi
        rcases hlive hj with ⟨rfl, rfl⟩ | ⟨hnj, h2⟩
        · rfl
        · rw [hνo j hnj] at hgj
          exact absurd hbj (hno1 b (za7.1 hbi) j bj gj h2 hgj)
      · rw [hνo i hni] at hgi
        rcases hlive hj with ⟨rfl, rfl⟩ | ⟨hnj, h2⟩
        · rw [hνk] at hgj; cases hgj
          exact absurd hbi (hno1 b (za7.1 hbj) i bi gi h1 hgi)
        · rw [hνo j hnj] at hgj
          exact r2.inj i j bi bj gi gj b h1 h2 hgi hgj hbi hbj
  · intro i hi v hv
    by_cases e : i = k
    · subst e; rw [hg] at hv; cases hv; exact hνk
    · rw [hνo i e]
      refine r3 i ?_ v hv
      simp only [nms, List.map_cons, List.mem_cons] at hi
      exact hi.resolve_left e
  · refine { imm := Imm.le_refl I, os := r4.os, tape := r4.tape, output := r4.output, size := r4.size, block := fun b hb ho => r4.block b hb fun h => ho ?_, fresh := fun b hb ⟨i, blk, g, h1, h2, h3⟩ => ?_, old := fun _ _ _ => rfl }
    · obtain ⟨i, blk, g, h1, h2, h3⟩ := h
      exact ⟨i, blk, g, up h1, h2, h3⟩
    · rcases hlive h1 with ⟨rfl, rfl⟩ | ⟨hne, h⟩
      · rw [hνk] at h2; cases h2
        exact ⟨_, _, _, hkl, hg, h3⟩
      · rw [hνo i hne] at h2
        obtain ⟨j, bj, gj, q1, q2, q3⟩ := r4.fresh b hb ⟨i, blk, g, h, h2, h3⟩
        exact ⟨j, bj, gj, up q1, q2, q3⟩
end
end Go.Hk
namespace Go.Hk
section
variable {P : Program} {n : Nat} {F : List Nat} {Q : DQ} {todo : List DI} {env : Env} {st : St} {ids' : List Nat}
theorem zek (t j : Nat) {e : TypeId} {sz : Nat} (hsz : 0 < sz) (ht : lk env t = some .nils) (h : DGo P n F Q todo ((t, .own j 0) :: env) ((j, some (.row e sz [])) :: st) ids') : DGo P n F Q todo env st (j :: ids') := by
  refine zed fun I μ a w hc => ?_
  have hv : a.tmps.getD t undef = .slice none 0 0 := by
    have := hc.env t _ ht
    generalize a.tmps.getD t undef = v at this
    cases this with
    | nils => rfl
  obtain ⟨q1, q2, q3⟩ := StRep.relay (R := []) (new := [(j, .slice none 0 0, .row e sz [])]) (ids' := ids') hc.toStRep
    (fun p hp b hb => by rw [List.mem_singleton.1 hp] at hb; exact hb.elim)
    (fun p hp q hq b _ _ => by rw [List.mem_singleton.1 hp, List.mem_singleton.1 hq]) (Imm.le_refl I) hc.imm (fun b o h => .inl h)
    (fun _ p hp => by
      rw [List.mem_singleton.1 hp]
      exact ⟨[], World.ownsRow_nil w _ e sz, ⟨rfl, fun i v x h _ => by simp at h⟩, fun _ h => by simp at h, fun _ h => by simp at h, hsz⟩)
  refine ⟨I, _, _, _, ids', q2, fun t' d hd => ?_, q3, .of_le q1, h⟩
  by_cases e : t = t'
  · subst e
    rw [zaj] at hd; cases hd
    rw [hv]
    exact .own j 0 none 0 (by simp [zha, lk])
  · rw [zan _ _ e] at hd; exact (hc.env t' d hd).mono (Imm.le_refl I) q1
end
end Go.Hk
namespace Go.Hk
open Go.Proofs
theorem zz4 {P : Program} {n : Nat} {F : List Nat} {Q : DQ} {todo : List DI} {env : Env} {st : St} {ids' : List Nat} (i j t : Nat) {len : Nat} {e : TypeId} {sz : Nat} {es : List (List V)} (hl : lk st i = some (some (.row e sz es))) (ht : lk env t = some (.own i len))
    (h : DGo P n F Q todo ((t, .own j len) :: env) ((j, some (.row e sz es)) :: (i, none) :: st) ids') : DGo P n F Q todo env st (j :: ids') := by
  refine zed fun I μ a w hc => ?_
  obtain ⟨g, hg, hr⟩ := hc.blk i _ hl
  obtain ⟨q1, q2, q3⟩ := StRep.relay (R := [i]) (new := [(j, g, .row e sz es)]) (ids' := ids') hc.toStRep
    (fun p hp b hb => by rw [List.mem_singleton.1 hp] at hb; exact ⟨i, _, g, by simp, hl, hg, hb⟩)
    (fun p hp q hq b _ _ => by rw [List.mem_singleton.1 hp, List.mem_singleton.1 hq]) (Imm.le_refl I) hc.imm (fun b o h => .inl h)
    (fun hle p hp => by rw [List.mem_singleton.1 hp]; exact hr.mono (Imm.le_refl I) hle)
  refine ⟨I, _, _, _, ids', q2, fun t' d hd => ?_, q3, .of_le q1, h⟩
  by_cases ee : t = t'
  · subst ee
    rw [zaj] at hd; cases hd
    have hv := hc.env t _ ht
    generalize a.tmps.getD t undef = v at hv
    cases hv with
    | own _ _ ad cap hm =>
      rw [hg] at hm; cases hm
      exact .own j len ad cap (by simp [zha, lk])
  · rw [zan _ _ ee] at hd; exact (hc.env t' d hd).mono (Imm.le_refl I) q1
set_option maxRecDepth 100000 in
theorem yp1 (l : List Str) (s : Str) (hlen : l.length ≤ 1000000) : zc8 Tryz.prog 73 [.own 1 (za5 l).length, .imm (.str s)] [(1, some (.row 9 1 (za5 l)))] (.ret (.own 2 (za5 (zp5 l s)).length) [(2, some (.row 9 1 (za5 (zp5 l s))))]) := by
  refine zaf za6 Tryz.func73 (by decide +kernel) rfl [2, 3, 4, 5] rfl rfl ?_
  refine fg_ [] rfl (by simp) ?_
  refine zah (fun i : Nat => [(5, .imm (.int .i64 i)), (0, .own 1 (za5 l).length), (1, .imm (.str s))]) (fun _ => [(1, some (.row 9 1 (za5 l)))]) [2, 3, 4, 5] (fun i => l.length - i) (fun i => i ≤ l.length ∧ ∀ x ∈ l.take i, Op.bytesLess x s = true) 0
    ⟨Nat.zero_le _, fun x hx => by simp at hx⟩ ⟨rfl, rfl, rfl, trivial⟩ ⟨rfl, trivial⟩ rfl fun i hi ih => ?_
  obtain ⟨hi1, hi2⟩ := hi
  have out : (∀ x, l[i]? = some x → Op.bytesLess x s = false) → DGo Tryz.prog Tryz.f73.ntmps (nms [(1, some (.row 9 1 (za5 l)))]) (yar ttF Tryz.f73.results.toList (.ret (.own 2 (za5 (zp5 l s)).length) [(2, some (.row 9 1 (za5 (zp5 l s))))]))
      [.code (zg0 Tryz.f73 3)] [(5, .imm (.int .i64 i)), (0, .own 1 (za5 l).length), (1, .imm (.str s))] [(1, some (.row 9 1 (za5 l)))] [2, 3, 4, 5] := fun h2 => by
    rw [yba s l i hi1 hi2 h2]
    have one : ∀ c ∈ za5 l, c.length = 1 := zm7 l
    refine fd_ [] rfl (by simp) ?_
    have add : ¬ l[i]? = some s → DGo Tryz.prog Tryz.f73.ntmps (nms [(1, some (.row 9 1 (za5 l)))]) (yar ttF Tryz.f73.results.toList (.ret (.own 2 (za5 (l.take i ++ [s] ++ l.drop i)).length) [(2, some (.row 9 1 (za5 (l.take i ++ [s] ++ l.drop i))))]))
        [.code (zg0 Tryz.f73 4)] [(5, .imm (.int .i64 i)), (0, .imm (.sl (za5 l))), (1, .imm (.str s))] [] [2, 3, 4, 5] := fun hne => by
      refine fd_ [] rfl ⟨fun _ => ⟨by omega, by simp; omega⟩, one, trivial⟩ ?_
      refine zby za6 rfl ⟨fun c hc => one c (List.mem_of_mem_take hc), by simp [maxLen]; omega, by simp; omega, trivial⟩ ?_
      have ht : (za5 l).take ((i : Int)).toNat = za5 (l.take i) := by rw [zs7]; rfl
      have hd : (za5 l).drop ((i : Int)).toNat = za5 (l.drop i) := by simp [za5, List.map_drop]
      refine fg_ [] rfl (by simp) ?_
      refine zby za6 rfl ⟨by simp, by simp [maxLen]; omega, by simp; omega, trivial⟩ ?_
      refine fg_ [] rfl ⟨fun _ => ⟨by omega, by simp; omega⟩, one, trivial⟩ ?_
      refine zby za6 rfl ⟨fun c hc => one c (List.mem_of_mem_drop hc), by simp [maxLen]; omega, by simp; omega, trivial⟩ ?_
      refine fg_ [] rfl ⟨rfl, trivial⟩ ?_
      refine zbt 2 4 rfl ?_
      have e : za5 (l.take i ++ [s] ++ l.drop i) = (za5 l).take ((i : Int)).toNat ++ [[.str s]] ++ (za5 l).drop ((i : Int)).toNat := by rw [zd2, zd2, ← ht, ← hd]; rfl
      rw [e]
      exact zab ⟨_, rfl, rfl, rfl, trivial⟩
    by_cases hlt : i < l.length
    · obtain ⟨x, hx⟩ := zal hlt
      refine zda za6 rfl (fun _ => ⟨by simp, by simpa using hlt⟩) (by simp [zag]) ?_
      refine fg_ [] rfl (by simp [zag]) ?_
      refine zhe za6 (e := [.str x]) rfl (fun _ => by simpa using zcx hx) rfl (by simp [zag]) ?_
      refine fg_ [] rfl (by simp [zag]) ?_
      refine zaa rfl (fun h => ?_) (fun h => ?_)
      · have hl : x = s := by simpa [hlt] using h
        subst hl
        rw [if_pos hx]
        refine fd_ [] rfl (by simp) ?_
        refine zz4 1 2 4 rfl rfl ?_
        exact zab ⟨_, rfl, rfl, rfl, trivial⟩
      · have hl : ¬ x = s := by simpa [hlt] using h
        have hne : ¬ l[i]? = some s := fun e => by rw [hx] at e; cases e; exact hl rfl
        rw [if_neg hne]
        refine zdr ?_
        refine zb4 1 rfl ?_
        exact zae (add hne) ⟨rfl, rfl, rfl, trivial⟩ trivial rfl
    · have hne : ¬ l[i]? = some s := fun e => by rw [List.getElem?_eq_none (by omega)] at e; cases e
      rw [if_neg hne]
      refine zda za6 rfl (fun h => by simp [zag] at h; omega) (by simp [zag]) ?_
      refine fg_ [] rfl (by simp [zag]) ?_
      refine zhe za6 (e := [.str []]) rfl (fun h => by simp [zag] at h; omega) rfl (by simp [zag]) ?_
      refine fg_ [] rfl (by simp [zag]) ?_
      refine zaa rfl (fun h => by simp [hlt] at h) (fun h => ?_)
      refine zdr ?_
      refine zb4 1 rfl ?_
      exact zae (add hne) ⟨rfl, rfl, rfl, trivial⟩ trivial rfl
  refine fd_ [] rfl (by simp) ?_
  by_cases hlt : i < l.length
  · obtain ⟨x, hx⟩ := zal hlt
    refine zda za6 rfl (fun _ => ⟨by simp, by simpa using hlt⟩) (by simp [zag]) ?_
    refine fg_ [] rfl (by simp [zag]) ?_
    refine zhe za6 (e := [.str x]) rfl (fun _ => by simpa using zcx hx) rfl (by simp [zag]) ?_
    refine fg_ [] rfl (by simp [zag]) ?_
    refine zaa rfl (fun h => ?_) (fun h => ?_)
    · have hl : Op.bytesLess x s = true := by simpa [hlt] using h
      refine fd_ [] rfl (by simp) ?_
      refine zae (ih (i + 1) (by omega) ⟨by omega, fun y hy => ?_⟩) ⟨zcn (w64 (by omega) (by omega)), rfl, rfl, trivial⟩ ⟨rfl, trivial⟩ rfl
      rw [zbk hx] at hy
      rcases List.mem_append.1 hy with hy | hy
      · exact hi2 y hy
      · simp at hy; subst hy; exact hl
    · have hl : Op.bytesLess x s = false := by simpa [hlt] using h
      refine zar rfl ?_
      exact zae (out fun y hy => by rw [hx] at hy; cases hy; exact hl) ⟨rfl, rfl, rfl, trivial⟩ ⟨rfl, trivial⟩ rfl
  · refine zda za6 rfl (fun h => by simp [zag] at h; omega) (by simp [zag]) ?_
    refine fg_ [] rfl (by simp [zag]) ?_
    refine zhe za6 (e := [.str []]) rfl (fun h => by simp [zag] at h; omega) rfl (by simp [zag]) ?_
    refine fg_ [] rfl (by simp [zag]) ?_
    refine zaa rfl (fun h => by simp [hlt] at h) (fun h => ?_)
    refine zar rfl ?_
    exact zae (out fun y hy => by rw [List.getElem?_eq_none (by omega)] at hy; cases hy) ⟨rfl, rfl, rfl, trivial⟩ ⟨rfl, trivial⟩ rfl
def opT : Tm → Int
  | .mk op _ _ _ _ => op
set_option maxRecDepth 100000 in
theorem yiw : ∀ (t : Tm), znt t → zcp t ≤ 1000000 → opT t ≠ 4 → zc8 Tryz.prog 41 [.imm (.agg (dTmc t))] [] (.ret (.own 2 (za5 (zcc t)).length) [(2, some (.row 9 1 (za5 (zcc t))))])
  | .mk op n x ks ps, hok, hc, e => by
    obtain ⟨hk1, hk2, hk3⟩ := hok
    refine zaf za6 Tryz.func41 (by decide +kernel) rfl [1, 2, 3, 4] rfl rfl ?_
    refine fg_ [] rfl (by simp) ?_
    refine zaa rfl (fun h => absurd (by simpa [opT] using h) e) (fun h => ?_)
    have e2 : zcc (.mk op n x ks ps) = zdd (.mk op n x ks ps) 0 ks [] := by
      have e : ¬ op = 4 := e
      simp [zcc, e]
    rw [e2]
    refine fd_ [] rfl (by simp) ?_
    refine zek (e := 9) (sz := 1) 3 2 (by decide) rfl ?_
    refine zah (fun y : Nat × List Str => [(4, .imm (.int .i64 y.1)), (3, .own 2 (za5 y.2).length), (1, .ref 1 0)]) (fun y => [(2, some (.row 9 1 (za5 y.2))), (1, some (.immb 26 5 (dTmc (.mk op n x ks ps))))]) [3, 4] (fun y => ks.length - y.1)
      (fun y => y.1 ≤ ks.length ∧ zdd (.mk op n x ks ps) 0 ks [] = zdd (.mk op n x ks ps) y.1 (ks.drop y.1) y.2 ∧ y.2.length + zco (ks.drop y.1) ≤ 1000000) (0, [])
      ⟨Nat.zero_le _, rfl, by simp only [zcp] at hc; simp; omega⟩ ⟨rfl, rfl, rfl, trivial⟩ ⟨rfl, rfl, trivial⟩ rfl fun y hi ih => ?_
    obtain ⟨i, out⟩ := y
    obtain ⟨hi1, hi2, hi3⟩ := hi
    simp only at hi1 hi2 hi3
    refine fd_ [] rfl (by simp) ?_
    refine zaa rfl (fun h => ?_) (fun h => ?_)
    · simp at h
      obtain ⟨k, hk⟩ := zal h
      rw [zap hk] at hi2 hi3
      simp only [zco] at hi3
      have hkc := zrc k
      refine fd_ [] rfl (by simp) ?_
      refine fi_ rfl (c := dTmc k) (fun _ => ⟨by simp, by simpa using zbu hk, by simp⟩) (by simp) ?_
      refine fg_ [] rfl (by simp) ?_
      refine zac rfl (fun _ => zwl k (zji hk3 (List.mem_of_getElem? hk)) (by omega)) (by simp) ?_
      refine fg_ [] rfl (by simp) ?_
      refine zac rfl (fun _ => zqo op n x ks ps i (by omega) (hk2 i h)) (by simp) ?_
      refine fg_ [] rfl (by simp; rfl) ?_
      have hbnd : out.length + (zcc k).length ≤ 1000000 := by omega
      refine zah (fun z : Nat × List Str => [(7, .imm (.int .i64 z.1)), (6, .imm (.sl (za5 (zcl (.mk op n x ks ps) i)))), (5, .imm (.sl (za5 (zcc k)))), (3, .own 2 (za5 z.2).length), (4, .imm (.int .i64 i)), (1, .ref 1 0)])
        (fun z => [(2, some (.row 9 1 (za5 z.2))), (1, some (.immb 26 5 (dTmc (.mk op n x ks ps))))]) [3, 4] (fun z => (zcc k).length - z.1)
        (fun z => z.1 ≤ (zcc k).length ∧ ze5 (zcl (.mk op n x ks ps) i) (zcc k) out = ze5 (zcl (.mk op n x ks ps) i) ((zcc k).drop z.1) z.2 ∧ z.2.length ≤ out.length + z.1) (0, out)
        ⟨Nat.zero_le _, rfl, by simp⟩ ⟨rfl, rfl, rfl, rfl, rfl, rfl, trivial⟩ ⟨rfl, rfl, trivial⟩ rfl fun z hz ihz => ?_
      obtain ⟨j, o⟩ := z
      obtain ⟨hj1, hj2, hj3⟩ := hz
      simp only at hj1 hj2 hj3
      refine fd_ [] rfl (by simp) ?_
      refine zaa rfl (fun h4 => ?_) (fun h4 => ?_)
      · simp at h4
        obtain ⟨s, hs⟩ := zal h4
        rw [zap hs] at hj2
        simp only [ze5] at hj2
        refine fd_ [] rfl (by simp) ?_
        refine fi_ rfl (c := [.str s]) (fun _ => ⟨by simp, by simpa using zcx hs, rfl⟩) (by simp) ?_
        refine fg_ [] rfl (by simp) ?_
        refine zac rfl (fun _ => zv1 (zcl (.mk op n x ks ps) i) s) (by simp) ?_
        refine fg_ [] rfl (by simp) ?_
        refine zaa rfl (fun h5 => ?_) (fun h5 => ?_)
        · have hh : zck (zcl (.mk op n x ks ps) i) s = false := by simpa using h5
          rw [hh] at hj2
          refine fd_ [] rfl (by simp) ?_
          refine fi_ rfl (c := [.str s]) (fun _ => ⟨by simp, by simpa using zcx hs, rfl⟩) (by simp) ?_
          refine fg_ [] rfl (by simp) ?_
          refine zas (fr := [3]) [(2, 1)] [(2, 3)] rfl (by simp) (yp1 o s (by omega)) ⟨⟨rfl, rfl, rfl⟩, trivial⟩ rfl rfl rfl rfl ?_
          refine fg_ [] rfl (by simp) ?_
          refine zbt 2 3 rfl ?_
          have := zp4 o s
          exact zae (ihz (j + 1, zp5 o s) (by simp only; omega) ⟨by simp only; omega, hj2, by simp only; omega⟩) ⟨zcn (w64 (by simp only; omega) (by simp only; omega)), rfl, rfl, rfl, rfl, rfl, trivial⟩ ⟨rfl, rfl, trivial⟩ rfl
        · have hh : zck (zcl (.mk op n x ks ps) i) s = true := by simpa using h5
          rw [hh] at hj2
          refine fd_ [] rfl (by simp) ?_
          exact zae (ihz (j + 1, o) (by simp only; omega) ⟨by simp only; omega, hj2, by simp only; omega⟩) ⟨zcn (w64 (by simp only; omega) (by simp only; omega)), rfl, rfl, rfl, rfl, rfl, trivial⟩ ⟨rfl, rfl, trivial⟩ rfl
      · simp at h4
        rw [List.drop_eq_nil_of_le (by omega)] at hj2
        have hj2 : ze5 (zcl (.mk op n x ks ps) i) (zcc k) out = o := hj2
        refine zar rfl ?_
        refine fd_ [] rfl (by simp) ?_
        exact zae (ih (i + 1, o) (by simp only; omega) ⟨by simp only; omega, by simp only; rw [hi2]; simp only [zdd]; rw [hj2], by simp only; omega⟩) ⟨zcn (w64 (by omega) (by omega)), rfl, rfl, trivial⟩ ⟨rfl, rfl, trivial⟩ rfl
    · simp at h
      rw [List.drop_eq_nil_of_le (by omega)] at hi2
      refine zar rfl ?_
      refine fd_ [] rfl (by simp) ?_
      have hi2 : zdd (.mk op n x ks ps) 0 ks [] = out := hi2
      rw [hi2]
      exact zab ⟨_, rfl, rfl, rfl, trivial⟩
def zxt (l : Str) : Value := .string ⟨l.toArray⟩
inductive An where
  | mk (s : Bool) (o n : Int) (x : Str) (v : Value) (ks : List An) (u : Value) (ps : List An)
  | im (s : Bool) (cs : List Value) (c : List V)
def tyA : Bool → TypeId
  | true => 26
  | false => 58
def szA : Bool → Nat
  | true => 5
  | false => 4
def zc1 : An → Bool
  | .mk s _ _ _ _ _ _ _ => s
  | .im s _ _ => s
def ye4 : An → List Value
  | .mk s _ _ _ v _ u _ => match s with
    | true => [v, u]
    | false => [v]
  | .im _ _ _ => []
def cA : An → List Value
  | .mk s o n x v _ u _ => match s with
    | true => [.int .i64 o, .int .i64 n, zxt x, v, u]
    | false => [.int .i64 o, .int .i64 n, zxt x, v]
  | .im _ cs _ => cs
mutual
def vA : An → List V
  | .mk s o n x _ ks _ ps => match s with
    | true => [.int .i64 o, .int .i64 n, .str x, .sl (vAs ks), .sl (vAs ps)]
    | false => [.int .i64 o, .int .i64 n, .str x, .sl (vAs ks)]
  | .im _ _ c => c
def vAs : List An → List (List V)
  | [] => []
  | a :: r => vA a :: vAs r
end
theorem zg1 : ∀ l : List An, vAs l = l.map vA
  | [] => rfl
  | a :: r => by simp [vAs, zg1 r]
@[simp] theorem vAs_length (l : List An) : (vAs l).length = l.length := by rw [zg1]; simp
mutual
def zju : An → Prop
  | .mk _ _ _ _ _ ks _ ps => zc6 ks ∧ zc6 ps
  | .im _ _ _ => False
def zc6 : List An → Prop
  | [] => True
  | a :: r => zju a ∧ zc6 r
end
theorem zf2 : ∀ {a b : List An}, zc6 a → zc6 b → zc6 (a ++ b)
  | [], _, _, h => h
  | x :: r, b, h, k => ⟨h.1, zf2 h.2 k⟩
theorem zn7 : ∀ {l : List An} {i : Nat} {a : An}, zc6 l → l[i]? = some a → zju a
  | [], i, a, _, h => by simp at h
  | x :: r, 0, a, hf, h => by simp at h; subst h; exact hf.1
  | x :: r, i + 1, a, hf, h => zn7 hf.2 (by simpa using h)
theorem zni (a b : List An) : vAs (a ++ b) = vAs a ++ vAs b := by simp [zg1]
def zcm : Value → Nat
  | .slice (some a) _ _ => a.block
  | _ => 0
def zdt (v : Value) : Nat → List Nat
  | 0 => []
  | _ + 1 => [zcm v]
def yml (w : World) (ty : TypeId) (sz : Nat) (v : Value) (len : Nat) : Prop :=
  (len = 0 ∧ (∃ a c, v = .slice a 0 c) ∧ ∀ I, RepV I v (.sl [])) ∨
  (0 < len ∧ ∃ b cap cur, v = .slice (some ⟨b, 0, none⟩) len cap ∧ w.heap[b]? = some (.cells cur ty (0, 0)) ∧ len ≤ cap ∧ cap ≤ maxLen ∧ cur.size = cap * sz)
def atW (w : World) (b off : Nat) (cs : List Value) : Prop := ∃ cur ty k, w.heap[b]? = some (.cells cur ty k) ∧ ∀ (j : Nat) (c : Value), cs[j]? = some c → cur[off + j]? = some c
mutual
def anW (I : Imm) (w : World) : An → Prop
  | .mk s _ _ _ v ks u ps => (yml w (tyA s) (szA s) v ks.length ∧ zfv I w s (zcm v) 0 ks) ∧ (s = true → yml w (tyA false) (szA false) u ps.length ∧ zfv I w false (zcm u) 0 ps)
  | .im s cs c => RepVL I cs c ∧ (∀ y ∈ cs, y.oneCell' = true) ∧ c.length = szA s
def zfv (I : Imm) (w : World) (s : Bool) (b : Nat) : Nat → List An → Prop
  | _, [] => True
  | i, a :: r => (zc1 a = s ∧ atW w b (i * szA s) (cA a) ∧ anW I w a) ∧ zfv I w s b (i + 1) r
end
mutual
def anB : An → List Nat
  | .mk s _ _ _ v ks u ps => (zdt v ks.length ++ zd9 ks) ++ match s with
    | true => zdt u ps.length ++ zd9 ps
    | false => []
  | .im _ _ _ => []
def zd9 : List An → List Nat
  | [] => []
  | a :: r => anB a ++ zd9 r
end
theorem zlv (a b : List An) : zd9 (a ++ b) = zd9 a ++ zd9 b := by
  induction a with
  | nil => rfl
  | cons x r ih => simp [zd9, ih]
theorem zdl {I : Imm} {w : World} {s : Bool} {b : Nat} : ∀ {gs : List An} {i j : Nat} {a : An}, zfv I w s b i gs → gs[j]? = some a → zc1 a = s ∧ atW w b ((i + j) * szA s) (cA a) ∧ anW I w a
  | [], i, j, a, _, h => by simp at h
  | x :: r, i, 0, a, hw, h => by
    simp at h; subst h
    simp only [zfv] at hw
    exact hw.1
  | x :: r, i, j + 1, a, hw, h => by
    simp only [zfv] at hw
    have := zdl hw.2 (j := j) (by simpa using h)
    rwa [show i + 1 + j = i + (j + 1) by omega] at this
theorem ziq {I : Imm} {w : World} {s : Bool} {b : Nat} : ∀ {gs bs : List An} {i : Nat}, zfv I w s b i (gs ++ bs) ↔ zfv I w s b i gs ∧ zfv I w s b (i + gs.length) bs
  | [], bs, i => by simp [zfv]
  | x :: r, bs, i => by
    simp only [List.cons_append, zfv, List.length_cons]
    rw [ziq, show i + 1 + r.length = i + (r.length + 1) by omega, ← and_assoc]
theorem zme {w w' : World} {ty : TypeId} {sz : Nat} {v : Value} {len : Nat} (h : ∀ k ∈ zdt v len, w'.heap[k]? = w.heap[k]?) (hr : yml w ty sz v len) : yml w' ty sz v len := by
  rcases hr with hr | ⟨h0, b, cap, cur, rfl, h1, h2⟩
  · exact .inl hr
  · refine .inr ⟨h0, b, cap, cur, rfl, (h b ?_).trans h1, h2⟩
    cases len with
    | zero => omega
    | succ n => simp [zdt, zcm]
theorem ztj {w w' : World} {b off : Nat} {cs : List Value} (h : w'.heap[b]? = w.heap[b]?) (ha : atW w b off cs) : atW w' b off cs := by
  obtain ⟨cur, ty, k, h1, h2⟩ := ha
  exact ⟨cur, ty, k, h.trans h1, h2⟩
mutual
theorem zj5 {I : Imm} {w w' : World} : ∀ {a : An}, (∀ k ∈ anB a, w'.heap[k]? = w.heap[k]?) → anW I w a → anW I w' a
  | .im s cs c, _, ha => ha
  | .mk s o n x v ks u ps, h, ha => by
    simp only [anW] at ha ⊢
    simp only [anB, List.mem_append] at h
    obtain ⟨⟨h1, h2⟩, h3⟩ := ha
    refine ⟨⟨zme (fun k hk => h k (.inl (.inl hk))) h1, ?_⟩, fun hs => ?_⟩
    · exact zf4 (fun hne => h (zcm v) (.inl (.inl (by cases ks with | nil => exact absurd rfl hne | cons => simp [zdt])))) (fun k hk => h k (.inl (.inr hk))) h2
    · subst hs
      obtain ⟨h4, h5⟩ := h3 rfl
      simp only [List.mem_append] at h
      exact ⟨zme (fun k hk => h k (.inr (.inl hk))) h4, zf4 (fun hne => h (zcm u) (.inr (.inl (by cases ps with | nil => exact absurd rfl hne | cons => simp [zdt])))) (fun k hk => h k (.inr (.inr hk))) h5⟩
theorem zf4 {I : Imm} {w w' : World} {s : Bool} {b : Nat} : ∀ {gs : List An} {i : Nat}, (gs ≠ [] → w'.heap[b]? = w.heap[b]?) → (∀ k ∈ zd9 gs, w'.heap[k]? = w.heap[k]?) → zfv I w s b i gs → zfv I w' s b i gs
  | [], _, _, _, _ => by simp [zfv]
  | a :: r, i, hb, h, ha => by
    simp only [zfv] at ha ⊢
    simp only [zd9, List.mem_append] at h
    exact ⟨⟨ha.1.1, ztj (hb (by simp)) ha.1.2.1, zj5 (fun k hk => h k (.inl hk)) ha.1.2.2⟩, zf4 (fun _ => hb (by simp)) (fun k hk => h k (.inr hk)) ha.2⟩
end
mutual
theorem zxi {I J : Imm} {w : World} (h : I.le J) : ∀ {a : An}, anW I w a → anW J w a
  | .mk s o n x v ks u ps, ha => by
    simp only [anW] at ha ⊢
    exact ⟨⟨ha.1.1, zj4 h ha.1.2⟩, fun hs => ⟨(ha.2 hs).1, zj4 h (ha.2 hs).2⟩⟩
  | .im s cs c, ha => ⟨ha.1.mono h, ha.2⟩
theorem zj4 {I J : Imm} {w : World} (h : I.le J) {s : Bool} {b : Nat} : ∀ {gs : List An} {i : Nat}, zfv I w s b i gs → zfv J w s b i gs
  | [], _, _ => by simp [zfv]
  | a :: r, i, ha => by
    simp only [zfv] at ha ⊢
    exact ⟨⟨ha.1.1, ha.1.2.1, zxi h ha.1.2.2⟩, zj4 h ha.2⟩
end
theorem zx0 {I : Imm} {w : World} {a : An} (h : anW I w a) : (vA a).length = szA (zc1 a) := by
  cases a with
  | mk s o n x v ks u ps => cases s <;> simp [vA, zc1, szA]
  | im s cs c => exact h.2.2
theorem zte {I : Imm} {w : World} {a : An} (h : anW I w a) : (cA a).length = szA (zc1 a) := by
  cases a with
  | mk s o n x v ks u ps => cases s <;> simp [cA, zc1, szA]
  | im s cs c => exact h.1.1.trans h.2.2
theorem zka {w : World} {ty : TypeId} {sz : Nat} {v : Value} {len : Nat} (h : yml w ty sz v len) : v.oneCell' = true := by
  rcases h with ⟨_, ⟨a, c, rfl⟩, _⟩ | ⟨_, b, cap, cur, rfl, _⟩ <;> rfl
theorem yac {I : Imm} {w : World} {a : An} (h : anW I w a) : ∀ c ∈ cA a, c.oneCell' = true := by
  cases a with
  | im s cs c => exact h.2.1
  | mk s o n x v ks u ps =>
  simp only [anW] at h
  have h1 := zka h.1.1
  intro c hc
  cases s with
  | true =>
    have h2 := zka (h.2 rfl).1
    simp only [cA, List.mem_cons, List.not_mem_nil, or_false] at hc
    rcases hc with rfl | rfl | rfl | rfl | rfl <;> first | rfl | assumption
  | false =>
    simp only [cA, List.mem_cons, List.not_mem_nil, or_false] at hc
    rcases hc with rfl | rfl | rfl | rfl <;> first | rfl | assumption
theorem RepV.encStr (I : Imm) (l : List UInt8) : RepV I (zxt l) (.str l) := .str _ _ (by simp)
theorem yh6 {w : World} {I J : Imm} {s : Bool} {v : Value} {gs : List An} (hr : yml w (tyA s) (szA s) v gs.length) (hw : zfv I w s (zcm v) 0 gs) (hJ : ∀ k ∈ zdt v gs.length, J k = w.heap[k]?)
    (ih : ∀ a ∈ gs, RepVL J (cA a) (vA a)) : RepV J v (.sl (vAs gs)) := by
  rcases hr with ⟨h0, _, h1⟩ | ⟨h0, b, cap, cur, rfl, h1, h2, h3, h4⟩
  · have : gs = [] := List.eq_nil_of_length_eq_zero h0
    subst this
    exact h1 J
  · have hJb : J b = some (.cells cur (tyA s) (0, 0)) := by
      rw [hJ b (by cases gs with | nil => simp at h0 | cons => simp [zdt, zcm]), h1]
    have hb : zcm (.slice (some ⟨b, 0, none⟩) gs.length cap) = b := rfl
    rw [hb] at hw
    have hget : ∀ (i : Nat) (e : List V) (j : Nat) (x : V), (vAs gs)[i]? = some e → e[j]? = some x → ∃ a c, gs[i]? = some a ∧ (cA a)[j]? = some c ∧ cur[i * szA s + j]? = some c ∧ c.oneCell' = true ∧ RepV J c x := by
      intro i e j x hi hj
      rw [zg1, List.getElem?_map] at hi
      cases ha : gs[i]? with
      | none => rw [ha] at hi; cases hi
      | some a =>
        rw [ha] at hi; cases hi
        obtain ⟨g1, g2, g3⟩ := zdl hw ha
        have hrep := ih a (List.mem_of_getElem? ha)
        have hlt : j < (cA a).length := by rw [hrep.1]; exact (List.getElem?_eq_some_iff.1 hj).1
        have hc := List.getElem?_eq_getElem hlt
        obtain ⟨cur', ty, k, q1, q2⟩ := g2
        rw [h1] at q1; cases q1
        refine ⟨a, _, rfl, hc, ?_, yac g3 _ (List.mem_of_getElem? hc), hrep.2 j _ x hc hj⟩
        have := q2 j _ hc
        rwa [Nat.zero_add] at this
    refine .sl b 0 gs.length cap (szA s) (vAs gs) (fun i j => (cur[i * szA s + j]?).getD undef) (by simp) h2 h3 (fun e he => ?_) (fun i e j x hi hj => ?_) (fun i e j x hi hj => ?_)
    · rw [zg1] at he
      obtain ⟨a, ha, rfl⟩ := List.mem_map.1 he
      obtain ⟨i, hi⟩ := List.getElem?_of_mem ha
      rw [zx0 (zdl hw hi).2.2, (zdl hw hi).1]
    · obtain ⟨a, c, k1, k2, k3, k4, k5⟩ := hget i e j x hi hj
      simp [Imm.cell, hJb, k3, k4]
    · obtain ⟨a, c, k1, k2, k3, k4, k5⟩ := hget i e j x hi hj
      simpa [k3] using k5
mutual
theorem zvw {w : World} {I J : Imm} (hIJ : I.le J) : ∀ {a : An}, anW I w a → (∀ k ∈ anB a, J k = w.heap[k]?) → RepVL J (cA a) (vA a)
  | .im s cs c, h, _ => h.1.mono hIJ
  | .mk s o n x v ks u ps, h, hJ => by
    simp only [anW] at h
    simp only [anB, List.mem_append] at hJ
    have hv : RepV J v (.sl (vAs ks)) := yh6 h.1.1 h.1.2 (fun k hk => hJ k (.inl (.inl hk))) (yck hIJ h.1.2 fun k hk => hJ k (.inl (.inr hk)))
    cases s with
    | true =>
      simp only [List.mem_append] at hJ
      obtain ⟨h4, h5⟩ := h.2 rfl
      have hu : RepV J u (.sl (vAs ps)) := yh6 h4 h5 (fun k hk => hJ k (.inr (.inl hk))) (yck hIJ h5 fun k hk => hJ k (.inr (.inr hk)))
      refine ⟨rfl, fun i c y h1 h2 => ?_⟩
      simp only [cA, vA] at h1 h2
      match i with
      | 0 => cases h1; cases h2; exact .int _ _
      | 1 => cases h1; cases h2; exact .int _ _
      | 2 => cases h1; cases h2; exact .encStr _ _
      | 3 => cases h1; cases h2; exact hv
      | 4 => cases h1; cases h2; exact hu
      | i + 5 => simp at h1
    | false =>
      refine ⟨rfl, fun i c y h1 h2 => ?_⟩
      simp only [cA, vA] at h1 h2
      match i with
      | 0 => cases h1; cases h2; exact .int _ _
      | 1 => cases h1; cases h2; exact .int _ _
      | 2 => cases h1; cases h2; exact .encStr _ _
      | 3 => cases h1; cases h2; exact hv
      | i + 4 => simp at h1
theorem yck {w : World} {I J : Imm} (hIJ : I.le J) {s : Bool} {b : Nat} : ∀ {gs : List An} {i : Nat}, zfv I w s b i gs → (∀ k ∈ zd9 gs, J k = w.heap[k]?) → ∀ a ∈ gs, RepVL J (cA a) (vA a)
  | [], _, _, _ => fun a h => by cases h
  | x :: r, i, hw, hJ => by
    simp only [zfv] at hw
    simp only [zd9, List.mem_append] at hJ
    have h1 := zvw hIJ hw.1.2.2 fun k hk => hJ k (.inl hk)
    have h2 := yck hIJ hw.2 (fun k hk => hJ k (.inr hk))
    intro a h
    rcases List.mem_cons.1 h with rfl | h
    · exact h1
    · exact h2 a h
end
theorem zi9 {w : World} {b off : Nat} {cur : Array Value} {ty : TypeId} {k : Nat × Nat} {cs : List Value} (h : w.heap[b]? = some (.cells cur ty k)) :
    (w.setRow b (cur.toList.take off ++ cs ++ cur.toList.drop (off + cs.length)).toArray).heap[b]? = some (.cells (cur.toList.take off ++ cs ++ cur.toList.drop (off + cs.length)).toArray ty k) := setRow_heap w b cur _ ty k h
theorem zga {cur : List Value} {off : Nat} {cs : List Value} (hf : off + cs.length ≤ cur.length) (i : Nat) :
    (cur.take off ++ cs ++ cur.drop (off + cs.length))[i]? = if i < off then cur[i]? else if i < off + cs.length then cs[i - off]? else cur[i]? := by
  rw [List.append_assoc, List.getElem?_append, List.length_take, Nat.min_eq_left (by omega)]
  by_cases h : i < off
  · rw [if_pos h, if_pos h, List.getElem?_take, if_pos h]
  · rw [if_neg h, if_neg h, List.getElem?_append]
    by_cases h2 : i < off + cs.length
    · rw [if_pos h2, if_pos (by omega)]
    · rw [if_neg h2, if_neg (by omega), List.getElem?_drop]
      congr 1; omega
theorem yll {w : World} {b off : Nat} {cur : Array Value} {ty : TypeId} {k : Nat × Nat} {cs : List Value} (h : w.heap[b]? = some (.cells cur ty k)) (hf : off + cs.length ≤ cur.size) :
    atW (w.setRow b (cur.toList.take off ++ cs ++ cur.toList.drop (off + cs.length)).toArray) b off cs := by
  refine ⟨_, ty, k, zi9 h, fun j c hj => ?_⟩
  have hlt := (List.getElem?_eq_some_iff.1 hj).1
  have := zga (cur := cur.toList) (off := off) (cs := cs) (by simpa using hf) (off + j)
  rw [if_neg (by omega), if_pos (by omega), Nat.add_sub_cancel_left, hj] at this
  simpa using this
theorem yem {w : World} {b off off1 : Nat} {cur : Array Value} {ty : TypeId} {k : Nat × Nat} {cs cs1 : List Value} (h : w.heap[b]? = some (.cells cur ty k)) (hf : off + cs.length ≤ cur.size) (ha : atW w b off1 cs1) (hd : off1 + cs1.length ≤ off ∨ off + cs.length ≤ off1) :
    atW (w.setRow b (cur.toList.take off ++ cs ++ cur.toList.drop (off + cs.length)).toArray) b off1 cs1 := by
  obtain ⟨cur', ty', k', h1, h2⟩ := ha
  rw [h] at h1; cases h1
  refine ⟨_, ty, k, zi9 h, fun j c hj => ?_⟩
  have hlt := (List.getElem?_eq_some_iff.1 hj).1
  have h3 := h2 j c hj
  have := zga (cur := cur.toList) (off := off) (cs := cs) (by simpa using hf) (off1 + j)
  rcases hd with hd | hd
  · rw [if_pos (by omega)] at this; simpa [h3] using this
  · rw [if_neg (by omega), if_neg (by omega)] at this; simpa [h3] using this
def yaq (a : An) : Asn where
  P := fun _ I w bs => bs = anB a ∧ bs.Nodup ∧ anW I w a
  mono := fun h ⟨h1, h2, h3⟩ => ⟨h1, h2, zxi h h3⟩
  loc := fun h ⟨h1, h2, h3⟩ => ⟨h1, h2, zj5 (fun k hk => h k (by rw [h1]; exact hk)) h3⟩
def zxp (s : Bool) (c : List V) : Asn where
  P := fun vs I w bs => ∃ o n x v ks u ps, (vA (.mk s o n x v ks u ps) = c ∧ zju (.mk s o n x v ks u ps)) ∧ vs = ye4 (.mk s o n x v ks u ps) ∧ (yaq (.mk s o n x v ks u ps)).P [] I w bs
  mono := fun h ⟨o, n, x, v, ks, u, ps, h2, h3, h4⟩ => ⟨o, n, x, v, ks, u, ps, h2, h3, (yaq _).mono h h4⟩
  loc := fun h ⟨o, n, x, v, ks, u, ps, h2, h3, h4⟩ => ⟨o, n, x, v, ks, u, ps, h2, h3, (yaq _).loc h h4⟩
def zol (s : Bool) (v : Value) (gs : List An) (rest : List (List V)) : Asn where
  P := fun _ I w bs => yml w (tyA s) (szA s) v (gs.length + rest.length) ∧ zfv I w s (zcm v) 0 gs ∧
    (∀ (j : Nat) (e : List V), rest[j]? = some e → ∃ cs : List Value, atW w (zcm v) ((gs.length + j) * szA s) cs ∧ RepVL I cs e ∧ (∀ c ∈ cs, c.oneCell' = true) ∧ e.length = szA s) ∧
    bs = zdt v (gs.length + rest.length) ++ zd9 gs ∧ bs.Nodup
  mono := fun h ⟨h1, h2, h3, h4⟩ => ⟨h1, zj4 h h2, fun j e hj => let ⟨cs, a, b, c⟩ := h3 j e hj; ⟨cs, a, b.mono h, c⟩, h4⟩
  loc := fun {vs I w w' bs} h ⟨h1, h2, h3, h4, h5⟩ => by
    have hb : gs.length + rest.length ≠ 0 → w'.heap[zcm v]? = w.heap[zcm v]? := fun hne => h _ (by
      rw [h4]
      cases hl : gs.length + rest.length with
      | zero => exact absurd hl hne
      | succ n => simp [zdt])
    refine ⟨zme (fun k hk => h k (by rw [h4]; simp [hk])) h1, zf4 (fun hne => hb (by cases gs with | nil => exact absurd rfl hne | cons => simp)) (fun k hk => h k (by rw [h4]; simp [hk])) h2, fun j e hj => ?_, h4, h5⟩
    obtain ⟨cs, a, b⟩ := h3 j e hj
    exact ⟨cs, ztj (hb (by have := (List.getElem?_eq_some_iff.1 hj).1; omega)) a, b⟩
def MixE (s : Bool) (v : Value) (gs : List An) (e : List V) (rest : List (List V)) : Asn where
  P := fun _ I w bs => ∃ a, (vA a = e ∧ zju a) ∧ (zol s v (gs ++ [a]) rest).P [] I w bs
  mono := fun h ⟨a, h1, h2⟩ => ⟨a, h1, (zol s v (gs ++ [a]) rest).mono h h2⟩
  loc := fun h ⟨a, h1, h2⟩ => ⟨a, h1, (zol s v (gs ++ [a]) rest).loc h h2⟩
def zj6 (s : Bool) (es : List (List V)) : Asn where
  P := fun vs I w bs => ∃ v, vs = [v] ∧ (zol s v [] es).P [] I w bs
  mono := fun h ⟨v, h1, h2⟩ => ⟨v, h1, (zol s v [] es).mono h h2⟩
  loc := fun h ⟨v, h1, h2⟩ => ⟨v, h1, (zol s v [] es).loc h h2⟩
theorem zna {I : Imm} {w : World} {vs : List Value} {bs : List Nat} (s : Bool) (h : (ImmA (.sl [])).P vs I w bs) : (zj6 s []).P vs I w bs := by
  obtain ⟨rfl, v, rfl, h1, h2⟩ := h
  refine ⟨v, rfl, .inl ⟨rfl, ?_, ?_⟩, by simp [zfv], fun j e hj => by simp at hj, by simp [zdt, zd9], .nil⟩
  · obtain ⟨ad, len, cap, rfl, _, rfl⟩ := zwa h1
    exact ⟨_, _, rfl⟩
  · intro J
    cases h1 with
    | slnil => exact .slnil
    | sl0 a => exact .sl0 a
    | sl b o len cap sz es vs hl hc hm _ _ _ => exact .sl b o len cap sz [] vs hl hc hm (fun e he => by cases he) (fun i e j x hi => by simp at hi) (fun i e j x hi => by simp at hi)
theorem zz9 {I : Imm} {w : World} {vs : List Value} {bs : List Nat} {s : Bool} {es : List (List V)} (hne : es ≠ []) (h : (RowH (tyA s) (szA s) es).P vs I w bs) : (zj6 s es).P vs I w bs := by
  obtain ⟨v, rfl, ⟨_, h0, _⟩ | ⟨b, cap, cur, rfl, rfl, h1, h2, h3, h4, h5, h6, h7, h8⟩⟩ := h
  · exact absurd h0 hne
  have hpos : 0 < es.length := by cases es with | nil => exact absurd rfl hne | cons => simp
  refine ⟨_, rfl, .inr ⟨by simpa using hpos, b, cap, cur, by simp, h1, by simpa using h2, h3, h4⟩, by simp [zfv], fun j e hj => ?_, ?_, by simp⟩
  · have he := h6 e (List.mem_of_getElem? hj)
    have hlt := (List.getElem?_eq_some_iff.1 hj).1
    have hfit : (j + 1) * szA s ≤ es.length * szA s := Nat.mul_le_mul_right _ hlt
    rw [Nat.succ_mul] at hfit
    have hcapz : es.length * szA s ≤ cap * szA s := Nat.mul_le_mul_right _ h2
    have hget : ∀ i, i < szA s → ∃ c x, cur.toList[j * szA s + i]? = some c ∧ e[i]? = some x ∧ RepV I c x ∧ c.oneCell' = true := by
      intro i hi
      obtain ⟨x, hx⟩ : ∃ x, e[i]? = some x := ⟨_, List.getElem?_eq_getElem (by omega)⟩
      have hf := zd0 h6 j e i x hj hx
      obtain ⟨c, hc⟩ : ∃ c, cur.toList[j * szA s + i]? = some c := ⟨_, List.getElem?_eq_getElem (by simp; omega)⟩
      have hr := h5.2 (j * szA s + i) c x (by rw [List.getElem?_take, if_pos (by omega)]; exact hc) hf
      exact ⟨c, x, hc, hx, hr, hr.one (h7 e (List.mem_of_getElem? hj) x (List.mem_of_getElem? hx))⟩
    refine ⟨(cur.toList.drop (j * szA s)).take (szA s), ⟨cur, _, _, h1, fun i c hc => ?_⟩, ⟨?_, fun i c x hc hx => ?_⟩, fun c hc => ?_, he⟩
    · rw [List.getElem?_take] at hc
      split at hc
      · rw [List.getElem?_drop] at hc
        simpa using hc
      · cases hc
    · rw [List.length_take, List.length_drop, he]; simp; omega
    · rw [List.getElem?_take] at hc
      split at hc
      · rename_i hi
        rw [List.getElem?_drop] at hc
        obtain ⟨c', x', k1, k2, k3, _⟩ := hget i hi
        rw [k1] at hc; cases hc
        rw [k2] at hx; cases hx
        exact k3
      · cases hc
    · obtain ⟨i, hi⟩ := List.getElem?_of_mem hc
      rw [List.getElem?_take] at hi
      split at hi
      · rename_i hl
        rw [List.getElem?_drop] at hi
        obtain ⟨c', x', k1, _, _, k4⟩ := hget i hl
        rw [k1] at hi; cases hi
        exact k4
      · cases hi
  · cases es with
    | nil => exact absurd rfl hne
    | cons => simp [zdt, zcm, zd9]
theorem zwp {I : Imm} {w : World} {vs : List Value} {bs : List Nat} {s : Bool} {v : Value} {gs : List An} {rest : List (List V)} (h : (zol s v gs rest).P vs I w bs) : ∃ a cap, v = .slice a (gs.length + rest.length) cap ∧ (0 < gs.length + rest.length → ∃ b, a = some ⟨b, 0, none⟩) := by
  rcases h.1 with ⟨h0, ⟨a, c, rfl⟩, _⟩ | ⟨h0, b, cap, cur, rfl, _⟩
  · exact ⟨a, c, by rw [h0], fun h => by omega⟩
  · exact ⟨_, cap, rfl, fun _ => ⟨b, rfl⟩⟩
theorem zwo {I : Imm} {w : World} {vs : List Value} {bs : List Nat} {s : Bool} {v : Value} {gs : List An} {e : List V} {rest : List (List V)} (h : (zol s v gs (e :: rest)).P vs I w bs) : zdh I w (zcm v) (gs.length * szA s) (e.map .imm) := by
  obtain ⟨cs, ⟨cur, ty, k, h1, h2⟩, h3, h4, h5⟩ := h.2.2.1 0 e rfl
  rw [Nat.add_zero] at h2
  refine ⟨cur, ty, k, h1, fun j d hd => ?_⟩
  rw [List.getElem?_map] at hd
  cases hx : e[j]? with
  | none => rw [hx] at hd; cases hd
  | some x =>
    rw [hx] at hd; cases hd
    have hlt : j < cs.length := by rw [h3.1]; exact (List.getElem?_eq_some_iff.1 hx).1
    have hc := List.getElem?_eq_getElem hlt
    exact ⟨_, h2 j _ hc, h4 _ (List.mem_of_getElem? hc), .imm _ _ (h3.2 j _ x hc hx)⟩
def dsA (j : Nat) : Bool → List V → List D
  | true, [o, n, x, _, _] => [.imm o, .imm n, .imm x, .hv j 0, .hv j 1]
  | false, [o, n, x, _] => [.imm o, .imm n, .imm x, .hv j 0]
  | _, _ => []
theorem RepV.strEq {I : Imm} {v : Value} {l : List UInt8} (h : RepV I v (.str l)) : v = zxt l := by
  cases h with
  | str s _ hs =>
    subst hs
    obtain ⟨⟨l⟩⟩ := s
    rfl
theorem yn7 {I : Imm} {s : Bool} {o n : Int} {x : Str} {v : Value} {ks : List An} {u : Value} {ps : List An} {j : Nat} {cs : List Value} (hl : cs.length = (dsA j s (vA (.mk s o n x v ks u ps))).length) (h : ∀ (i : Nat) (c : Value) (d : D), cs[i]? = some c → (dsA j s (vA (.mk s o n x v ks u ps)))[i]? = some d → yq7 I j (ye4 (.mk s o n x v ks u ps)) c d) : cs = cA (.mk s o n x v ks u ps) := by
  have imm : ∀ {c : Value} {y : V}, yq7 I j (ye4 (.mk s o n x v ks u ps)) c (.imm y) → RepV I c y := fun h => by
    have h : RepD I noMu _ (.imm _) := h
    exact h.immInv
  cases s with
  | true =>
    simp only [zc1, vA, dsA, List.length_cons, List.length_nil] at hl h
    match cs, hl with
    | [c0, c1, c2, c3, c4], _ =>
      have e0 := (imm (h 0 _ _ rfl rfl)).intInv
      have e1 := (imm (h 1 _ _ rfl rfl)).intInv
      have e2 := (imm (h 2 _ _ rfl rfl)).strEq
      have e3 := h 3 _ _ rfl rfl
      have e4 := h 4 _ _ rfl rfl
      simp only [yq7, ye4, true_and] at e3 e4
      simp at e3 e4
      rw [e0, e1, e2, ← e3, ← e4]; rfl
  | false =>
    simp only [zc1, vA, dsA, List.length_cons, List.length_nil] at hl h
    match cs, hl with
    | [c0, c1, c2, c3], _ =>
      have e0 := (imm (h 0 _ _ rfl rfl)).intInv
      have e1 := (imm (h 1 _ _ rfl rfl)).intInv
      have e2 := (imm (h 2 _ _ rfl rfl)).strEq
      have e3 := h 3 _ _ rfl rfl
      simp only [yq7, ye4, true_and] at e3
      simp at e3
      rw [e0, e1, e2, ← e3]; rfl
theorem ygp {s : Bool} {o n : Int} {x : Str} {v : Value} {ks : List An} {u : Value} {ps : List An} {j : Nat} : (dsA j s (vA (.mk s o n x v ks u ps))).length = szA s := by
  cases s <;> simp [vA, dsA, szA]
theorem zr1 {s : Bool} {v : Value} {gs : List An} {e : List V} {rest : List (List V)} {j : Nat} : zis (zol s v gs (e :: rest)) (zxp s e) (MixE s v gs e rest) j (zcm v) (gs.length * szA s) (dsA j s e) := by
  intro us vs I w b1 b2 ⟨h1, h2, h3, h4, h5⟩ ⟨o, n, x, v', ks, u, ps, ⟨k2, kf⟩, k3, k4, k5, k6⟩ hdis
  obtain ⟨a, ha⟩ : ∃ a, a = An.mk s o n x v' ks u ps := ⟨_, rfl⟩
  have k1 : zc1 a = s := by rw [ha]; rfl
  have hdl0 : (dsA j (zc1 a) (vA a)).length = szA (zc1 a) := by rw [ha]; exact ygp
  have hco : ∀ {cs : List Value}, cs.length = (dsA j (zc1 a) (vA a)).length → (∀ (i : Nat) (c : Value) (d : D), cs[i]? = some c → (dsA j (zc1 a) (vA a))[i]? = some d → yq7 I j (ye4 a) c d) → cs = cA a := by rw [ha]; exact yn7
  rw [← ha] at k2 k3 k4 k6 kf
  clear ha
  subst k1; subst k2; subst k3
  rcases h1 with ⟨h0, _⟩ | ⟨h0, b, cap, cur, rfl, hheap, hcap, hcm, hcs⟩
  · simp at h0
  simp only [zcm] at h2 h3 ⊢
  have hbs : b ∈ b1 := by
    rw [h4]
    have : gs.length + (vA a :: rest).length = (gs.length + rest.length) + 1 := by simp; omega
    rw [this]; simp [zdt, zcm]
  have hfit : gs.length * szA (zc1 a) + szA (zc1 a) ≤ cur.size := by
    rw [hcs, ← Nat.succ_mul]
    exact Nat.mul_le_mul_right _ (by simp at hcap; omega)
  refine ⟨hbs, cur, _, hheap, by rw [hdl0]; exact hfit, fun cs hl hcs' hone => ?_⟩
  have hcA := hco hl hcs'
  have hcl : cs.length = szA (zc1 a) := by rw [hcA, zte k6]
  have hdl : (dsA j (zc1 a) (vA a)).length = cs.length := by rw [hdl0, hcl]
  rw [hdl]
  have hf : gs.length * szA (zc1 a) + cs.length ≤ cur.size := by rw [hcl]; exact hfit
  have hlen : (gs ++ [a]).length + rest.length = gs.length + (vA a :: rest).length := by simp; omega
  have hnb : ∀ k ∈ zd9 gs, k ≠ b := fun k hk e => by
    subst e
    rw [h4] at h5
    have hd := (List.nodup_append.1 h5).2.2 k (by
      have : gs.length + (vA a :: rest).length = (gs.length + rest.length) + 1 := by simp; omega
      rw [this]; simp [zdt, zcm]) k hk
    exact hd rfl
  have hnb2 : ∀ k ∈ anB a, k ≠ b := fun k hk e => by
    subst e
    exact hdis k hbs (by rw [k4]; exact hk)
  refine ⟨zdt (.slice (some ⟨b, 0, none⟩) (gs.length + (vA a :: rest).length) cap) ((gs ++ [a]).length + rest.length) ++ zd9 (gs ++ [a]), fun k hk => ?_, a, ⟨rfl, kf⟩, ?_, ?_, ?_, rfl, ?_⟩
  · rw [hlen, zlv, ← List.append_assoc, ← h4, List.mem_append] at hk
    rcases hk with hk | hk
    · exact .inl hk
    · right; rw [k4]; simpa [zd9] using hk
  · rw [hlen]
    refine .inr ⟨h0, b, cap, _, rfl, zi9 hheap, hcap, hcm, ?_⟩
    rw [← hcs]
    have hl2 : cur.toList.length = cur.size := Array.length_toList
    generalize gs.length * szA (zc1 a) = off at hf
    show (cur.toList.take off ++ cs ++ cur.toList.drop (off + cs.length)).length = cur.size
    rw [List.length_append, List.length_append, List.length_take, List.length_drop]
    omega
  · rw [ziq]
    constructor
    · -- the others
      have : ∀ {gs' : List An} {i : Nat}, (∀ k ∈ zd9 gs', k ≠ b) → i + gs'.length ≤ gs.length → zfv I w (zc1 a) b i gs' → zfv I (w.setRow b (cur.toList.take (gs.length * szA (zc1 a)) ++ cs ++ cur.toList.drop (gs.length * szA (zc1 a) + cs.length)).toArray) (zc1 a) b i gs' := by
        intro gs'
        induction gs' with
        | nil => intro i _ _ _; simp [zfv]
        | cons y r ih =>
          intro i hk hi hw
          simp only [zfv] at hw ⊢
          simp only [zd9, List.mem_append] at hk
          simp only [List.length_cons] at hi
          refine ⟨⟨hw.1.1, yem hheap hf hw.1.2.1 (.inl ?_), zj5 (fun k hk' => setRow_other w b k _ (hk k (.inl hk'))) hw.1.2.2⟩, ih (fun k hk' => hk k (.inr hk')) (by omega) hw.2⟩
          rw [zte hw.1.2.2, hw.1.1, ← Nat.succ_mul]
          exact Nat.mul_le_mul_right _ (by omega)
      exact this hnb (by omega) h2
    · simp only [zfv, and_true, Nat.zero_add]
      refine ⟨trivial, ?_, zj5 (fun k hk => setRow_other w b k _ (hnb2 k hk)) k6⟩
      rw [← hcA]
      exact yll hheap hf
  · intro i e' he'
    obtain ⟨cs', q1, q2, q3, q4⟩ := h3 (i + 1) e' (by simpa using he')
    refine ⟨cs', ?_, q2, q3, q4⟩
    have e1 : (gs ++ [a]).length + i = gs.length + (i + 1) := by simp; omega
    rw [e1]
    refine yem hheap hf q1 (.inr ?_)
    rw [hcl, ← Nat.succ_mul]
    exact Nat.mul_le_mul_right _ (by omega)
  · rw [hlen, zlv, ← List.append_assoc, ← h4]
    refine List.nodup_append.2 ⟨h5, by simpa [zd9, ← k4] using k5, fun k hk k' hk' e => ?_⟩
    subst e
    exact hdis k hk (by rw [k4]; simpa [zd9] using hk')
theorem yp7 {I : Imm} {w : World} {vs : List Value} {bs : List Nat} {v : Value} {gs : List An} {o n : Int} {x : Str} (h : (zol false v gs []).P vs I w bs) : (yaq (.mk false o n x v gs (.bool true) [])).P [] I w bs := by
  obtain ⟨h1, h2, _, h4, h5⟩ := h
  exact ⟨by rw [h4]; simp [anB], h5, ⟨h1, h2⟩, fun h => by cases h⟩
theorem yna {I : Imm} {w : World} {vs us : List Value} {b1 b2 : List Nat} {v u : Value} {ks ps : List An} {o n : Int} {x : Str} (h : (zol true v ks []).P vs I w b1) (k : (zol false u ps []).P us I w b2) (hd : ∀ b ∈ b1, b ∉ b2) :
    (yaq (.mk true o n x v ks u ps)).P [] I w (b1 ++ b2) := by
  obtain ⟨h1, h2, _, h4, h5⟩ := h
  obtain ⟨k1, k2, _, k4, k5⟩ := k
  refine ⟨by rw [h4, k4]; simp [anB], List.nodup_append.2 ⟨h5, k5, fun a ha b hb e => hd a ha (e ▸ hb)⟩, ⟨h1, h2⟩, fun _ => ⟨k1, k2⟩⟩
set_option maxRecDepth 100000 in
theorem zto (es : List (List V)) (hs : ∀ c ∈ es, c.length = 4) (hlen : es.length ≤ 1000000) :
    zc8 Tryz.prog 90 [.imm (.sl es)] [] (.ret (.hv 1 0) [(1, some (.hp (zj6 false es)))]) := by
  cases es with
  | nil =>
    refine zaf za6 Tryz.func90 (by decide +kernel) rfl [1] rfl rfl ?_
    refine fg_ [] rfl (by simp) ?_
    refine zhr za6 rfl fun b hb => ?_
    cases b with
    | true =>
      refine fd_ [.a] rfl (by simp) ?_
      refine zij (x := .sl []) 2 1 rfl rfl rfl ?_
      refine zel 1 (fun _ : Unit => zj6 false []) rfl (fun vs I w bs h => ⟨(), zna false h⟩) fun _ => ?_
      exact zab ⟨_, rfl, rfl, rfl, trivial⟩
    | false =>
      refine fd_ [.a] rfl (by simp) ?_
      refine zsj za6 rfl ?_
      refine fg_ [] rfl (by simp) ?_
      refine zij (x := .sl []) 2 1 rfl rfl rfl ?_
      refine zel 1 (fun _ : Unit => zj6 false []) rfl (fun vs I w bs h => ⟨(), zna false h⟩) fun _ => ?_
      exact zab ⟨_, rfl, rfl, rfl, trivial⟩
  | cons e r =>
    refine zaf za6 Tryz.func90 (by decide +kernel) rfl [2, 1] rfl rfl ?_
    refine fg_ [] rfl (by simp) ?_
    refine zhr za6 rfl fun b hb => ?_
    have hb : b = false := hb (by simp)
    subst hb
    refine fd_ [.a] rfl (by simp) ?_
    refine zby za6 rfl ⟨hs, by simp only [maxLen, List.length_nil] at *; omega, by simp only [List.length_nil] at *; omega, fun c hc => by simp at hc, by simp⟩ ?_
    refine fg_ [] rfl (by simp) ?_
    refine zs2 2 2 1 rfl rfl ?_
    refine zel 1 (fun _ : Unit => zj6 false (e :: r)) rfl (fun vs I w bs h => ⟨(), zz9 (s := false) (by simp) h⟩) fun _ => ?_
    exact zab ⟨_, rfl, rfl, rfl, trivial⟩
set_option maxRecDepth 100000 in
theorem yal (es : List (List V)) (hs : ∀ c ∈ es, c.length = 5) (hlen : es.length ≤ 1000000) :
    zc8 Tryz.prog 89 [.imm (.sl es)] [] (.ret (.hv 1 0) [(1, some (.hp (zj6 true es)))]) := by
  cases es with
  | nil =>
    refine zaf za6 Tryz.func89 (by decide +kernel) rfl [1] rfl rfl ?_
    refine fg_ [] rfl (by simp) ?_
    refine zhr za6 rfl fun b hb => ?_
    cases b with
    | true =>
      refine fd_ [.a] rfl (by simp) ?_
      refine zij (x := .sl []) 2 1 rfl rfl rfl ?_
      refine zel 1 (fun _ : Unit => zj6 true []) rfl (fun vs I w bs h => ⟨(), zna true h⟩) fun _ => ?_
      exact zab ⟨_, rfl, rfl, rfl, trivial⟩
    | false =>
      refine fd_ [.a] rfl (by simp) ?_
      refine zsj za6 rfl ?_
      refine fg_ [] rfl (by simp) ?_
      refine zij (x := .sl []) 2 1 rfl rfl rfl ?_
      refine zel 1 (fun _ : Unit => zj6 true []) rfl (fun vs I w bs h => ⟨(), zna true h⟩) fun _ => ?_
      exact zab ⟨_, rfl, rfl, rfl, trivial⟩
  | cons e r =>
    refine zaf za6 Tryz.func89 (by decide +kernel) rfl [2, 1] rfl rfl ?_
    refine fg_ [] rfl (by simp) ?_
    refine zhr za6 rfl fun b hb => ?_
    have hb : b = false := hb (by simp)
    subst hb
    refine fd_ [.a] rfl (by simp) ?_
    refine zby za6 rfl ⟨hs, by simp only [maxLen, List.length_nil] at *; omega, by simp only [List.length_nil] at *; omega, fun c hc => by simp at hc, by simp⟩ ?_
    refine fg_ [] rfl (by simp) ?_
    refine zs2 2 2 1 rfl rfl ?_
    refine zel 1 (fun _ : Unit => zj6 true (e :: r)) rfl (fun vs I w bs h => ⟨(), zz9 (s := true) (by simp) h⟩) fun _ => ?_
    exact zab ⟨_, rfl, rfl, rfl, trivial⟩
theorem zof {vs : List Value} {I : Imm} {w : World} {bs : List Nat} {s : Bool} {es : List (List V)} (h : (zj6 s es).P vs I w bs) : ∃ x : Option Addr × Nat, vs = [.slice x.1 es.length x.2] ∧ (zol s (.slice x.1 es.length x.2) [] es).P [] I w bs := by
  obtain ⟨v, rfl, h⟩ := h
  obtain ⟨a, cap, rfl, _⟩ := zwp h
  rw [List.length_nil, Nat.zero_add] at h ⊢
  exact ⟨(a, cap), rfl, h⟩
mutual
def zl2 : Ty → Prop
  | .mk _ _ _ ps => ps.length ≤ 1000000 ∧ zt2 ps
def zt2 : List Ty → Prop
  | [] => True
  | p :: r => zl2 p ∧ zt2 r
end
theorem zf7 : ∀ {l : List Ty} {t : Ty}, zt2 l → t ∈ l → zl2 t
  | [], _, _, h => by simp at h
  | p :: r, t, h, hm => by
    rcases List.mem_cons.1 hm with rfl | hm
    · exact h.1
    · exact zf7 h.2 hm
set_option maxRecDepth 100000 in
theorem zvn : ∀ t : Ty, zl2 t → zc8 Tryz.prog 91 [.imm (.agg (zb0 t))] [] (.ret (.agg (dsA 1 false (zb0 t))) [(1, some (.hp (zxp false (zb0 t))))])
  | .mk f n x ps, hw => by
    obtain ⟨hw1, hw2⟩ := hw
    refine zaf za6 Tryz.func91 (by decide +kernel) rfl [2, 3, 4, 5, 1, 6, 7] rfl rfl ?_
    refine fg_ [] rfl (by simp) ?_
    refine zas (fr := [4]) [] [(1, 4)] rfl (by simp) (zto (zb8 ps) (fun c hc => by rw [zhg] at hc; obtain ⟨p, _, rfl⟩ := List.mem_map.1 hc; simp) (by simpa using hw1)) trivial rfl rfl rfl rfl ?_
    refine fg_ [] rfl (by simp <;> rfl) ?_
    refine zg8 (ids' := [1, 6, 7]) 4 5 (fun x : Option Addr × Nat => [.slice x.1 (zb8 ps).length x.2]) (fun x => zol false (.slice x.1 (zb8 ps).length x.2) [] (zb8 ps)) rfl (fun vs I w bs h => zof h) fun y => ?_
    obtain ⟨ad, cap⟩ := y
    refine fd_ [] rfl (by simp) ?_
    refine zah (fun y : Nat × List An => [(12, .imm (.int .i64 y.1)), (11, .imm (.int .i64 (zb8 ps).length)), (10, .raw (.slice ad (zb8 ps).length cap)), (1, .ref 2 0), (2, .ref 3 0)])
      (fun y => [(2, some (.cells 58 4 [.imm (.int .i64 f), .imm (.int .i64 n), .imm (.str x), .raw (.slice ad (zb8 ps).length cap)])), (3, some (.cells 58 4 [.imm (.int .i64 0), .imm (.int .i64 0), .imm (.str []), .nils])),
        (5, some (.hp (zol false (.slice ad (zb8 ps).length cap) y.2 (zb8 (ps.drop y.1)))))]) [1, 6, 7] (fun y => ps.length - y.1) (fun y => y.1 ≤ ps.length ∧ y.2.length = y.1 ∧ vAs y.2 = zb8 (ps.take y.1) ∧ zc6 y.2) (0, [])
      ⟨Nat.zero_le _, rfl, rfl, trivial⟩ ⟨rfl, rfl, rfl, rfl, rfl, trivial⟩ ⟨rfl, rfl, rfl, trivial⟩ rfl fun y hi ih => ?_
    obtain ⟨i, gs⟩ := y
    obtain ⟨hi1, hi2, hi3, hi4⟩ := hi
    simp only at hi1 hi2 hi3 hi4
    subst hi2
    refine fd_ [] rfl (by simp) ?_
    refine zaa rfl (fun h => ?_) (fun h => ?_)
    · simp at h
      obtain ⟨k, hk⟩ := zal h
      have hlt : gs.length < (zb8 ps).length := by simpa using h
      rw [zap hk]
      refine zel 5 (fun _ : { b : Nat // ad = some ⟨b, 0, none⟩ } => zol false (.slice ad (zb8 ps).length cap) gs (zb8 (k :: ps.drop (gs.length + 1)))) rfl (fun vs I w bs h => ?_) fun z => ?_
      · obtain ⟨a, cap', e1, e2⟩ := zwp h
        simp only [Value.slice.injEq] at e1
        obtain ⟨b, hb⟩ := e2 (by simp only [zb8, List.length_cons]; omega)
        exact ⟨⟨b, by rw [e1.1, hb]⟩, h⟩
      obtain ⟨b, rfl⟩ := z
      obtain ⟨kf, kn, kx, kp⟩ := k
      refine fd_ [] rfl (by simp) ?_
      refine zdq za6 rfl rfl (fun _ => ⟨by simp, by simpa using h⟩) (by simp) ?_
      refine fg_ [] rfl (by simp) ?_
      refine zbw za6 5 ((zb0 (.mk kf kn kx kp)).map .imm) rfl rfl (fun _ vs I w bs h => by have := zwo h; simpa [szA, zcm] using this) rfl rfl (by simp) ?_
      refine fg_ [] rfl (by simp) ?_
      refine zas (fr := [6]) [] [(1, 6)] rfl (by simp) (zvn (.mk kf kn kx kp) (zf7 hw2 (List.mem_of_getElem? hk))) trivial rfl rfl rfl rfl ?_
      refine fg_ [] rfl (by simp) ?_
      refine zdq za6 rfl rfl (fun _ => ⟨by simp, by simpa using h⟩) (by simp) ?_
      refine fg_ [] rfl (by simp) ?_
      refine zmx za6 5 6 7 (MixE false (.slice (some ⟨b, 0, none⟩) (zb8 ps).length cap) gs (zb0 (.mk kf kn kx kp)) (zb8 (ps.drop (gs.length + 1)))) rfl rfl rfl (by decide) (by
        have e : 0 + ((gs.length : Int)).toNat * 4 = gs.length * szA false := by simp [szA]
        show zis _ _ _ 6 b (0 + ((gs.length : Int)).toNat * 4) _
        rw [e]
        exact zr1) ?_
      refine fg_ [] rfl (by simp <;> rfl) ?_
      refine zel 7 (fun a : { a : An // vA a = zb0 (.mk kf kn kx kp) ∧ zju a } => zol false (.slice (some ⟨b, 0, none⟩) (zb8 ps).length cap) (gs ++ [a.1]) (zb8 (ps.drop (gs.length + 1)))) rfl (fun vs I w bs h => ?_) fun z => ?_
      · obtain ⟨a, h1, h2⟩ := h
        exact ⟨⟨a, h1⟩, h2⟩
      obtain ⟨a, ha, haf⟩ := z
      refine zbt 5 7 rfl ?_
      refine zae (ih (gs.length + 1, gs ++ [a]) (by simp only; omega) ⟨by simp only; omega, by simp, ?_, zf2 hi4 ⟨haf, trivial⟩⟩) ⟨zcn (w64 (by simp only; omega) (by simp only; omega)), rfl, rfl, rfl, rfl, trivial⟩ ⟨rfl, rfl, rfl, trivial⟩ rfl
      simp only
      rw [zbk hk, zgv, zni, hi3]
      simp [vAs, zb8, ha]
    · simp at h
      have hl : gs.length = ps.length := by omega
      rw [List.drop_eq_nil_of_le (by omega)]
      refine zar rfl ?_
      refine fd_ [] rfl (by simp) ?_
      refine zz5 5 3 1 [.slice ad (zb8 ps).length cap] (A := zxp false (zb0 (.mk f n x ps))) (dsA 1 false (zb0 (.mk f n x ps))) rfl rfl (fun us I w bs h => ?_) ⟨.inl rfl, .inl rfl, .inl rfl, .inr ⟨0, _, rfl, rfl, rfl⟩, trivial⟩ ?_
      · refine ⟨f, n, x, .slice ad (zb8 ps).length cap, gs, .bool true, [], ⟨?_, hi4, trivial⟩, rfl, ?_⟩
        · rw [List.take_of_length_le (by omega)] at hi3
          simp [vA, zb0, hi3]
        · exact yp7 h
      · exact zab ⟨_, rfl, rfl, rfl, trivial⟩
termination_by t => SizeOf.sizeOf t
decreasing_by
  all_goals
    have := List.sizeOf_lt_of_mem (List.mem_of_getElem? hk)
    simp_wf
    simp at this
    omega
mutual
def zi2 : Tm → Prop
  | .mk _ _ _ ks ps => ks.length ≤ 1000000 ∧ ps.length ≤ 1000000 ∧ (∀ p ∈ ps, zl2 p) ∧ zqq ks
def zqq : List Tm → Prop
  | [] => True
  | k :: r => zi2 k ∧ zqq r
end
theorem zf6 : ∀ {l : List Tm} {t : Tm}, zqq l → t ∈ l → zi2 t
  | [], _, _, h => by simp at h
  | p :: r, t, h, hm => by
    rcases List.mem_cons.1 hm with rfl | hm
    · exact h.1
    · exact zf6 h.2 hm
set_option maxRecDepth 100000 in
set_option maxHeartbeats 1000000 in
theorem zht : ∀ t : Tm, zi2 t → zc8 Tryz.prog 55 [.imm (.agg (dTmc t))] [] (.ret (.agg (dsA 1 true (dTmc t))) [(1, some (.hp (zxp true (dTmc t))))])
  | .mk o n x ks ps, hw => by
    obtain ⟨hw1, hw2, hw3, hw4⟩ := hw
    refine zaf za6 Tryz.func55 (by decide +kernel) rfl [2, 3, 4, 5, 6, 7, 1, 8, 9, 10] rfl rfl ?_
    refine fg_ [] rfl (by simp) ?_
    refine zas (fr := [4]) [] [(1, 4)] rfl (by simp) (yal (zcy ks) (fun c hc => by rw [ze2] at hc; obtain ⟨p, _, rfl⟩ := List.mem_map.1 hc; simp) (by simpa using hw1)) trivial rfl rfl rfl rfl ?_
    refine fg_ [] rfl (by simp) ?_
    refine zas (fr := [5]) [] [(1, 5)] rfl (by simp) (zto (zb8 ps) (fun c hc => by rw [zhg] at hc; obtain ⟨p, _, rfl⟩ := List.mem_map.1 hc; simp) (by simpa using hw2)) trivial rfl rfl rfl rfl ?_
    refine fg_ [] rfl (by simp <;> rfl) ?_
    refine zg8 (ids' := [7, 1, 8, 9, 10]) 4 6 (fun x : Option Addr × Nat => [.slice x.1 (zcy ks).length x.2]) (fun x => zol true (.slice x.1 (zcy ks).length x.2) [] (zcy ks)) rfl (fun vs I w bs h => zof h) fun y => ?_
    obtain ⟨ad, cap⟩ := y
    refine zg8 (ids' := [1, 8, 9, 10]) 5 7 (fun x : Option Addr × Nat => [.slice x.1 (zb8 ps).length x.2]) (fun x => zol false (.slice x.1 (zb8 ps).length x.2) [] (zb8 ps)) rfl (fun vs I w bs h => zof h) fun y => ?_
    obtain ⟨ad2, cap2⟩ := y
    refine fd_ [] rfl (by simp) ?_
    refine zah (fun y : Nat × List An => [(18, .imm (.int .i64 y.1)), (17, .imm (.int .i64 (zcy ks).length)), (16, .raw (.slice ad (zcy ks).length cap)), (1, .ref 2 0), (2, .ref 3 0)])
      (fun y => [(2, some (.cells 26 5 [.imm (.int .i64 o), .imm (.int .i64 n), .imm (.str x), .raw (.slice ad (zcy ks).length cap), .raw (.slice ad2 (zb8 ps).length cap2)])), (3, some (.cells 26 5 [.imm (.int .i64 0), .imm (.int .i64 0), .imm (.str []), .nils, .nils])),
        (6, some (.hp (zol true (.slice ad (zcy ks).length cap) y.2 (zcy (ks.drop y.1))))), (7, some (.hp (zol false (.slice ad2 (zb8 ps).length cap2) [] (zb8 ps))))]) [1, 8, 9, 10] (fun y => ks.length - y.1) (fun y => y.1 ≤ ks.length ∧ y.2.length = y.1 ∧ vAs y.2 = zcy (ks.take y.1) ∧ zc6 y.2) (0, [])
      ⟨Nat.zero_le _, rfl, rfl, trivial⟩ ⟨rfl, rfl, rfl, rfl, rfl, trivial⟩ ⟨rfl, rfl, rfl, rfl, trivial⟩ rfl fun y hi ih => ?_
    obtain ⟨i, gs⟩ := y
    obtain ⟨hi1, hi2, hi3, hi4⟩ := hi
    simp only at hi1 hi2 hi3 hi4
    subst hi2
    refine fd_ [] rfl (by simp) ?_
    refine zaa rfl (fun h => ?_) (fun h => ?_)
    · simp at h
      obtain ⟨k, hk⟩ := zal h
      rw [zap hk]
      refine zel 6 (fun _ : { b : Nat // ad = some ⟨b, 0, none⟩ } => zol true (.slice ad (zcy ks).length cap) gs (zcy (k :: ks.drop (gs.length + 1)))) rfl (fun vs I w bs h => ?_) fun z => ?_
      · obtain ⟨a, cap', e1, e2⟩ := zwp h
        simp only [Value.slice.injEq] at e1
        obtain ⟨b, hb⟩ := e2 (by simp only [zcy, List.length_cons]; omega)
        exact ⟨⟨b, by rw [e1.1, hb]⟩, h⟩
      obtain ⟨b, rfl⟩ := z
      obtain ⟨ko, kn, kx, kk, kp⟩ := k
      refine fd_ [] rfl (by simp) ?_
      refine zdq za6 rfl rfl (fun _ => ⟨by simp, by simpa using h⟩) (by simp) ?_
      refine fg_ [] rfl (by simp) ?_
      refine zbw za6 6 ((dTmc (.mk ko kn kx kk kp)).map .imm) rfl rfl (fun _ vs I w bs h => by have := zwo h; simpa [szA, zcm] using this) rfl rfl (by simp) ?_
      refine fg_ [] rfl (by simp) ?_
      refine zas (fr := [8]) [] [(1, 8)] rfl (by simp) (zht (.mk ko kn kx kk kp) (zf6 hw4 (List.mem_of_getElem? hk))) trivial rfl rfl rfl rfl ?_
      refine fg_ [] rfl (by simp) ?_
      refine zdq za6 rfl rfl (fun _ => ⟨by simp, by simpa using h⟩) (by simp) ?_
      refine fg_ [] rfl (by simp) ?_
      refine zmx za6 6 8 9 (MixE true (.slice (some ⟨b, 0, none⟩) (zcy ks).length cap) gs (dTmc (.mk ko kn kx kk kp)) (zcy (ks.drop (gs.length + 1)))) rfl rfl rfl (by decide) (by
        have e : 0 + ((gs.length : Int)).toNat * 5 = gs.length * szA true := by simp [szA]
        show zis _ _ _ 8 b (0 + ((gs.length : Int)).toNat * 5) _
        rw [e]
        exact zr1) ?_
      refine fg_ [] rfl (by simp <;> rfl) ?_
      refine zel 9 (fun a : { a : An // vA a = dTmc (.mk ko kn kx kk kp) ∧ zju a } => zol true (.slice (some ⟨b, 0, none⟩) (zcy ks).length cap) (gs ++ [a.1]) (zcy (ks.drop (gs.length + 1)))) rfl (fun vs I w bs h => ?_) fun z => ?_
      · obtain ⟨a, h1, h2⟩ := h
        exact ⟨⟨a, h1⟩, h2⟩
      obtain ⟨a, ha, haf⟩ := z
      refine zbt 6 9 rfl ?_
      refine zae (ih (gs.length + 1, gs ++ [a]) (by simp only; omega) ⟨by simp only; omega, by simp, ?_, zf2 hi4 ⟨haf, trivial⟩⟩) ⟨zcn (w64 (by simp only; omega) (by simp only; omega)), rfl, rfl, rfl, rfl, trivial⟩ ⟨rfl, rfl, rfl, rfl, trivial⟩ rfl
      simp only
      rw [zbk hk, zlr, zni, hi3]
      simp [vAs, zcy, ha]
    simp at h
    have hl : gs.length = ks.length := by omega
    rw [List.drop_eq_nil_of_le (by omega)]
    rw [List.take_of_length_le (by omega)] at hi3
    clear ih
    refine zar rfl ?_
    refine fd_ [] rfl (by simp) ?_
    refine zah (fun y : Nat × List An => [(33, .imm (.int .i64 y.1)), (32, .imm (.int .i64 (zb8 ps).length)), (31, .raw (.slice ad2 (zb8 ps).length cap2)), (1, .ref 2 0), (2, .ref 3 0)])
      (fun y => [(2, some (.cells 26 5 [.imm (.int .i64 o), .imm (.int .i64 n), .imm (.str x), .raw (.slice ad (zcy ks).length cap), .raw (.slice ad2 (zb8 ps).length cap2)])), (3, some (.cells 26 5 [.imm (.int .i64 0), .imm (.int .i64 0), .imm (.str []), .nils, .nils])),
        (6, some (.hp (zol true (.slice ad (zcy ks).length cap) gs []))), (7, some (.hp (zol false (.slice ad2 (zb8 ps).length cap2) y.2 (zb8 (ps.drop y.1)))))]) [8, 1, 9, 10] (fun y => ps.length - y.1) (fun y => y.1 ≤ ps.length ∧ y.2.length = y.1 ∧ vAs y.2 = zb8 (ps.take y.1) ∧ zc6 y.2) (0, [])
      ⟨Nat.zero_le _, rfl, rfl, trivial⟩ ⟨rfl, rfl, rfl, rfl, rfl, trivial⟩ ⟨rfl, rfl, rfl, rfl, trivial⟩ rfl fun y hi ih => ?_
    obtain ⟨i, fs⟩ := y
    obtain ⟨hj1, hj2, hj3, hj4⟩ := hi
    simp only at hj1 hj2 hj3 hj4
    subst hj2
    refine fd_ [] rfl (by simp) ?_
    refine zaa rfl (fun h => ?_) (fun h => ?_)
    · simp at h
      obtain ⟨k, hk⟩ := zal h
      rw [zap hk]
      refine zel 7 (fun _ : { b : Nat // ad2 = some ⟨b, 0, none⟩ } => zol false (.slice ad2 (zb8 ps).length cap2) fs (zb8 (k :: ps.drop (fs.length + 1)))) rfl (fun vs I w bs h => ?_) fun z => ?_
      · obtain ⟨a, cap', e1, e2⟩ := zwp h
        simp only [Value.slice.injEq] at e1
        obtain ⟨b, hb⟩ := e2 (by simp only [zb8, List.length_cons]; omega)
        exact ⟨⟨b, by rw [e1.1, hb]⟩, h⟩
      obtain ⟨b, rfl⟩ := z
      obtain ⟨kf, kn, kx, kp⟩ := k
      refine fd_ [] rfl (by simp) ?_
      refine zdq za6 rfl rfl (fun _ => ⟨by simp, by simpa using h⟩) (by simp) ?_
      refine fg_ [] rfl (by simp) ?_
      refine zbw za6 7 ((zb0 (.mk kf kn kx kp)).map .imm) rfl rfl (fun _ vs I w bs h => by have := zwo h; simpa [szA, zcm] using this) rfl rfl (by simp) ?_
      refine fg_ [] rfl (by simp) ?_
      refine zas (fr := [1]) [] [(1, 1)] rfl (by simp) (zvn (.mk kf kn kx kp) (hw3 _ (List.mem_of_getElem? hk))) trivial rfl rfl rfl rfl ?_
      refine fg_ [] rfl (by simp) ?_
      refine zdq za6 rfl rfl (fun _ => ⟨by simp, by simpa using h⟩) (by simp) ?_
      refine fg_ [] rfl (by simp) ?_
      refine zmx za6 7 1 9 (MixE false (.slice (some ⟨b, 0, none⟩) (zb8 ps).length cap2) fs (zb0 (.mk kf kn kx kp)) (zb8 (ps.drop (fs.length + 1)))) rfl rfl rfl (by decide) (by
        have e : 0 + ((fs.length : Int)).toNat * 4 = fs.length * szA false := by simp [szA]
        show zis _ _ _ 1 b (0 + ((fs.length : Int)).toNat * 4) _
        rw [e]
        exact zr1) ?_
      refine fg_ [] rfl (by simp <;> rfl) ?_
      refine zel 9 (fun a : { a : An // vA a = zb0 (.mk kf kn kx kp) ∧ zju a } => zol false (.slice (some ⟨b, 0, none⟩) (zb8 ps).length cap2) (fs ++ [a.1]) (zb8 (ps.drop (fs.length + 1)))) rfl (fun vs I w bs h => ?_) fun z => ?_
      · obtain ⟨a, h1, h2⟩ := h
        exact ⟨⟨a, h1⟩, h2⟩
      obtain ⟨a, ha, haf⟩ := z
      refine zbt 7 9 rfl ?_
      refine zae (ih (fs.length + 1, fs ++ [a]) (by simp only; omega) ⟨by simp only; omega, by simp, ?_, zf2 hj4 ⟨haf, trivial⟩⟩) ⟨zcn (w64 (by simp only; omega) (by simp only; omega)), rfl, rfl, rfl, rfl, trivial⟩ ⟨rfl, rfl, rfl, rfl, trivial⟩ rfl
      simp only
      rw [zbk hk, zgv, zni, hj3]
      simp [vAs, zb8, ha]
    simp at h
    rw [List.drop_eq_nil_of_le (by omega)]
    rw [List.take_of_length_le (by omega)] at hj3
    refine zar rfl ?_
    refine fd_ [] rfl (by simp) ?_
    refine yb9 (ids' := [1, 9, 10]) 6 7 8 (fun _ : Unit => yaq (.mk true o n x (.slice ad (zcy ks).length cap) gs (.slice ad2 (zb8 ps).length cap2) fs)) rfl rfl (by decide) (fun vs us I w b1 b2 h1 h2 hd => ⟨(), b1 ++ b2, fun b hb => List.mem_append.1 hb, ?_⟩) fun _ => ?_
    · obtain ⟨q1, q2, q3⟩ := yna (o := o) (n := n) (x := x) h1 h2 hd
      exact ⟨q1, q2, q3⟩
    refine zz5 (ids' := [9, 10]) 8 3 1 [.slice ad (zcy ks).length cap, .slice ad2 (zb8 ps).length cap2] (A := zxp true (dTmc (.mk o n x ks ps))) (dsA 1 true (dTmc (.mk o n x ks ps))) rfl rfl (fun us I w bs h => ?_) ⟨.inl rfl, .inl rfl, .inl rfl, .inr ⟨0, _, rfl, rfl, rfl⟩, .inr ⟨1, _, rfl, rfl, rfl⟩, trivial⟩ ?_
    · exact ⟨o, n, x, .slice ad (zcy ks).length cap, gs, .slice ad2 (zb8 ps).length cap2, fs, ⟨by simp [vA, dTmc, hi3, hj3], hi4, hj4⟩, rfl, h⟩
    · exact zab ⟨_, rfl, rfl, rfl, trivial⟩
termination_by t => SizeOf.sizeOf t
decreasing_by
  all_goals
    have := List.sizeOf_lt_of_mem (List.mem_of_getElem? hk)
    simp_wf
    simp at this
    omega
def ttP2 : TT := ttF ++ [
  (54, ⟨.sl 3, false, 1, 24, [.nils]⟩),
  (113, ⟨.struct [(0, 26)], true, 5, 80, [.imm (.int .i64 0), .imm (.int .i64 0), .imm (.str []), .nils, .nils]⟩),
  (114, ⟨.func, false, 1, 8, [.imm .nilfn]⟩),
  (115, ⟨.arr 2 114, true, 2, 16, [.imm .nilfn, .imm .nilfn]⟩)]
theorem zaw : TTok Tryz.prog ttP2 := .of_eq (l := [4, 3, 9, 26, 58, 22, 24, 5, 36, 23, 56, 29, 139, 83, 1, 61, 143, 128, 96, 94, 93, 126, 148, 91, 86, 123, 125, 54, 113, 114, 115]) (by kernel_rfl)
section
variable {n : Nat} {F : List Nat} {Q : DQ} {env env' : Env} {st st' : St} {ids ids' : List Nat} {k todo : List DI} {ob : List Prop}
theorem qd (path : List Pt) (h : run ttP2 n 300 path todo env st ids [] = .at k env' st' ids' ob) (hob : zb7 ob) (hd : G Tryz.prog n F Q k env' st' ids') : DGo Tryz.prog n F Q todo env st ids := zpu zaw mixed 300 path h hob hd
theorem qg (path : List Pt) (h : run ttP2 n 300 path todo env st ids [] = .at k env' st' ids' ob) (hob : zb7 ob) (hd : G Tryz.prog n F Q k env' st' ids') : G Tryz.prog n F Q todo env st ids := zpr zaw mixed 300 path h hob hd
theorem qi_ {es : List (List V)} {m : Int} {sz : Nat} {e : TypeId} {g : Option (Bool × Bool)} {ob : List Prop} {t : Nat} {todo' : List DI} {c : List V} (h : yi6 ttP2 n env todo = some ⟨es, m, sz, e, g, ob, some t, todo'⟩)
    (hc : zag g → 0 ≤ m ∧ es[m.toNat]? = some c ∧ c.length = sz) (hob : zb7 ob) (hk : G Tryz.prog n F Q todo' ((t, gD g (.ip e c 0)) :: env) st ids) : G Tryz.prog n F Q todo env st ids := zie zaw h hc hob hk
end
mutual
def dpT : Tm → Nat
  | .mk _ _ _ ks _ => zw6 ks 0 + 1
def zw6 : List Tm → Nat → Nat
  | [], m => m
  | k :: r, m => zw6 r (max m (dpT k))
end
theorem zm9 : ∀ {l : List Tm} {t : Tm}, t ∈ l → zcp t ≤ zco l
  | k :: r, t, h => by
    simp only [zco]
    rcases List.mem_cons.1 h with rfl | h
    · omega
    · have := zm9 h; omega
mutual
theorem yo8 : ∀ t : Tm, dpT t ≤ zcp t
  | .mk _ _ _ ks _ => by
    have := yk3 ks 0
    simp only [dpT, zcp]; omega
theorem yk3 : ∀ (ks : List Tm) (m : Nat), zw6 ks m ≤ m + zco ks
  | [], m => by simp [zw6, zco]
  | k :: r, m => by
    have h1 := yo8 k
    have h2 := yk3 r (max m (dpT k))
    simp only [zw6, zco]
    omega
end
theorem yb5 : ∀ (ks : List Tm) (m : Nat), m ≤ zw6 ks m
  | [], m => by simp [zw6]
  | k :: r, m => by
    have := yb5 r (max m (dpT k))
    simp only [zw6]; omega
set_option maxRecDepth 100000 in
theorem zoq : ∀ t : Tm, zcp t ≤ 1000000 → zau Tryz.prog 87 [.agg (dTmc t)] (.int .i64 (zcp t))
  | .mk o n x ks ps, hc => by
    simp only [zcp] at hc
    have hl := zsd ks
    refine zaf zaw Tryz.func87 (by decide +kernel) rfl [1, 2] rfl rfl ?_
    refine qg [] rfl (by simp) ?_
    refine zah (fun y : Nat × Nat => [(10, .imm (.int .i64 y.1)), (9, .imm (.int .i64 ks.length)), (8, .imm (.sl (zcy ks))), (3, .imm (.int .i64 y.2))]) (fun _ => []) [1, 2] (fun y => ks.length - y.1) (fun y => y.1 ≤ ks.length ∧ y.2 + zco (ks.drop y.1) = 1 + zco ks) (0, 1)
      ⟨Nat.zero_le _, rfl⟩ ⟨rfl, zcn (by simp), rfl, rfl, trivial⟩ trivial rfl fun y hi ih => ?_
    obtain ⟨i, s⟩ := y
    obtain ⟨hi1, hi2⟩ := hi
    simp only at hi1 hi2
    refine qd [] rfl (by simp) ?_
    refine zaa rfl (fun h => ?_) (fun h => ?_)
    · simp at h
      obtain ⟨k, hk⟩ := zal h
      rw [zap hk] at hi2
      simp only [zco] at hi2
      have hkc : zcp k ≤ 1000000 := by have := zm9 (List.mem_of_getElem? hk); omega
      have hs := Nat.le_refl (SizeOf.sizeOf k)
      obtain ⟨ko, kn, kx, kk, kp⟩ := k
      refine qd [] rfl (by simp) ?_
      refine qi_ rfl (c := dTmc (.mk ko kn kx kk kp)) (fun _ => ⟨by simp, by simpa using zbu hk, by simp⟩) (by simp) ?_
      refine qg [] rfl (by simp) ?_
      refine zac rfl (fun _ => zoq (.mk ko kn kx kk kp) hkc) (by simp) ?_
      refine qg [] rfl (by simp) ?_
      exact zae (ih (i + 1, s + zcp (.mk ko kn kx kk kp)) (by simp only; omega) ⟨by simp only; omega, by simp only; omega⟩) ⟨zcn (w64 (by simp only; omega) (by simp only; omega)), rfl, rfl, zcn ((w64 (by simp only; omega) (by simp only; omega)).trans (by simp)), trivial⟩ trivial rfl
    · simp at h
      rw [List.drop_eq_nil_of_le (by omega)] at hi2
      simp only [zco] at hi2
      refine zar rfl ?_
      refine qd [] rfl (by simp) ?_
      refine zab ⟨_, rfl, zcn ?_, trivial⟩
      simp only [zcp]; omega
termination_by t => SizeOf.sizeOf t
decreasing_by
  all_goals
    have := List.sizeOf_lt_of_mem (List.mem_of_getElem? hk)
    simp_wf
    simp at this
    omega
set_option maxRecDepth 100000 in
theorem zor : ∀ t : Tm, zcp t ≤ 1000000 → zau Tryz.prog 88 [.agg (dTmc t)] (.int .i64 (dpT t))
  | .mk o n x ks ps, hc => by
    have hd := yo8 (.mk o n x ks ps)
    simp only [zcp, dpT] at hc hd
    have hl := zsd ks
    refine zaf zaw Tryz.func88 (by decide +kernel) rfl [1, 2] rfl rfl ?_
    refine qg [] rfl (by simp) ?_
    refine zah (fun y : Nat × Nat => [(10, .imm (.int .i64 y.1)), (9, .imm (.int .i64 ks.length)), (8, .imm (.sl (zcy ks))), (3, .imm (.int .i64 y.2))]) (fun _ => []) [1, 2] (fun y => ks.length - y.1) (fun y => y.1 ≤ ks.length ∧ zw6 (ks.drop y.1) y.2 = zw6 ks 0) (0, 0)
      ⟨Nat.zero_le _, rfl⟩ ⟨rfl, zcn (by simp), rfl, rfl, trivial⟩ trivial rfl fun y hi ih => ?_
    obtain ⟨i, s⟩ := y
    obtain ⟨hi1, hi2⟩ := hi
    simp only at hi1 hi2
    refine qd [] rfl (by simp) ?_
    refine zaa rfl (fun h => ?_) (fun h => ?_)
    · simp at h
      obtain ⟨k, hk⟩ := zal h
      rw [zap hk] at hi2
      simp only [zw6] at hi2
      have hkc : zcp k ≤ 1000000 := by have := zm9 (List.mem_of_getElem? hk); omega
      obtain ⟨ko, kn, kx, kk, kp⟩ := k
      refine qd [] rfl (by simp) ?_
      refine qi_ rfl (c := dTmc (.mk ko kn kx kk kp)) (fun _ => ⟨by simp, by simpa using zbu hk, by simp⟩) (by simp) ?_
      refine qg [] rfl (by simp) ?_
      refine zac rfl (fun _ => zor (.mk ko kn kx kk kp) hkc) (by simp) ?_
      refine qg [] rfl (by simp) ?_
      exact zae (ih (i + 1, max s (dpT (.mk ko kn kx kk kp))) (by simp only; omega) ⟨by simp only; omega, hi2⟩) ⟨zcn (w64 (by simp only; omega) (by simp only; omega)), rfl, rfl, zcn (by simp only; split <;> omega), trivial⟩ trivial rfl
    · simp at h
      rw [List.drop_eq_nil_of_le (by omega)] at hi2
      simp only [zw6] at hi2
      refine zar rfl ?_
      refine qd [] rfl (by simp) ?_
      refine zab ⟨_, rfl, zcn ?_, trivial⟩
      simp only [dpT]
      rw [w64 (by omega) (by omega)]; omega
termination_by t => SizeOf.sizeOf t
decreasing_by
  all_goals
    have := List.sizeOf_lt_of_mem (List.mem_of_getElem? hk)
    simp_wf
    simp at this
    omega
set_option maxRecDepth 100000 in
theorem yef (t : Tm) (way : Bool) (h : zeg t = zbc t) : zau Tryz.prog 53 [.agg (dTmc t), .int .i64 (bif way then 1 else 0)] (.tup [.int .i64 (bif zbc t then (bif way then (dpT t : Int) else zcp t) else 0), .int .i64 (bif zbc t then 0 else 2)]) := by
  obtain ⟨o, n, x, ks, ps⟩ := t
  refine zaf zaw Tryz.func53 (by decide +kernel) rfl [1, 2, 3] rfl rfl ?_
  refine qg [] rfl (by simp) ?_
  refine zac rfl (fun _ => zf5 (.mk o n x ks ps)) (by simp) ?_
  rw [h]
  cases ht : zbc (.mk o n x ks ps) with
  | false =>
    refine qg [] rfl (by simp) ?_
    refine zaa rfl (fun h => ?_) (fun h => by simp [yb1] at h)
    refine qd [] rfl (by simp) ?_
    exact zab ⟨_, rfl, tV rfl, trivial⟩
  | true =>
    obtain ⟨h1, h2, h3, h4⟩ := zc0 _ ht
    refine qg [] rfl (by simp) ?_
    refine zaa rfl (fun h => by simp [yb1] at h) (fun h => ?_)
    refine qd [] rfl (by simp) ?_
    refine g_barr zaw rfl ?_
    cases way with
    | false =>
      refine qg [] rfl (by simp) ?_
      refine yd4 zaw rfl (fun _ => ⟨by decide, by decide⟩) (by simp) ?_
      refine qg [] rfl (by simp) ?_
      refine zas (fr := []) [] [] rfl (by simp) (zoq (.mk o n x ks ps) (by omega)) trivial rfl rfl rfl rfl ?_
      refine qg [] rfl (by simp) ?_
      exact zab ⟨_, rfl, tV rfl, trivial⟩
    | true =>
      refine qg [] rfl (by simp) ?_
      refine yd4 zaw rfl (fun _ => ⟨by decide, by decide⟩) (by simp) ?_
      refine qg [] rfl (by simp) ?_
      refine zas (fr := []) [] [] rfl (by simp) (zor (.mk o n x ks ps) (by omega)) trivial rfl rfl rfl rfl ?_
      refine qg [] rfl (by simp) ?_
      exact zab ⟨_, rfl, tV rfl, trivial⟩
set_option maxRecDepth 100000 in
theorem yhp (t : Tm) (h : zeg t = zbc t) : zau Tryz.prog 28 [.agg (dTmc t)] (.tup [.int .i64 (bif zbc t then (zcp t : Int) else 0), .int .i64 (bif zbc t then 0 else 2)]) := by
  refine zaf zaw Tryz.func28 (by decide +kernel) rfl [1, 2, 3] rfl rfl ?_
  refine qg [] rfl (by simp) ?_
  refine zac rfl (fun _ => yef t false h) (by simp) ?_
  refine qg [] rfl (by simp) ?_
  exact zab ⟨_, rfl, tV rfl, trivial⟩
set_option maxRecDepth 100000 in
theorem yhq (t : Tm) (h : zeg t = zbc t) : zau Tryz.prog 29 [.agg (dTmc t)] (.tup [.int .i64 (bif zbc t then (dpT t : Int) else 0), .int .i64 (bif zbc t then 0 else 2)]) := by
  refine zaf zaw Tryz.func29 (by decide +kernel) rfl [1, 2, 3] rfl rfl ?_
  refine qg [] rfl (by simp) ?_
  refine zac rfl (fun _ => yef t true h) (by simp) ?_
  refine qg [] rfl (by simp) ?_
  exact zab ⟨_, rfl, tV rfl, trivial⟩
end Go.Hk
namespace Go.Hk
open Go.Proofs
abbrev zng := List (Bool × Nat)
def zfr : An → Bool × Nat → Option (An × Nat × Nat)
  | .mk s _ _ _ v ks u ps, (r, k) => match r with
    | false => (ks[k]?).map fun c => (c, zcm v, k * szA s)
    | true => match s with
      | true => (ps[k]?).map fun c => (c, zcm u, k * szA false)
      | false => none
  | .im _ _ _, _ => none
def zeu (a : An) (b off : Nat) : zng → Option (An × Nat × Nat)
  | [] => some (a, b, off)
  | p :: r => match zfr a p with
    | some (c, b', off') => zeu c b' off' r
    | none => none
def zyl : An → Bool × Nat → An → An
  | .mk s o n x v ks u ps, (r, k), c => match r with
    | false => .mk s o n x v (ks.set k c) u ps
    | true => .mk s o n x v ks u (ps.set k c)
  | .im s cs c0, _, _ => .im s cs c0
def znr (a : An) : zng → An → An
  | [], a2 => a2
  | p :: r, a2 => match zfr a p with
    | some (c, _, _) => zyl a p (znr c r a2)
    | none => a
structure Upd (w w' : World) (b off sz : Nat) : Prop where
  other : ∀ k, k ≠ b → w'.heap[k]? = w.heap[k]?
  same : ∀ cur ty k, w.heap[b]? = some (.cells cur ty k) → ∃ cur', w'.heap[b]? = some (.cells cur' ty k) ∧ cur'.size = cur.size ∧ ∀ i, (i < off ∨ off + sz ≤ i) → cur'[i]? = cur[i]?
theorem Upd.row {w w' : World} {b off sz : Nat} (h : Upd w w' b off sz) {ty : TypeId} {s : Nat} {v : Value} {len : Nat} (hr : yml w ty s v len) : yml w' ty s v len := by
  rcases hr with hr | ⟨h0, b', cap, cur, rfl, h1, h2, h3, h4⟩
  · exact .inl hr
  · by_cases e : b' = b
    · subst e
      obtain ⟨cur', q1, q2, _⟩ := h.same cur ty (0, 0) h1
      exact .inr ⟨h0, b', cap, cur', rfl, q1, h2, h3, by rw [q2, h4]⟩
    · exact .inr ⟨h0, b', cap, cur, rfl, (h.other b' e).trans h1, h2, h3, h4⟩
theorem Upd.at {w w' : World} {b off sz : Nat} (h : Upd w w' b off sz) {b1 off1 : Nat} {cs : List Value} (ha : atW w b1 off1 cs) (hd : b1 = b → off1 + cs.length ≤ off ∨ off + sz ≤ off1) : atW w' b1 off1 cs := by
  obtain ⟨cur, ty, k, h1, h2⟩ := ha
  by_cases e : b1 = b
  · subst e
    obtain ⟨cur', q1, q2, q3⟩ := h.same cur ty k h1
    refine ⟨cur', ty, k, q1, fun j c hj => ?_⟩
    have hlt := (List.getElem?_eq_some_iff.1 hj).1
    rw [q3 (off1 + j) (by rcases hd rfl with h | h <;> omega)]
    exact h2 j c hj
  · exact ⟨cur, ty, k, (h.other b1 e).trans h1, h2⟩
theorem zt5 {w : World} {b off : Nat} {cur : Array Value} {ty : TypeId} {k : Nat × Nat} {cs : List Value} {off0 sz : Nat} (h : w.heap[b]? = some (.cells cur ty k)) (hf : off + cs.length ≤ cur.size) (h0 : off0 ≤ off ∧ off + cs.length ≤ off0 + sz) :
    Upd w (w.setRow b (cur.toList.take off ++ cs ++ cur.toList.drop (off + cs.length)).toArray) b off0 sz := by
  refine ⟨fun k hk => setRow_other w b k _ hk, fun cur1 ty1 k1 h1 => ?_⟩
  rw [h] at h1; cases h1
  refine ⟨_, zi9 h, ?_, fun i hi => ?_⟩
  · have hl2 : cur.toList.length = cur.size := Array.length_toList
    show (cur.toList.take off ++ cs ++ cur.toList.drop (off + cs.length)).length = cur.size
    rw [List.length_append, List.length_append, List.length_take, List.length_drop]
    omega
  · have := zga (cur := cur.toList) (off := off) (cs := cs) (by simpa using hf) i
    rcases hi with hi | hi
    · rw [if_pos (by omega)] at this; simpa using this
    · rw [if_neg (by omega), if_neg (by omega)] at this; simpa using this
theorem zic {a c : An} {p : Bool × Nat} {b off : Nat} (h : zfr a p = some (c, b, off)) : b ∈ anB a ∧ (∀ k ∈ anB c, k ∈ anB a) ∧ ((anB a).Nodup → (anB c).Nodup ∧ b ∉ anB c) := by
  rcases a with ⟨s, o, n, x, v, ks, u, ps⟩ | ⟨s0, cs0, c0⟩
  case im => simp [zfr] at h
  obtain ⟨r, k⟩ := p
  have mem : ∀ {l : List An} {i : Nat} {c : An}, l[i]? = some c → ∀ k ∈ anB c, k ∈ zd9 l := by
    intro l
    induction l with
    | nil => intro i c h; simp at h
    | cons y r ih =>
      intro i c h k hk
      simp only [zd9, List.mem_append]
      cases i with
      | zero => simp at h; subst h; exact .inl hk
      | succ i => exact .inr (ih (by simpa using h) k hk)
  have nd : ∀ {l : List An} {i : Nat} {c : An}, l[i]? = some c → (zd9 l).Nodup → (anB c).Nodup := by
    intro l
    induction l with
    | nil => intro i c h; simp at h
    | cons y r ih =>
      intro i c h hn
      simp only [zd9] at hn
      have hn := List.nodup_append.1 hn
      cases i with
      | zero => simp at h; subst h; exact hn.1
      | succ i => exact ih (by simpa using h) hn.2.1
  have bl : ∀ {l : List An} {v : Value} {i : Nat} {c : An}, l[i]? = some c → zdt v l.length = [zcm v] := by
    intro l v i c h
    cases l with
    | nil => simp at h
    | cons => rfl
  cases r with
  | false =>
    simp only [zfr, Option.map_eq_some_iff, Prod.mk.injEq] at h
    obtain ⟨c', hc, rfl, rfl, rfl⟩ := h
    simp only [anB, bl hc]
    refine ⟨by simp, fun k hk => by simp [mem hc k hk], fun hn => ?_⟩
    have h1 := (List.nodup_append.1 hn).1
    have h2 := List.nodup_append.1 h1
    exact ⟨nd hc h2.2.1, fun hb => h2.2.2 _ (by simp) _ (mem hc _ hb) rfl⟩
  | true =>
    cases s with
    | false => simp [zfr] at h
    | true =>
      simp only [zfr, Option.map_eq_some_iff, Prod.mk.injEq] at h
      obtain ⟨c', hc, rfl, rfl, rfl⟩ := h
      simp only [anB, bl hc]
      refine ⟨by simp, fun k hk => by simp [mem hc k hk], fun hn => ?_⟩
      have h1 := (List.nodup_append.1 hn).2.1
      have h2 := List.nodup_append.1 h1
      exact ⟨nd hc h2.2.1, fun hb => h2.2.2 _ (by simp) _ (mem hc _ hb) rfl⟩
theorem ybq {I : Imm} {w : World} {a c : An} {p : Bool × Nat} {b off : Nat} (h : zfr a p = some (c, b, off)) (hw : anW I w a) : atW w b off (cA c) ∧ anW I w c := by
  rcases a with ⟨s, o, n, x, v, ks, u, ps⟩ | ⟨s0, cs0, c0⟩
  case im => simp [zfr] at h
  obtain ⟨r, k⟩ := p
  simp only [anW] at hw
  cases r with
  | false =>
    simp only [zfr, Option.map_eq_some_iff, Prod.mk.injEq] at h
    obtain ⟨c', hc, rfl, rfl, rfl⟩ := h
    obtain ⟨_, h2, h3⟩ := zdl hw.1.2 hc
    rw [Nat.zero_add] at h2
    exact ⟨h2, h3⟩
  | true =>
    cases s with
    | false => simp [zfr] at h
    | true =>
      simp only [zfr, Option.map_eq_some_iff, Prod.mk.injEq] at h
      obtain ⟨c', hc, rfl, rfl, rfl⟩ := h
      obtain ⟨_, h2, h3⟩ := zdl (hw.2 rfl).2 hc
      rw [Nat.zero_add] at h2
      exact ⟨h2, h3⟩
theorem zws {I : Imm} {w : World} : ∀ {p : zng} {a : An} {b off : Nat} {a' : An} {b' off' : Nat}, zeu a b off p = some (a', b', off') → atW w b off (cA a) → anW I w a → atW w b' off' (cA a') ∧ anW I w a'
  | [], a, b, off, a', b', off', h, h1, h2 => by
    simp only [zeu, Option.some.injEq, Prod.mk.injEq] at h
    obtain ⟨rfl, rfl, rfl⟩ := h
    exact ⟨h1, h2⟩
  | q :: r, a, b, off, a', b', off', h, h1, h2 => by
    simp only [zeu] at h
    split at h
    · rename_i c b1 off1 hk
      obtain ⟨q1, q2⟩ := ybq hk h2
      exact zws h q1 q2
    · cases h
theorem zmq : ∀ {p : zng} {a : An} {b off : Nat} {a' : An} {b' off' : Nat}, zeu a b off p = some (a', b', off') → (p = [] ∧ b' = b ∧ off' = off ∧ a' = a) ∨ (p ≠ [] ∧ b' ∈ anB a)
  | [], a, b, off, a', b', off', h => by
    simp only [zeu, Option.some.injEq, Prod.mk.injEq] at h
    obtain ⟨rfl, rfl, rfl⟩ := h
    exact .inl ⟨rfl, rfl, rfl, rfl⟩
  | q :: r, a, b, off, a', b', off', h => by
    simp only [zeu] at h
    split at h
    · rename_i c b1 off1 hk
      obtain ⟨k1, k2, _⟩ := zic hk
      refine .inr ⟨by simp, ?_⟩
      rcases zmq h with ⟨_, rfl, _⟩ | ⟨_, h⟩
      · exact k1
      · exact k2 _ h
    · cases h
theorem yqu (a c : An) (p : Bool × Nat) : cA (zyl a p c) = cA a := by
  rcases a with ⟨s, o, n, x, v, ks, u, ps⟩ | ⟨s0, cs0, c0⟩
  case im => rfl
  obtain ⟨r, k⟩ := p
  cases r <;> cases s <;> rfl
theorem zxg {I : Imm} {w w' : World} {s : Bool} {b b' off' sz : Nat} (hu : Upd w w' b' off' sz) {c c' : An} : ∀ {l : List An} {i k : Nat}, zfv I w s b i l → l[k]? = some c → zc1 c' = s → atW w' b ((i + k) * szA s) (cA c') → anW I w' c' →
    (∀ x ∈ zd9 l, x = b' → x ∈ anB c) → (zd9 l).Nodup → (b' = b → off' = (i + k) * szA s ∧ sz = szA s) → zfv I w' s b i (l.set k c')
  | [], i, k, _, h, _, _, _, _, _, _ => by simp at h
  | y :: r, i, 0, hw, h, h1, h2, h3, h4, h5, h6 => by
    simp at h; subst h
    simp only [zfv] at hw
    simp only [List.set_cons_zero, zfv]
    simp only [zd9] at h4 h5
    have hnd := List.nodup_append.1 h5
    refine ⟨⟨h1, h2, h3⟩, ?_⟩
    have hne : ∀ x ∈ zd9 r, x ≠ b' := fun x hx e => by
      subst e
      exact hnd.2.2 x (h4 x (List.mem_append_right _ hx) rfl) x hx rfl
    have : ∀ {l : List An} {j : Nat}, i + 1 ≤ j → (∀ x ∈ zd9 l, x ≠ b') → zfv I w s b j l → zfv I w' s b j l := by
      intro l
      induction l with
      | nil => intro j _ _ _; simp [zfv]
      | cons z q ih =>
        intro j hj hb hw
        simp only [zfv] at hw ⊢
        simp only [zd9, List.mem_append] at hb
        refine ⟨⟨hw.1.1, hu.at hw.1.2.1 fun e => ?_, zj5 (fun k hk => hu.other k (hb k (.inl hk))) hw.1.2.2⟩, ih (by omega) (fun x hx => hb x (.inr hx)) hw.2⟩
        obtain ⟨e1, e2⟩ := h6 e.symm
        right
        rw [e1, e2, Nat.add_zero, ← Nat.succ_mul]
        exact Nat.mul_le_mul_right _ hj
    exact this (Nat.le_refl _) hne hw.2
  | y :: r, i, k + 1, hw, h, h1, h2, h3, h4, h5, h6 => by
    simp only [zfv] at hw
    simp only [List.set_cons_succ, zfv]
    simp only [zd9] at h4 h5
    have hnd := List.nodup_append.1 h5
    have hc : r[k]? = some c := by simpa using h
    have mem : ∀ x ∈ anB c, x ∈ zd9 r := by
      have : ∀ {l : List An} {i : Nat}, l[i]? = some c → ∀ k ∈ anB c, k ∈ zd9 l := by
        intro l
        induction l with
        | nil => intro i h; simp at h
        | cons y r ih =>
          intro i h k hk
          simp only [zd9, List.mem_append]
          cases i with
          | zero => simp at h; subst h; exact .inl hk
          | succ i => exact .inr (ih (by simpa using h) k hk)
      exact this hc
    refine ⟨⟨hw.1.1, hu.at hw.1.2.1 fun e => ?_, zj5 (fun x hx => hu.other x fun e => ?_) hw.1.2.2⟩, zxg hu hw.2 hc h1 (by rwa [show i + 1 + k = i + (k + 1) by omega]) h3 (fun x hx e => h4 x (List.mem_append_right _ hx) e) hnd.2.1 (fun e => by rw [show i + 1 + k = i + (k + 1) by omega]; exact h6 e)⟩
    · obtain ⟨e1, e2⟩ := h6 e.symm
      left
      rw [e1, zte hw.1.2.2, hw.1.1, ← Nat.succ_mul]
      exact Nat.mul_le_mul_right _ (by omega)
    · subst e
      exact hnd.2.2 x hx x (mem x (h4 x (List.mem_append_left _ hx) rfl)) rfl
theorem zv4 {I : Imm} {w w' : World} : ∀ {p : zng} {a : An} {b off : Nat} {a' : An} {b' off' : Nat} {a2 : An}, zeu a b off p = some (a', b', off') → Upd w w' b' off' (szA (zc1 a')) → zc1 a2 = zc1 a' → atW w' b' off' (cA a2) → anW I w' a2 →
    atW w b off (cA a) → anW I w a → b ∉ anB a → (anB a).Nodup → atW w' b off (cA (znr a p a2)) ∧ anW I w' (znr a p a2) ∧ zc1 (znr a p a2) = zc1 a
  | [], a, b, off, a', b', off', a2, h, hu, hs, h1, h2, _, _, _, _ => by
    simp only [zeu, Option.some.injEq, Prod.mk.injEq] at h
    obtain ⟨rfl, rfl, rfl⟩ := h
    exact ⟨h1, h2, hs⟩
  | q :: r, a, b, off, a', b', off', a2, h, hu, hs, h1, h2, h3, h4, hb, hnd => by
    have hblk := zmq h
    simp only [zeu] at h
    simp only [znr]
    split at h
    · rename_i c b1 off1 hk
      obtain ⟨k1, k2, k3⟩ := zic hk
      obtain ⟨k4, k5⟩ := k3 hnd
      obtain ⟨k6, k7⟩ := ybq hk h4
      obtain ⟨i1, i2, i3⟩ := zv4 h hu hs h1 h2 k6 k7 k5 k4
      have hbb : b' ∈ anB a := by
        rcases hblk with ⟨h, _⟩ | ⟨_, h⟩
        · cases h
        · exact h
      have hne : b ≠ b' := fun e => hb (e ▸ hbb)
      rw [yqu]
      refine ⟨hu.at h3 fun e => absurd e hne, ?_, ?_⟩
      · rcases a with ⟨s, o, n, x, v, ks, u, ps⟩ | ⟨s0, cs0, c0⟩
        case im => simp [zfr] at hk
        obtain ⟨rr, k⟩ := q
        have hin : b' = b1 ∨ b' ∈ anB c := by
          rcases zmq h with ⟨_, e, _⟩ | ⟨_, h⟩
          · exact .inl e
          · exact .inr h
        have hoff : b' = b1 → off' = off1 ∧ a' = c := fun e => by
          rcases zmq h with ⟨_, _, e1, e2⟩ | ⟨_, h⟩
          · exact ⟨e1, e2⟩
          · exact absurd (e ▸ h) k5
        simp only [anW] at h4
        simp only [anB] at hnd
        cases rr with
        | false =>
          simp only [zfr, Option.map_eq_some_iff, Prod.mk.injEq] at hk
          obtain ⟨c', hc, rfl, rfl, rfl⟩ := hk
          simp only [zyl, anW, List.length_set]
          have hn1 := List.nodup_append.1 hnd
          have hn2 := List.nodup_append.1 hn1.1
          have hbl : zdt v ks.length = [zcm v] := by cases ks with | nil => simp at hc | cons => rfl
          have hsrt : zc1 c' = s := (zdl h4.1.2 hc).1
          have hmem : ∀ x ∈ anB c', x ∈ zd9 ks := fun x hx => by
            have : ∀ {l : List An} {i : Nat}, l[i]? = some c' → ∀ k ∈ anB c', k ∈ zd9 l := by
              intro l
              induction l with
              | nil => intro i h; simp at h
              | cons y r ih =>
                intro i h k hk
                simp only [zd9, List.mem_append]
                cases i with
                | zero => simp at h; subst h; exact .inl hk
                | succ i => exact .inr (ih (by simpa using h) k hk)
            exact this hc x hx
          have hb1n : zcm v ∉ zd9 ks := fun h => hn2.2.2 _ (by rw [hbl]; simp) _ h rfl
          refine ⟨⟨hu.row h4.1.1, ?_⟩, fun hs => ?_⟩
          · refine zxg hu h4.1.2 hc (i3.trans hsrt) (by rw [Nat.zero_add]; exact i1) i2 (fun x hx e => ?_) hn2.2.1 (fun e => ?_)
            · rcases hin with e2 | h
              · exact absurd (by rw [← e2, ← e]; exact hx) hb1n
              · rw [e]; exact h
            · rw [Nat.zero_add]
              obtain ⟨e1, e2⟩ := hoff e
              exact ⟨e1, by rw [e2, hsrt]⟩
          · subst hs
            obtain ⟨m1, m2⟩ := h4.2 rfl
            have hno : ∀ x ∈ zdt u ps.length ++ zd9 ps, x ≠ b' := fun x hx e => by
              subst e
              refine hn1.2.2 x ?_ x hx rfl
              rcases hin with e2 | h
              · rw [e2, hbl]; simp
              · simp [hmem _ h]
            refine ⟨hu.row m1, zf4 (fun hne => hu.other _ fun e => ?_) (fun x hx => hu.other x fun e => hno x (by simp [hx]) e) m2⟩
            exact hno _ (by cases ps with | nil => exact absurd rfl hne | cons => simp [zdt]) e
        | true =>
          cases s with
          | false => simp [zfr] at hk
          | true =>
            simp only [zfr, Option.map_eq_some_iff, Prod.mk.injEq] at hk
            obtain ⟨c', hc, rfl, rfl, rfl⟩ := hk
            simp only [zyl, anW, List.length_set]
            have hn1 := List.nodup_append.1 hnd
            have hn2 := List.nodup_append.1 hn1.2.1
            have hbl : zdt u ps.length = [zcm u] := by cases ps with | nil => simp at hc | cons => rfl
            obtain ⟨m1, m2⟩ := h4.2 rfl
            have hsrt : zc1 c' = false := (zdl m2 hc).1
            have hmem : ∀ x ∈ anB c', x ∈ zd9 ps := fun x hx => by
              have : ∀ {l : List An} {i : Nat}, l[i]? = some c' → ∀ k ∈ anB c', k ∈ zd9 l := by
                intro l
                induction l with
                | nil => intro i h; simp at h
                | cons y r ih =>
                  intro i h k hk
                  simp only [zd9, List.mem_append]
                  cases i with
                  | zero => simp at h; subst h; exact .inl hk
                  | succ i => exact .inr (ih (by simpa using h) k hk)
              exact this hc x hx
            have hb1n : zcm u ∉ zd9 ps := fun h => hn2.2.2 _ (by rw [hbl]; simp) _ h rfl
            have hno : ∀ x ∈ zdt v ks.length ++ zd9 ks, x ≠ b' := fun x hx e => by
              subst e
              refine hn1.2.2 x hx x ?_ rfl
              rcases hin with e2 | h
              · rw [e2, hbl]; simp
              · simp [hmem _ h]
            refine ⟨⟨hu.row h4.1.1, zf4 (fun hne => hu.other _ fun e => hno _ (by cases ks with | nil => exact absurd rfl hne | cons => simp [zdt]) e) (fun x hx => hu.other x fun e => hno x (by simp [hx]) e) h4.1.2⟩, fun _ => ⟨hu.row m1, ?_⟩⟩
            refine zxg hu m2 hc (i3.trans hsrt) (by rw [Nat.zero_add]; exact i1) i2 (fun x hx e => ?_) hn2.2.1 (fun e => ?_)
            · rcases hin with e2 | h
              · exact absurd (by rw [← e2, ← e]; exact hx) hb1n
              · rw [e]; exact h
            · rw [Nat.zero_add]
              obtain ⟨e1, e2⟩ := hoff e
              exact ⟨e1, by rw [e2, hsrt]⟩
      · rcases a with ⟨s, o, n, x, v, ks, u, ps⟩ | ⟨s0, cs0, c0⟩
        case im => rfl
        obtain ⟨rr, k⟩ := q
        cases rr <;> rfl
    · cases h
def zz7 (l : List Int) : List (List V) := l.map fun x => [.int .i64 x]
@[simp] theorem dInts_length (l : List Int) : (zz7 l).length = l.length := by simp [zz7]
def zTm : Tm := .mk 0 0 [] [] []
def yqb : Tm → Int → Option Tm
  | .mk _ _ _ ks _, k => if 0 ≤ k then ks[k.toNat]? else none
def zg3 : Tm → List Int → Option Tm
  | t, [] => some t
  | t, k :: r => match yqb t k with
    | some c => zg3 c r
    | none => none
set_option maxRecDepth 100000 in
set_option maxHeartbeats 1000000 in
theorem yng (t : Tm) (path : List Int) (hw : zi2 t) : zau Tryz.prog 54 [.agg (dTmc t), .sl (zz7 path)] (.tup [.agg (dTmc ((zg3 t path).getD zTm)), .bool (zg3 t path).isSome]) := by
  refine zaf zaw Tryz.func54 (by decide +kernel) rfl [1, 2, 3, 4] rfl rfl ?_
  refine qg [] rfl (by simp) ?_
  refine zah (fun y : Tm × List Int => [(2, .ref 1 0), (4, .ref 2 0), (1, .imm (.sl (zz7 y.2))), (5, .imm (.bool false))])
    (fun y => [(1, some (.immb 26 5 (dTmc y.1))), (2, some (.cells 26 5 [.imm (.int .i64 0), .imm (.int .i64 0), .imm (.str []), .nils, .nils]))]) [3, 4] (fun y => y.2.length) (fun y => zg3 y.1 y.2 = zg3 t path ∧ zi2 y.1) (t, path)
    ⟨rfl, hw⟩ ⟨rfl, rfl, rfl, rfl, trivial⟩ ⟨rfl, rfl, trivial⟩ rfl fun y hi ih => ?_
  obtain ⟨t1, p1⟩ := y
  obtain ⟨hi1, hi2⟩ := hi
  simp only at hi1 hi2
  refine qd [] rfl (by simp) ?_
  refine zaa rfl (fun h => ?_) (fun h => ?_)
  · simp at h
    cases p1 with
    | nil => simp at h
    | cons p r =>
      obtain ⟨o, n, x, ks, ps⟩ := t1
      have hks := hi2.1
      refine qd [] rfl (by simp) ?_
      refine zah (fun i : Nat => [(14, .imm (.int .i64 i)), (13, .imm (.int .i64 ks.length)), (12, .imm (.sl (zcy ks))), (2, .ref 1 0), (4, .ref 2 0), (1, .imm (.sl (zz7 (p :: r)))), (5, .imm (.bool false))])
        (fun _ => [(1, some (.immb 26 5 (dTmc (.mk o n x ks ps)))), (2, some (.cells 26 5 [.imm (.int .i64 0), .imm (.int .i64 0), .imm (.str []), .nils, .nils]))]) [3, 4] (fun i => ks.length - i) (fun i => i ≤ ks.length ∧ ∀ j : Nat, j < i → (j : Int) ≠ p) 0
        ⟨Nat.zero_le _, fun j h => by omega⟩ ⟨rfl, zcn (by simp), rfl, rfl, rfl, rfl, rfl, trivial⟩ ⟨rfl, rfl, trivial⟩ rfl fun i hj ih2 => ?_
      obtain ⟨hj1, hj2⟩ := hj
      refine qd [] rfl (by simp) ?_
      refine zaa rfl (fun h => ?_) (fun h => ?_)
      · simp at h
        obtain ⟨k, hk⟩ := zal h
        refine qd [] rfl (by simp) ?_
        refine qi_ rfl (c := dTmc k) (fun _ => ⟨by simp, by simpa using zbu hk, by simp⟩) (by simp) ?_
        refine qg [] rfl (by simp) ?_
        refine qi_ rfl (c := [.int .i64 p]) (fun _ => ⟨by simp, by simp [zz7], rfl⟩) (by simp) ?_
        refine qg [] rfl (by simp) ?_
        refine zaa rfl (fun h2 => ?_) (fun h2 => ?_)
        · have e : (i : Int) = p := by simpa using h2
          subst e
          refine qd [] rfl (by refine ⟨rfl, ?_⟩; simp [zb7, zz7] <;> omega) ?_
          have hkid : yqb (.mk o n x ks ps) (i : Int) = some k := by simp [yqb, hk]
          refine zae (ih (k, r) (by simp) ⟨?_, zf6 hi2.2.2.2 (List.mem_of_getElem? hk)⟩) ⟨rfl, rfl, rfl, rfl, trivial⟩ ⟨rfl, rfl, trivial⟩ rfl
          rw [← hi1]
          simp only [zg3, hkid]
        · have e : (i : Int) ≠ p := by simpa using h2
          refine qd [] rfl (by simp) ?_
          exact zae (ih2 (i + 1) (by omega) ⟨by omega, fun j hlt => by
            by_cases hji : j = i
            · rw [hji]; exact e
            · exact hj2 j (by omega)⟩) ⟨zcn (w64 (by omega) (by omega)), rfl, rfl, rfl, rfl, rfl, rfl, trivial⟩ ⟨rfl, rfl, trivial⟩ rfl
      · simp at h
        refine zar rfl ?_
        refine qd [] rfl (by simp) ?_
        have hkid : yqb (.mk o n x ks ps) p = none := by
          simp only [yqb]
          by_cases h0 : 0 ≤ p
          · rw [if_pos h0]
            rw [List.getElem?_eq_none_iff]
            by_cases hlt : p.toNat < ks.length
            · exact absurd (by omega) (hj2 p.toNat (by omega))
            · omega
          · rw [if_neg h0]
        have e : zg3 t path = none := by rw [← hi1]; simp only [zg3, hkid]
        rw [e]
        exact zab ⟨_, rfl, rfl, trivial⟩
  · simp at h
    have hp : p1 = [] := by
      cases p1 with
      | nil => rfl
      | cons => simp at h
    subst hp
    refine zar rfl ?_
    refine qd [] rfl (by simp) ?_
    have e : zg3 t path = some t1 := by rw [← hi1]; rfl
    rw [e]
    exact zab ⟨_, rfl, tV rfl, trivial⟩
mutual
theorem zpx : ∀ p : Ty, za0 p ≤ 1000000 → zl2 p
  | .mk s n x ps, h => by
    simp only [za0] at h
    have h1 := zxw ps (by omega)
    exact ⟨by have := h1.1; omega, h1.2⟩
theorem zxw : ∀ l : List Ty, zam l ≤ 1000000 → l.length ≤ zam l ∧ zt2 l
  | [], _ => ⟨by simp [zam], trivial⟩
  | p :: r, h => by
    simp only [zam] at h
    have h1 := zpx p (by omega)
    have h2 := zxw r (by omega)
    have h3 : 1 ≤ za0 p := by obtain ⟨_, _, _, _⟩ := p; simp only [za0]; omega
    exact ⟨by have := h2.1; simp only [List.length_cons, zam]; omega, h1, h2.2⟩
end
theorem zru {op n : Int} {x : Str} {k p : Nat} (h : za9 op n x k p = true) : p ≤ 5 := by
  have sp : ∀ {n : Int} {x : Str} {p : Nat} {a b : Bool}, zbj n x p a b false = true → p ≤ 5 := by
    intro n x p a b h
    simp only [zbj, Bool.false_or, Bool.and_eq_true, beq_iff_eq] at h
    have := h.2
    omega
  unfold za9 at h
  by_cases h15 : op = 15
  · subst h15
    simp [inI] at h
    omega
  · by_cases e0 : op = 1
    · rw [if_pos e0] at h; simp only [Bool.and_eq_true] at h; first | exact sp h.2 | exact sp h.1.2
    rw [if_neg e0] at h
    by_cases e1 : op = 2
    · rw [if_pos e1] at h; simp only [Bool.and_eq_true] at h; first | exact sp h.2 | exact sp h.1.2
    rw [if_neg e1] at h
    by_cases e2 : op = 3 ∨ op = 21 ∨ op = 25 ∨ op = 28
    · rw [if_pos e2] at h; simp only [Bool.and_eq_true] at h; first | exact sp h.2 | exact sp h.1.2
    rw [if_neg e2] at h
    by_cases e3 : op = 4
    · rw [if_pos e3] at h; simp only [Bool.and_eq_true] at h; first | exact sp h.2 | exact sp h.1.2
    rw [if_neg e3] at h
    by_cases e4 : op = 5 ∨ op = 27
    · rw [if_pos e4] at h; simp only [Bool.and_eq_true] at h; first | exact sp h.2 | exact sp h.1.2
    rw [if_neg e4] at h
    by_cases e5 : op = 7
    · rw [if_pos e5] at h; simp only [Bool.and_eq_true] at h; first | exact sp h.2 | exact sp h.1.2
    rw [if_neg e5] at h
    by_cases e6 : op = 8
    · rw [if_pos e6] at h; simp only [Bool.and_eq_true] at h; first | exact sp h.2 | exact sp h.1.2
    rw [if_neg e6] at h
    by_cases e7 : op = 14
    · rw [if_pos e7] at h; simp only [Bool.and_eq_true] at h; first | exact sp h.2 | exact sp h.1.2
    rw [if_neg e7] at h
    rw [if_neg h15] at h
    by_cases e9 : op = 16 ∨ op = 17 ∨ op = 19 ∨ op = 20 ∨ op = 23 ∨ op = 26
    · rw [if_pos e9] at h; simp only [Bool.and_eq_true] at h; first | exact sp h.2 | exact sp h.1.2
    rw [if_neg e9] at h
    by_cases e10 : op = 24
    · rw [if_pos e10] at h; simp only [Bool.and_eq_true] at h; first | exact sp h.2 | exact sp h.1.2
    rw [if_neg e10] at h
    by_cases e11 : op = 6 ∨ op = 9 ∨ op = 10 ∨ op = 11 ∨ op = 12 ∨ op = 13 ∨ op = 18 ∨ op = 22
    · rw [if_pos e11] at h; simp only [Bool.and_eq_true] at h; first | exact sp h.2 | exact sp h.1.2
    rw [if_neg e11] at h
    cases h
mutual
theorem zv3 : ∀ t : Tm, zak t = true → zcp t ≤ 1000000 → zi2 t
  | .mk op n x ks ps, h, hc => by
    simp only [zak, Bool.and_eq_true] at h
    obtain ⟨⟨h1, h2⟩, h3⟩ := h
    simp only [zcp] at hc
    have hl := zsd ks
    have hp := zru h1
    refine ⟨by omega, by omega, fun p hp => ?_, yco ks h3 (by omega)⟩
    have := zrm (List.all_eq_true.1 h2 p hp)
    exact zpx p (by omega)
theorem yco : ∀ ts : List Tm, zaq ts = true → zco ts ≤ 1000000 → zqq ts
  | [], _, _ => trivial
  | t :: r, h, hc => by
    simp only [zaq, Bool.and_eq_true] at h
    simp only [zco] at hc
    exact ⟨zv3 t h.1 (by omega), yco r h.2 (by omega)⟩
end
theorem yni {t c : Tm} {k : Int} (h : yqb t k = some c) : ∃ o n x ks ps, t = .mk o n x ks ps ∧ c ∈ ks := by
  obtain ⟨o, n, x, ks, ps⟩ := t
  refine ⟨o, n, x, ks, ps, rfl, ?_⟩
  simp only [yqb] at h
  split at h
  · exact List.mem_of_getElem? h
  · cases h
theorem zo5 : ∀ {ts : List Tm} {t : Tm}, zaq ts = true → t ∈ ts → zak t = true
  | [], _, _, h => by cases h
  | x :: r, t, hn, h => by
    simp only [zaq, Bool.and_eq_true] at hn
    rcases List.mem_cons.1 h with rfl | h
    · exact hn.1
    · exact zo5 hn.2 h
theorem zu5 : ∀ {path : List Int} {t r : Tm}, zg3 t path = some r → zak t = true → zak r = true ∧ zcp r ≤ zcp t
  | [], t, r, h, hn => by
    simp only [zg3, Option.some.injEq] at h
    subst h
    exact ⟨hn, Nat.le_refl _⟩
  | k :: p, t, r, h, hn => by
    simp only [zg3] at h
    split at h
    · rename_i c hk
      obtain ⟨o, n, x, ks, ps, rfl, hm⟩ := yni hk
      simp only [zak, Bool.and_eq_true] at hn
      have h1 := zu5 h (zo5 hn.2 hm)
      have h2 := zm9 hm
      exact ⟨h1.1, by simp only [zcp]; omega⟩
    · cases h
theorem zfa {t : Tm} (h : zbc t = true) : zi2 t := by
  obtain ⟨_, _, _, h4⟩ := zc0 t h
  simp only [zbc, Bool.and_eq_true] at h
  exact zv3 t h.2 (by omega)
mutual
def yap : Ty → Ty → Bool
  | .mk s n x ps, .mk s' n' x' ps' => s == s' && n == n' && x == x' && zfn ps ps'
def zfn : List Ty → List Ty → Bool
  | [], [] => true
  | a :: r, b :: q => yap a b && zfn r q
  | _, _ => false
end
mutual
theorem ynz : ∀ a b : Ty, yap a b = true ↔ a = b
  | .mk s n x ps, .mk s' n' x' ps' => by
    simp only [yap, Bool.and_eq_true, beq_iff_eq, Ty.mk.injEq, zm3 ps ps', and_assoc]
theorem zm3 : ∀ a b : List Ty, zfn a b = true ↔ a = b
  | [], [] => by simp [zfn]
  | a :: r, b :: q => by simp only [zfn, Bool.and_eq_true, ynz a b, zm3 r q, List.cons.injEq]
  | [], _ :: _ => by simp [zfn]
  | _ :: _, [] => by simp [zfn]
end
mutual
def ztw : Tm → Tm → Bool
  | .mk o n x ks ps, .mk o' n' x' ks' ps' => o == o' && n == n' && x == x' && zfn ps ps' && zii ks ks'
def zii : List Tm → List Tm → Bool
  | [], [] => true
  | a :: r, b :: q => ztw a b && zii r q
  | _, _ => false
end
mutual
theorem zqk : ∀ a b : Tm, ztw a b = true ↔ a = b
  | .mk o n x ks ps, .mk o' n' x' ks' ps' => by
    simp only [ztw, Bool.and_eq_true, beq_iff_eq, Tm.mk.injEq, zm3 ps ps', zsy ks ks', and_assoc]
    constructor
    · rintro ⟨a, b, c, d, e⟩; exact ⟨a, b, c, e, d⟩
    · rintro ⟨a, b, c, d, e⟩; exact ⟨a, b, c, e, d⟩
theorem zsy : ∀ a b : List Tm, zii a b = true ↔ a = b
  | [], [] => by simp [zii]
  | a :: r, b :: q => by simp only [zii, Bool.and_eq_true, zqk a b, zsy r q, List.cons.injEq]
  | [], _ :: _ => by simp [zii]
  | _ :: _, [] => by simp [zii]
end
theorem zsx {a b : List Ty} (h : a.length ≠ b.length) : zfn a b = false := by
  cases he : zfn a b with
  | false => rfl
  | true => exact absurd (congrArg List.length ((zm3 a b).1 he)) h
theorem zz0 {a b : List Tm} (h : a.length ≠ b.length) : zii a b = false := by
  cases he : zii a b with
  | false => rfl
  | true => exact absurd (congrArg List.length ((zsy a b).1 he)) h
set_option maxRecDepth 100000 in
theorem zvz : ∀ a b : Ty, zl2 a → zau Tryz.prog 46 [.agg (zb0 a), .agg (zb0 b)] (.bool (yap a b))
  | .mk s n x ps, .mk s' n' x' qs, hw => by
    obtain ⟨hw1, hw2⟩ := hw
    refine zaf zaw Tryz.func46 (by decide +kernel) rfl [1, 2, 3] rfl rfl ?_
    refine qg [] rfl (by simp [zag]) ?_
    refine zaa rfl (fun h => ?_) (fun h => ?_)
    · refine qd [] rfl (by simp) ?_
      refine zab ⟨_, rfl, tV (congrArg _ ?_), trivial⟩
      symm
      simp only [yap]
      by_cases hl : ps.length = qs.length
      · simp [hl] at h
        cases he : zfn ps qs <;> grind
      · rw [zsx hl, Bool.and_false]
    have hl : s = s' ∧ n = n' ∧ x = x' ∧ ps.length = qs.length := by
      simp at h
      grind
    obtain ⟨rfl, rfl, rfl, hl⟩ := hl
    refine qd [] rfl (by simp) ?_
    refine zah (fun i : Nat => [(5, .imm (.int .i64 i)), (2, .ref 1 0), (3, .ref 2 0)]) (fun _ => [(1, some (.immb 58 4 (zb0 (.mk s n x ps)))), (2, some (.immb 58 4 (zb0 (.mk s n x qs))))]) [3] (fun i => ps.length - i) (fun i => i ≤ ps.length ∧ zfn ps qs = zfn (ps.drop i) (qs.drop i)) 0
      ⟨Nat.zero_le _, rfl⟩ ⟨rfl, rfl, rfl, trivial⟩ ⟨rfl, rfl, trivial⟩ rfl fun i hi ih => ?_
    obtain ⟨hi1, hi2⟩ := hi
    refine qd [] rfl (by simp) ?_
    refine zaa rfl (fun h1 => ?_) (fun h1 => ?_)
    · simp at h1
      obtain ⟨p, hp⟩ := zal h1
      obtain ⟨q, hq⟩ := zal (l := qs) (i := i) (by omega)
      rw [zap hp, zap hq] at hi2
      simp only [zfn] at hi2
      refine qd [] rfl (by simp) ?_
      refine qi_ rfl (c := zb0 p) (fun _ => ⟨by simp, by simpa using zb6 hp, by simp⟩) (by simp) ?_
      refine qg [] rfl (by simp) ?_
      refine qi_ rfl (c := zb0 q) (fun _ => ⟨by simp, by simpa using zb6 hq, by simp⟩) (by simp) ?_
      refine qg [] rfl (by simp) ?_
      refine zac rfl (fun _ => zvz p q (zf7 hw2 (List.mem_of_getElem? hp))) (by simp) ?_
      refine qg [] rfl (by simp; rfl) ?_
      refine zaa rfl (fun h2 => ?_) (fun h2 => ?_)
      · refine qd [] rfl (by simp) ?_
        refine zab ⟨_, rfl, tV (congrArg _ ?_), trivial⟩
        have : yap p q = false := by simpa using h2
        simp [yap, hi2, this]
      · refine qd [] rfl (by simp) ?_
        have : yap p q = true := by simpa using h2
        rw [this, Bool.true_and] at hi2
        exact zae (ih (i + 1) (by omega) ⟨by omega, hi2⟩) ⟨zcn (w64 (by omega) (by omega)), rfl, rfl, trivial⟩ ⟨rfl, rfl, trivial⟩ rfl
    · simp at h1
      rw [List.drop_eq_nil_of_le (by omega), List.drop_eq_nil_of_le (by omega)] at hi2
      refine zar rfl ?_
      refine qd [] rfl (by simp) ?_
      refine zab ⟨_, rfl, tV (congrArg _ ?_), trivial⟩
      simp [yap, hi2, zfn]
termination_by a => SizeOf.sizeOf a
decreasing_by
  all_goals
    have := List.sizeOf_lt_of_mem (List.mem_of_getElem? hp)
    simp_wf
    omega
set_option maxRecDepth 100000 in
set_option maxHeartbeats 1000000 in
theorem zxn : ∀ a b : Tm, zi2 a → zau Tryz.prog 14 [.agg (dTmc a), .agg (dTmc b)] (.bool (ztw a b))
  | .mk s n x ks ps, .mk s' n' x' js qs, hw => by
    obtain ⟨hw1, hw2, hw3, hw4⟩ := hw
    refine zaf zaw Tryz.func14 (by decide +kernel) rfl [1, 2, 3] rfl rfl ?_
    refine qg [] rfl (by simp [zag]) ?_
    refine zaa rfl (fun h => ?_) (fun h => ?_)
    · refine qd [] rfl (by simp) ?_
      refine zab ⟨_, rfl, tV (congrArg _ ?_), trivial⟩
      symm
      simp only [ztw]
      by_cases hl : ps.length = qs.length
      · by_cases hk : ks.length = js.length
        · simp [hl, hk] at h
          cases he : zfn ps qs <;> cases he2 : zii ks js <;> grind
        · rw [zz0 hk, Bool.and_false]
      · rw [zsx hl, Bool.and_false, Bool.false_and]
    have hl : s = s' ∧ n = n' ∧ x = x' ∧ ks.length = js.length ∧ ps.length = qs.length := by
      simp at h
      grind
    clear h
    obtain ⟨rfl, rfl, rfl, hk, hl⟩ := hl
    refine qd [] rfl (by simp) ?_
    refine zah (fun i : Nat => [(5, .imm (.int .i64 i)), (2, .ref 1 0), (3, .ref 2 0)]) (fun _ => [(1, some (.immb 26 5 (dTmc (.mk s n x ks ps)))), (2, some (.immb 26 5 (dTmc (.mk s n x js qs))))]) [3] (fun i => ps.length - i) (fun i => i ≤ ps.length ∧ zfn ps qs = zfn (ps.drop i) (qs.drop i)) 0
      ⟨Nat.zero_le _, rfl⟩ ⟨rfl, rfl, rfl, trivial⟩ ⟨rfl, rfl, trivial⟩ rfl fun i hi ih => ?_
    obtain ⟨hi1, hi2⟩ := hi
    refine qd [] rfl (by simp) ?_
    refine zaa rfl (fun h1 => ?_) (fun h1 => ?_)
    · simp at h1
      obtain ⟨p, hp⟩ := zal h1
      obtain ⟨q, hq⟩ := zal (l := qs) (i := i) (by omega)
      rw [zap hp, zap hq] at hi2
      simp only [zfn] at hi2
      refine qd [] rfl (by simp) ?_
      refine qi_ rfl (c := zb0 p) (fun _ => ⟨by simp, by simpa using zb6 hp, by simp⟩) (by simp) ?_
      refine qg [] rfl (by simp) ?_
      refine qi_ rfl (c := zb0 q) (fun _ => ⟨by simp, by simpa using zb6 hq, by simp⟩) (by simp) ?_
      refine qg [] rfl (by simp) ?_
      refine zac rfl (fun _ => zvz p q (hw3 _ (List.mem_of_getElem? hp))) (by simp) ?_
      refine qg [] rfl (by simp; rfl) ?_
      refine zaa rfl (fun h2 => ?_) (fun h2 => ?_)
      · refine qd [] rfl (by simp) ?_
        refine zab ⟨_, rfl, tV (congrArg _ ?_), trivial⟩
        have : yap p q = false := by simpa using h2
        simp [ztw, hi2, this]
      · refine qd [] rfl (by simp) ?_
        have : yap p q = true := by simpa using h2
        rw [this, Bool.true_and] at hi2
        exact zae (ih (i + 1) (by omega) ⟨by omega, hi2⟩) ⟨zcn (w64 (by omega) (by omega)), rfl, rfl, trivial⟩ ⟨rfl, rfl, trivial⟩ rfl
    simp at h1
    rw [List.drop_eq_nil_of_le (by omega), List.drop_eq_nil_of_le (by omega)] at hi2
    clear ih
    refine zar rfl ?_
    refine qd [] rfl (by simp) ?_
    refine zah (fun i : Nat => [(6, .imm (.int .i64 i)), (2, .ref 1 0), (3, .ref 2 0)]) (fun _ => [(1, some (.immb 26 5 (dTmc (.mk s n x ks ps)))), (2, some (.immb 26 5 (dTmc (.mk s n x js qs))))]) [3] (fun i => ks.length - i) (fun i => i ≤ ks.length ∧ zii ks js = zii (ks.drop i) (js.drop i)) 0
      ⟨Nat.zero_le _, rfl⟩ ⟨rfl, rfl, rfl, trivial⟩ ⟨rfl, rfl, trivial⟩ rfl fun i hj ih => ?_
    obtain ⟨hj1, hj2⟩ := hj
    refine qd [] rfl (by simp) ?_
    refine zaa rfl (fun h1 => ?_) (fun h1 => ?_)
    · simp at h1
      obtain ⟨p, hp⟩ := zal h1
      obtain ⟨q, hq⟩ := zal (l := js) (i := i) (by omega)
      rw [zap hp, zap hq] at hj2
      simp only [zii] at hj2
      refine qd [] rfl (by simp) ?_
      refine qi_ rfl (c := dTmc p) (fun _ => ⟨by simp, by simpa using zbu hp, by simp⟩) (by simp) ?_
      refine qg [] rfl (by simp) ?_
      refine qi_ rfl (c := dTmc q) (fun _ => ⟨by simp, by simpa using zbu hq, by simp⟩) (by simp) ?_
      refine qg [] rfl (by simp) ?_
      refine zac rfl (fun _ => zxn p q (zf6 hw4 (List.mem_of_getElem? hp))) (by simp) ?_
      refine qg [] rfl (by simp; rfl) ?_
      refine zaa rfl (fun h2 => ?_) (fun h2 => ?_)
      · refine qd [] rfl (by simp) ?_
        refine zab ⟨_, rfl, tV (congrArg _ ?_), trivial⟩
        have : ztw p q = false := by simpa using h2
        simp [ztw, hj2, this]
      · refine qd [] rfl (by simp) ?_
        have : ztw p q = true := by simpa using h2
        rw [this, Bool.true_and] at hj2
        exact zae (ih (i + 1) (by omega) ⟨by omega, hj2⟩) ⟨zcn (w64 (by omega) (by omega)), rfl, rfl, trivial⟩ ⟨rfl, rfl, trivial⟩ rfl
    · simp at h1
      rw [List.drop_eq_nil_of_le (by omega), List.drop_eq_nil_of_le (by omega)] at hj2
      refine zar rfl ?_
      refine qd [] rfl (by simp) ?_
      refine zab ⟨_, rfl, tV (congrArg _ ?_), trivial⟩
      simp [ztw, hi2, hj2, zfn, zii]
termination_by a => SizeOf.sizeOf a
decreasing_by
  all_goals
    have := List.sizeOf_lt_of_mem (List.mem_of_getElem? hp)
    simp_wf
    omega
set_option maxRecDepth 100000 in
theorem yjo (t : Tm) (hw : zi2 t) : zau Tryz.prog 12 [.agg (dTmc t)] (.bool (ztw t zTm)) := by
  refine zaf zaw Tryz.func12 (by decide +kernel) rfl [1, 2] rfl rfl ?_
  refine qg [] rfl (by simp) ?_
  refine zac rfl (fun _ => zxn t zTm hw) (by simp) ?_
  refine qg [] rfl (by simp) ?_
  exact zab ⟨_, rfl, tV rfl, trivial⟩
theorem zj0 {vs : List Value} {I : Imm} {w : World} {bs : List Nat} {o n : Int} {x : Str} {ks : List Tm} {ps : List Ty} (h : (zxp true (dTmc (.mk o n x ks ps))).P vs I w bs) :
    ∃ y : { y : Value × List An × Value × List An // (vAs y.2.1 = zcy ks ∧ vAs y.2.2.2 = zb8 ps) ∧ zc6 y.2.1 ∧ zc6 y.2.2.2 }, vs = [y.1.1, y.1.2.2.1] ∧ (yaq (.mk true o n x y.1.1 y.1.2.1 y.1.2.2.1 y.1.2.2.2)).P [] I w bs := by
  obtain ⟨o', n', x', v, js, u, qs, ⟨h2, hf⟩, h3, h4⟩ := h
  simp only [vA, dTmc, List.cons.injEq, V.int.injEq, V.str.injEq, V.sl.injEq, true_and, and_true] at h2
  obtain ⟨rfl, rfl, rfl, h5, h6⟩ := h2
  exact ⟨⟨(v, js, u, qs), ⟨h5, h6⟩, hf⟩, h3, h4⟩
theorem zv8 {o n : Int} {x : Str} {v u : Value} {js qs : List An} {ks : List Tm} {ps : List Ty} (h5 : vAs js = zcy ks) (h6 : vAs qs = zb8 ps) {vs : List Value} {I J : Imm} {w : World} {bs : List Nat}
    (h : (yaq (.mk true o n x v js u qs)).P vs I w bs) (hIJ : I.le J) (hJ : ∀ b ∈ bs, J b = w.heap[b]?) (cs : List Value) (hc : RepL J noMu cs [.imm (.int .i64 o), .imm (.int .i64 n), .imm (.str x), .raw v, .raw u]) : RepVL J cs (dTmc (.mk o n x ks ps)) := by
  obtain ⟨h1, _, h3⟩ := h
  have hf := zvw hIJ h3 (fun k hk => hJ k (by rw [h1]; exact hk))
  have e : cs = cA (.mk true o n x v js u qs) := by
    have hl := hc.1
    match cs, hl with
    | [c0, c1, c2, c3, c4], _ =>
      have e0 := (hc.2 0 _ _ rfl rfl).immInv.intInv
      have e1 := (hc.2 1 _ _ rfl rfl).immInv.intInv
      have e2 := (hc.2 2 _ _ rfl rfl).immInv.strEq
      have e3 := (hc.2 3 _ _ rfl rfl).rawInv
      have e4 := (hc.2 4 _ _ rfl rfl).rawInv
      rw [e0, e1, e2, e3, e4]; rfl
  rw [e]
  simpa [vA, dTmc, h5, h6] using hf
def atR (t : Tm) (path : List Int) : Tm × Int := bif zbc t then (match zg3 t path with | some r => (r, 0) | none => (zTm, 2)) else (zTm, 2)
set_option maxRecDepth 100000 in
theorem At_ok (t : Tm) (path : List Int) (h : zeg t = zbc t) : zau Tryz.prog 30 [.agg (dTmc t), .sl (zz7 path)] (.tup [.agg (dTmc (atR t path).1), .int .i64 (atR t path).2]) := by
  refine zaf zaw Tryz.func30 (by decide +kernel) rfl [1, 2, 3, 4, 5] rfl rfl ?_
  refine qg [] rfl (by simp) ?_
  refine zac rfl (fun _ => zf5 t) (by simp) ?_
  rw [h]
  cases ht : zbc t with
  | false =>
    refine qg [] rfl (by simp) ?_
    refine zaa rfl (fun h => ?_) (fun h => by simp [yb1] at h)
    refine qd [] rfl (by simp) ?_
    have e : atR t path = (zTm, 2) := by simp [atR, ht]
    rw [e]
    exact zab ⟨_, rfl, tV rfl, trivial⟩
  | true =>
    have hw := zfa ht
    refine qg [] rfl (by simp) ?_
    refine zaa rfl (fun h => by simp [yb1] at h) (fun h => ?_)
    refine qd [] rfl (by simp) ?_
    refine zac rfl (fun _ => yng t path hw) (by simp) ?_
    cases hl : zg3 t path with
    | none =>
      refine qg [] rfl (by simp) ?_
      refine zaa rfl (fun h => ?_) (fun h => by simp at h)
      refine qd [] rfl (by simp) ?_
      have e : atR t path = (zTm, 2) := by simp [atR, ht, hl]
      rw [e]
      exact zab ⟨_, rfl, tV rfl, trivial⟩
    | some r =>
      have hr : zak r = true ∧ zcp r ≤ zcp t := zu5 hl (by simp only [zbc, Bool.and_eq_true] at ht; exact ht.2)
      have hc := (zc0 t ht).2.2.2
      have hwr := zv3 r hr.1 (by omega)
      have e : atR t path = (r, 0) := by simp [atR, ht, hl]
      rw [e]
      obtain ⟨o, n, x, ks, ps⟩ := r
      refine qg [] rfl (by simp) ?_
      refine zaa rfl (fun h => by simp at h) (fun h => ?_)
      refine qd [] rfl (by simp) ?_
      refine zas (fr := [4]) [] [(1, 4)] rfl (by simp) (zht (.mk o n x ks ps) hwr) trivial rfl rfl rfl rfl ?_
      refine qg [] rfl (by simp) ?_
      refine zg8 (ids' := []) 4 5 (fun y : { y : Value × List An × Value × List An // (vAs y.2.1 = zcy ks ∧ vAs y.2.2.2 = zb8 ps) ∧ zc6 y.2.1 ∧ zc6 y.2.2.2 } => [y.1.1, y.1.2.2.1]) (fun y => yaq (.mk true o n x y.1.1 y.1.2.1 y.1.2.2.1 y.1.2.2.2)) rfl (fun vs I w bs h => zj0 h) fun y => ?_
      obtain ⟨⟨v, js, u, qs⟩, ⟨h5, h6⟩, hf1, hf2⟩ := y
      refine zfo 5 2 (dTmc (.mk o n x ks ps)) rfl rfl (fun vs I J w bs h1 h2 h3 cs hc => zv8 h5 h6 h1 h2 h3 cs hc) rfl ?_
      exact zab ⟨_, rfl, tV rfl, trivial⟩
theorem zm6 (l : List Tm) (i : Nat) (t : Tm) : zcy (l.set i t) = (zcy l).set i (dTmc t) := by simp [ze2, List.map_set]
def ziz (b : Nat) (a : An) : Asn where
  P := fun _ I w bs => bs = b :: anB a ∧ bs.Nodup ∧ zc1 a = true ∧ (∃ cur, w.heap[b]? = some (.cells cur 26 (0, 0)) ∧ cur.size = 5) ∧ atW w b 0 (cA a) ∧ anW I w a
  mono := fun h ⟨h1, h2, h3, h4, h5, h6⟩ => ⟨h1, h2, h3, h4, h5, zxi h h6⟩
  loc := fun h ⟨h1, h2, h3, ⟨cur, h4, h5⟩, h6, h7⟩ => ⟨h1, h2, h3, ⟨cur, (h b (by simp [h1])).trans h4, h5⟩, ztj (h b (by simp [h1])) h6, zj5 (fun k hk => h k (by simp [h1, hk])) h7⟩
theorem yat {l : List An} {i : Nat} {a : An} (h : l[i]? = some a) : (vAs l)[i]? = some (vA a) := by simp [zg1, h]
theorem zo4 : ∀ {l : List Tm} {i : Nat} {c : Tm}, zaq l = true → zak c = true → zaq (l.set i c) = true
  | [], i, c, h, _ => h
  | t :: r, 0, c, h, hc => by
    simp only [zaq, Bool.and_eq_true, List.set_cons_zero] at h ⊢
    exact ⟨hc, h.2⟩
  | t :: r, i + 1, c, h, hc => by
    simp only [zaq, Bool.and_eq_true, List.set_cons_succ] at h ⊢
    exact ⟨h.1, zo4 h.2 hc⟩
mutual
theorem zux : ∀ t : Tm, zak t = true → zgq t = true
  | .mk op n x ks ps, h => by
    simp only [zak, Bool.and_eq_true] at h
    have := zru h.1.1
    simp only [zgq, yds op n x ks.length ps (by omega), Bool.and_eq_true]
    exact ⟨h.1, zrs ks h.2⟩
theorem zrs : ∀ ts : List Tm, zaq ts = true → zez ts = true
  | [], _ => rfl
  | t :: r, h => by
    simp only [zaq, Bool.and_eq_true] at h
    simp only [zez, Bool.and_eq_true]
    exact ⟨zux t h.1, zrs r h.2⟩
end
theorem zs9 {t : Tm} (h : zak t = true) : zeg t = zbc t := by
  simp only [zeg, zbc, h, zux t h]
mutual
theorem zt6 : ∀ (t : Tm) (l d : Int), (0 ≤ za8 t l d ↔ (zcp t : Int) ≤ l ∧ (dpT t : Int) ≤ d) ∧ ((zcp t : Int) ≤ l → (dpT t : Int) ≤ d → za8 t l d = l - zcp t)
  | .mk o n x ks ps, l, d => by
    have h := zqu ks (l - 1) (d - 1) 0
    have hd := yb5 ks 0
    have hk : (0 : Int) ≤ zco ks := by omega
    simp only [za8, zcp, dpT]
    by_cases h0 : l < 1 ∨ d < 1
    · rw [if_pos h0]
      refine ⟨⟨fun h => by omega, fun ⟨h1, h2⟩ => by omega⟩, fun h1 h2 => by omega⟩
    · rw [if_neg h0]
      obtain ⟨h1, h2⟩ := h (by omega) (by omega)
      refine ⟨⟨fun q => ?_, fun ⟨q1, q2⟩ => h1.2 ⟨by omega, by omega⟩⟩, fun q1 q2 => by rw [h2 (by omega) (by omega)]; omega⟩
      obtain ⟨a, b⟩ := h1.1 q
      exact ⟨by omega, by omega⟩
theorem zqu : ∀ (ts : List Tm) (l d : Int) (m : Nat), 0 ≤ l → (m : Int) ≤ d → (0 ≤ zbi ts l d ↔ (zco ts : Int) ≤ l ∧ (zw6 ts m : Int) ≤ d) ∧ ((zco ts : Int) ≤ l → (zw6 ts m : Int) ≤ d → zbi ts l d = l - zco ts)
  | [], l, d, m, h0, hm => by simp [zbi, zco, zw6]; omega
  | t :: r, l, d, m, h0, hm => by
    obtain ⟨t1, t2⟩ := zt6 t l d
    simp only [zbi, if_pos h0, zco, zw6]
    have hle := yb5 r (max m (dpT t))
    by_cases hw : 0 ≤ za8 t l d
    · obtain ⟨c1, c2⟩ := t1.1 hw
      have e := t2 c1 c2
      obtain ⟨r1, r2⟩ := zqu r (za8 t l d) d (max m (dpT t)) hw (by omega)
      rw [e] at r1 r2 ⊢
      refine ⟨⟨fun q => ?_, fun ⟨q1, q2⟩ => r1.2 ⟨by omega, q2⟩⟩, fun q1 q2 => by rw [r2 (by omega) q2]; omega⟩
      obtain ⟨a, b⟩ := r1.1 q
      exact ⟨by omega, b⟩
    · have hneg : ∀ (ts : List Tm) (l : Int), l < 0 → zbi ts l d = l := by
        intro ts l hl
        cases ts with
        | nil => rfl
        | cons => simp only [zbi]; rw [if_neg (by omega)]
      rw [hneg r _ (by omega)]
      have hnot : ¬ ((zcp t : Int) ≤ l ∧ (dpT t : Int) ≤ d) := fun h => hw (t1.2 h)
      have hc := zoe t
      refine ⟨⟨fun q => absurd q hw, fun ⟨q1, q2⟩ => absurd ⟨by omega, by omega⟩ hnot⟩, fun q1 q2 => absurd ⟨by omega, by omega⟩ hnot⟩
end
theorem yho (t : Tm) : zbc t = true ↔ zak t = true ∧ zcp t ≤ 60 ∧ dpT t ≤ 14 := by
  simp only [zbc, Bool.and_eq_true, decide_eq_true_eq, (zt6 t 60 14).1]
  constructor
  · rintro ⟨⟨a, b⟩, c⟩; exact ⟨c, by omega, by omega⟩
  · rintro ⟨a, b, c⟩; exact ⟨⟨by omega, by omega⟩, a⟩
theorem zdj {t : Tm} (h : zbc t = true) : zeg t = zbc t := zs9 (by simp only [zbc, Bool.and_eq_true] at h; exact h.2)
def ptr (b off : Nat) : Value := .pointer (some ⟨b, off, none⟩)
mutual
def okP : An → Prop
  | .mk s _ _ _ v ks _ _ => s = false ∧ ((ks = [] ∧ ∃ a c, v = .slice a 0 c) ∨ ∃ b c, v = .slice (some ⟨b, 0, none⟩) ks.length c) ∧ ks.length ≤ 1000000 ∧ ydj ks
  | .im _ _ _ => False
def ydj : List An → Prop
  | [] => True
  | a :: r => okP a ∧ ydj r
end
mutual
def skW (I : Imm) (w : World) : An → Nat → Nat → Prop
  | .mk _ o _ _ v ks _ _, b, off => zdh I w b (zds off 0) [.imm (.int .i64 o)] ∧ zdh I w b (zds off 3) [.raw v] ∧ yps I w (zcm v) 0 ks
  | .im _ _ _, _, _ => False
def yps (I : Imm) (w : World) (b : Nat) : Nat → List An → Prop
  | _, [] => True
  | i, a :: r => skW I w a b (i * 4) ∧ yps I w b (i + 1) r
end
mutual
def zup : An → Nat → Nat → List D
  | .mk _ o _ _ v ks _ _, b, off => (if o = 2 then [.raw (ptr b (zds off 2))] else []) ++ zjg (zcm v) 0 ks
  | .im _ _ _, _, _ => []
def zjg (b : Nat) : Nat → List An → List D
  | _, [] => []
  | i, a :: r => zup a b (i * 4) ++ zjg b (i + 1) r
end
theorem zmk : ∀ {l : List An} {i : Nat} {a : An}, ydj l → l[i]? = some a → okP a
  | [], i, a, _, h => by simp at h
  | x :: r, 0, a, hf, h => by simp at h; subst h; exact hf.1
  | x :: r, i + 1, a, hf, h => zmk hf.2 (by simpa using h)
theorem ycz {I : Imm} {w : World} {b : Nat} : ∀ {l : List An} {i j : Nat} {a : An}, yps I w b i l → l[j]? = some a → skW I w a b ((i + j) * 4)
  | [], i, j, a, _, h => by simp at h
  | x :: r, i, 0, a, hf, h => by simp at h; subst h; exact hf.1
  | x :: r, i, j + 1, a, hf, h => by
    have := ycz hf.2 (j := j) (by simpa using h)
    rwa [show i + 1 + j = i + (j + 1) by omega] at this
def Rounds (l : List D) (S : Nat → Bun) (k : Nat) : Prop := ∀ j d, l[j]? = some d → ycn Tryz.prog [d] (S (k + j)) true (S (k + j + 1))
theorem Rounds.left {l m : List D} {S : Nat → Bun} {k : Nat} (h : Rounds (l ++ m) S k) : Rounds l S k := fun j d hj => h j d (by rw [List.getElem?_append_left (List.getElem?_eq_some_iff.1 hj).1]; exact hj)
theorem Rounds.right {l m : List D} {S : Nat → Bun} {k : Nat} (h : Rounds (l ++ m) S k) : Rounds m S (k + l.length) := fun j d hj => by
  have := h (l.length + j) d (by rw [List.getElem?_append_right (by omega)]; simpa using hj)
  rwa [← Nat.add_assoc] at this
def yqh (b off : Nat) (S S' : Bun) : Prop := zc8 Tryz.prog 114 [.raw (.pointer (some ⟨b, off, none⟩)), .ref 1 0, .ref 2 0]
  (zk0 [(3, some .pin), (4, some (.bun 3 S))]) (.ret (.imm (.bool true)) (zk0 [(3, some .pin), (5, some (.bun 3 S'))]))
set_option maxRecDepth 100000 in
theorem zvb (s : Bool) (o n : Int) (x : Str) (v : Value) (ks : List An) (u : Value) (ps : List An) (b off : Nat) (S : Nat → Bun) (k : Nat) (hok : okP (.mk s o n x v ks u ps)) (hsk : ∀ j I w bb bs, (S j).P I w bb bs → skW I w (.mk s o n x v ks u ps) b off)
    (IH : ∀ a ∈ ks, ∀ b off k, okP a → (∀ j I w bb bs, (S j).P I w bb bs → skW I w a b off) → Rounds (zup a b off) S k → yqh b off (S k) (S (k + (zup a b off).length)))
    (hR : Rounds (zjg (zcm v) 0 ks) S k) :
    DGo Tryz.prog Tryz.f114.ntmps [1, 2, 3, 4] (yar ttN Tryz.f114.results.toList (.ret (.imm (.bool true)) (zk0 [(3, some .pin), (5, some (.bun 3 (S (k + (zjg (zcm v) 0 ks).length))))])))
      [.code (zg0 Tryz.f114 2)] [(0, .raw (.pointer (some ⟨b, off, none⟩))), (1, .ref 1 0), (2, .ref 2 0)] (zk0 [(3, some .pin), (6, some (.bun 3 (S k)))]) [7, 8, 5] := by
  obtain ⟨_, hv, hlen, hks⟩ := hok
  obtain ⟨ad, c, rfl, had⟩ : ∃ ad c, v = .slice ad ks.length c ∧ (ks ≠ [] → ∃ bb, ad = some ⟨bb, 0, none⟩) := by
    rcases hv with ⟨rfl, a, c, rfl⟩ | ⟨bb, c, rfl⟩
    · exact ⟨a, c, rfl, fun h => absurd rfl h⟩
    · exact ⟨_, c, rfl, fun _ => ⟨bb, rfl⟩⟩
  refine nd [] rfl (by simp [zag]) ?_
  refine ybw zb1 6 [.raw (.slice ad ks.length c)] rfl rfl (fun _ I w bb bs h => (hsk k I w bb bs h).2.1) rfl rfl (by simp) ?_
  refine ng [] rfl (by simp [zag]) ?_
  refine zah (fun y : Nat × Nat => [(24, .imm (.int .i64 y.1)), (23, .imm (.int .i64 ks.length)), (0, .raw (.pointer (some ⟨b, off, none⟩))), (1, .ref 1 0), (2, .ref 2 0)])
    (fun y => zk0 [(3, some .pin), (6, some (.bun 3 (S y.2)))]) [7, 8, 5] (fun y => ks.length - y.1)
    (fun y => y.1 ≤ ks.length ∧ Rounds (zjg (zcm (.slice ad ks.length c)) y.1 (ks.drop y.1)) S y.2 ∧ y.2 + (zjg (zcm (.slice ad ks.length c)) y.1 (ks.drop y.1)).length = k + (zjg (zcm (.slice ad ks.length c)) 0 ks).length) (0, k) ⟨Nat.zero_le _, hR, rfl⟩ ⟨rfl, zcn (by simp), rfl, rfl, rfl, trivial⟩ ⟨rfl, rfl, rfl, rfl, trivial⟩ rfl fun y hi ih => ?_
  obtain ⟨i, k1⟩ := y
  obtain ⟨hi1, hi2, hi3⟩ := hi
  simp only at hi1 hi2 hi3
  refine nd [] rfl (by simp [zag]) ?_
  refine zaa rfl (fun h => ?_) (fun h => ?_)
  · simp at h
    obtain ⟨a, ha⟩ := zal h
    have hd : ks.drop i = a :: ks.drop (i + 1) := zap ha
    rw [hd] at hi2 hi3
    simp only [zjg] at hi2 hi3
    obtain ⟨bb, rfl⟩ := had (fun e => by rw [e] at ha; simp at ha)
    have hoff : 0 + (i : Int).toNat * 4 = i * 4 := by simp
    have IHa := IH a (List.mem_of_getElem? ha) bb (i * 4) k1 (zmk hks ha) (fun j I w b2 bs h => by
      have := ycz (hsk j I w b2 bs h).2.2 ha
      simpa [zcm] using this) hi2.left
    rw [← hoff] at IHa
    refine nd [] rfl (by simp [zag]) ?_
    refine ybw zb1 6 [.raw (.slice (some ⟨bb, 0, none⟩) ks.length c)] rfl rfl (fun _ I w b2 bs h => (hsk k1 I w b2 bs h).2.1) rfl rfl (by simp) ?_
    refine ng [] rfl (by simp [zag]) ?_
    refine zdq zb1 rfl rfl (fun _ => ⟨by simp, by simp; omega⟩) (by simp) ?_
    refine ng [] rfl (by simp [zag]) ?_
    refine zas (fr := [7]) [(1, 1), (2, 2), (3, 3), (6, 4)] [(5, 7)] rfl (by simp) IHa ⟨⟨rfl, rfl, rfl⟩, ⟨rfl, rfl, rfl⟩, ⟨rfl, rfl, rfl⟩, ⟨rfl, rfl, rfl⟩, trivial⟩ rfl rfl rfl rfl ?_
    refine ng [] rfl (by simp [zag]; rfl) ?_
    refine zaa rfl (fun h => by simp at h) (fun h => ?_)
    refine nd [] rfl (by simp) ?_
    refine zbt 6 7 rfl ?_
    rw [hoff]
    exact zae (ih (i + 1, k1 + (zup a bb (i * 4)).length) (by simp only; omega) ⟨by simp only; omega, hi2.right, by simp only [List.length_append] at hi3 ⊢; simp only [zcm] at hi3 ⊢; omega⟩) ⟨zcn (w64 (by simp only; omega) (by simp only; omega)), rfl, rfl, rfl, rfl, trivial⟩ ⟨rfl, rfl, rfl, rfl, trivial⟩ rfl
  · simp at h
    have hd : ks.drop i = [] := List.drop_eq_nil_of_le (by omega)
    rw [hd] at hi3
    simp only [zjg, List.length_nil, Nat.add_zero] at hi3
    subst hi3
    refine zar rfl ?_
    refine nd [] rfl (by simp) ?_
    refine zb5 (ids' := []) 6 5 rfl rfl ?_
    exact zab ⟨_, rfl, tV rfl, rfl, rfl, rfl, rfl, trivial⟩
set_option maxRecDepth 100000 in
theorem yd6 : ∀ (a : An) (b off : Nat) (S : Nat → Bun) (k : Nat), okP a → (∀ j I w bb bs, (S j).P I w bb bs → skW I w a b off) → Rounds (zup a b off) S k → yqh b off (S k) (S (k + (zup a b off).length))
  | .im _ _ _, _, _, _, _, h, _, _ => h.elim
  | .mk s o n x v ks u ps, b, off, S, k, hok, hsk, hR => by
    have IH : ∀ a ∈ ks, ∀ b off k, okP a → (∀ j I w bb bs, (S j).P I w bb bs → skW I w a b off) → Rounds (zup a b off) S k → yqh b off (S k) (S (k + (zup a b off).length)) := fun a ha b off k h1 h2 h3 => yd6 a b off S k h1 h2 h3
    refine zaf zb1 Tryz.func114 (by decide +kernel) rfl [6, 7, 8, 5] rfl rfl ?_
    refine ng [] rfl (by simp [zag]) ?_
    refine ybw zb1 4 [.imm (.int .i64 o)] rfl rfl (fun _ I w bb bs h => (hsk k I w bb bs h).1) rfl rfl (by simp) ?_
    refine ng [] rfl (by simp [zag]) ?_
    simp only [zup] at hR ⊢
    by_cases hs : o = 2
    · rw [if_pos hs] at hR ⊢
      have h := hR 0 _ rfl
      refine zjs (j := 4) (j2 := 6) rfl (by simp [zag]) (by simp [zag, hs]) h rfl rfl rfl rfl rfl ?_
      refine ng [] rfl (by simp [zag]; rfl) ?_
      refine zaa rfl (fun h => by simp [hs] at h) (fun h => ?_)
      refine zdr ?_
      have ht := zvb s o n x v ks u ps b off S (k + 1) hok hsk IH (hR.right (l := [_]))
      rw [show k + ([D.raw (ptr b (zds off 2))] ++ zjg (zcm v) 0 ks).length = k + 1 + (zjg (zcm v) 0 ks).length by simp; omega]
      exact zae ht ⟨rfl, rfl, rfl, trivial⟩ ⟨rfl, rfl, rfl, rfl, trivial⟩ rfl
    · rw [if_neg hs] at hR ⊢
      refine ykq (.imm (.bool true)) rfl (by simp [zag, hs]) ?_
      refine ng [] rfl (by simp [zag]; rfl) ?_
      refine zaa rfl (fun h => by simp [hs] at h) (fun h => ?_)
      refine zdr ?_
      refine zb5 (ids' := [7, 8, 5]) 4 6 rfl rfl ?_
      exact zae (zvb s o n x v ks u ps b off S k hok hsk IH hR) ⟨rfl, rfl, rfl, trivial⟩ ⟨rfl, rfl, rfl, rfl, trivial⟩ rfl
termination_by a => SizeOf.sizeOf a
decreasing_by
  all_goals
    have := List.sizeOf_lt_of_mem ha
    simp_wf
    omega
def yn9 (v : Value) : St := [(6, some (.cells 128 1 [.raw v]))]
def yqv (v : Value) : St := [(6, some (.cells 91 1 [.raw v]))]
set_option maxRecDepth 100000 in
theorem yfp (a : An) (b off : Nat) (S : Nat → Bun) (k : Nat) (h1 : okP a) (h2 : ∀ j I w bb bs, (S j).P I w bb bs → skW I w a b off) (h3 : Rounds (zup a b off) S k) :
    zc8 Tryz.prog 113 [.yld 3, .ref 6 0] ((3, some .pin) :: (4, some (.bun 3 (S k))) :: yn9 (.pointer (some ⟨b, off, none⟩))) (.ret (.tup []) ((3, some .pin) :: (5, some (.bun 3 (S (k + (zup a b off).length)))) :: yn9 (.pointer (some ⟨b, off, none⟩)))) := by
  refine zaf zb1 Tryz.func113 (by decide +kernel) rfl [1, 2, 7, 5] rfl rfl ?_
  refine ng [] rfl (by simp [zag]) ?_
  refine zas (fr := [7]) [(1, 1), (2, 2), (3, 3), (4, 4)] [(5, 7)] rfl (by simp) (yd6 a b off S k h1 h2 h3) ⟨⟨rfl, rfl, rfl⟩, ⟨rfl, rfl, rfl⟩, ⟨rfl, rfl, rfl⟩, ⟨rfl, rfl, rfl⟩, trivial⟩ rfl rfl rfl rfl ?_
  refine ng [] rfl (by simp [zag]) ?_
  refine zb5 (ids' := []) 7 5 rfl rfl ?_
  exact zcf ⟨[], rfl, rfl, rfl, rfl, rfl, trivial⟩
set_option maxRecDepth 100000 in
theorem yjs (b off : Nat) : zc8 Tryz.prog 98 [.raw (.pointer (some ⟨b, off, none⟩))] [] (.ret (.fn (.func 113) [] [.ref 6 0]) (yn9 (.pointer (some ⟨b, off, none⟩)))) := by
  refine zaf zb1 Tryz.func98 (by decide +kernel) rfl [6] rfl rfl ?_
  refine ng [] rfl (by simp [zag]) ?_
  exact zab ⟨_, rfl, rfl, rfl, trivial⟩
set_option maxRecDepth 100000 in
theorem yg3 (b off : Nat) (S : Nat → Bun) (k : Nat) (h : Rounds [.raw (ptr b (zds off 2))] S k) :
    zc8 Tryz.prog 97 [.yld 3, .ref 6 0] ((3, some .pin) :: (4, some (.bun 3 (S k))) :: yqv (.pointer (some ⟨b, off, none⟩))) (.ret (.tup []) ((3, some .pin) :: (5, some (.bun 3 (S (k + 1)))) :: yqv (.pointer (some ⟨b, off, none⟩)))) := by
  refine zaf zb1 Tryz.func97 (by decide +kernel) rfl [7, 5] rfl rfl ?_
  refine ng [] rfl (by simp [zag]) ?_
  have h := h 0 _ rfl
  refine zjs (j := 4) (j2 := 7) rfl (by simp [zag]) trivial h rfl rfl rfl rfl rfl ?_
  refine ng [] rfl (by simp [zag]) ?_
  refine zb5 (ids' := []) 7 5 rfl rfl ?_
  exact zcf ⟨[], rfl, rfl, rfl, rfl, rfl, trivial⟩
def yc3 (A : Asn) (b : Nat) (op : Int) : Prop := ∀ vs I w bs, A.P vs I w bs → zdh I w b 0 [.imm (.int .i64 op)]
def ymi (A : Asn) (b : Nat) (u : Value) : Prop := ∀ vs I w bs, A.P vs I w bs → zdh I w b 4 [.raw u]
set_option maxRecDepth 100000 in
theorem ych (A : Asn) (b : Nat) (op kid : Int) (hA : yc3 A b op) (h : zbg op kid = true) :
    zc8 Tryz.prog 67 [.raw (.pointer (some ⟨b, 0, none⟩)), .imm (.int .i64 kid)] [(1, some (.hp A))] (.ret (.fn (.func 97) [] [.ref 6 0]) ((1, some (.hp A)) :: yqv (.pointer (some ⟨b, 0, none⟩)))) := by
  refine zaf zb1 Tryz.func67 (by decide +kernel) rfl [6] rfl rfl ?_
  refine ng [] rfl (by simp [zag]) ?_
  refine zbw zb1 1 [.imm (.int .i64 op)] rfl rfl (fun _ => hA) rfl rfl (by simp) ?_
  refine ng [] rfl (by simp [zag]) ?_
  have h' : (op == 5 || op == 27 || (op == 7 && kid == 1)) = true := h
  refine zaa rfl (fun h1 => ?_) (fun h1 => ?_)
  · refine nd [] rfl (by simp [zag]) ?_
    refine zaa rfl (fun _ => ?_) (fun h2 => by rw [h1] at h2; cases h2)
    refine nd [] rfl (by simp [zag]) ?_
    exact zab ⟨_, rfl, rfl, rfl, rfl, trivial⟩
  · refine nd [] rfl (by simp [zag]) ?_
    refine zbw zb1 1 [.imm (.int .i64 op)] rfl rfl (fun _ => hA) rfl rfl (by simp) ?_
    refine ng [] rfl (by simp [zag]) ?_
    refine zaa rfl (fun h2 => ?_) (fun h2 => ?_)
    · refine nd [] rfl (by simp [zag]) ?_
      refine zaa rfl (fun _ => ?_) (fun h3 => by rw [h2] at h3; cases h3)
      refine nd [] rfl (by simp [zag]) ?_
      exact zab ⟨_, rfl, rfl, rfl, rfl, trivial⟩
    · refine nd [] rfl (by simp [zag]) ?_
      refine zbw zb1 1 [.imm (.int .i64 op)] rfl rfl (fun _ => hA) rfl rfl (by simp) ?_
      refine ng [] rfl (by simp [zag]) ?_
      refine zaa rfl (fun _ => ?_) (fun h3 => ?_)
      · refine nd [] rfl (by simp [zag]) ?_
        exact zab ⟨_, rfl, rfl, rfl, rfl, trivial⟩
      · exfalso
        rw [h1, h2] at h'
        cases e1 : (op == 7) <;> cases e2 : (kid == 1) <;> simp [e1, e2] at h' h3
set_option maxRecDepth 100000 in
theorem yg1 (A : Asn) (b : Nat) (op kid : Int) (bb len c j : Nat) (hA : yc3 A b op) (hA2 : ymi A b (.slice (some ⟨bb, 0, none⟩) len c)) (h : zbg op kid = false) (h2 : zbr op kid = true) (hj : kid = (j : Int) + 1) (hl : j < len) (hk : kid ≤ 1000000) :
    zc8 Tryz.prog 67 [.raw (.pointer (some ⟨b, 0, none⟩)), .imm (.int .i64 kid)] [(1, some (.hp A))] (.ret (.fn (.func 113) [] [.ref 6 0]) ((1, some (.hp A)) :: yn9 (.pointer (some ⟨bb, j * 4, none⟩)))) := by
  refine zaf zb1 Tryz.func67 (by decide +kernel) rfl [7, 6] rfl rfl ?_
  have h' : (op == 5 || op == 27 || (op == 7 && kid == 1)) = false := h
  have h2' : (op == 15 && decide (0 < kid)) = true := h2
  simp only [Bool.or_eq_false_iff] at h'
  obtain ⟨⟨e1, e2⟩, e3⟩ := h'
  simp only [Bool.and_eq_true, decide_eq_true_eq] at h2'
  have hw : IntKind.i64.wrap (kid - 1) = (j : Int) := by rw [w64 (by omega) (by omega)]; omega
  have hoff : 0 + (IntKind.i64.wrap (kid - 1)).toNat * 4 = j * 4 := by rw [hw]; simp
  refine ng [] rfl (by simp [zag]) ?_
  refine zbw zb1 1 [.imm (.int .i64 op)] rfl rfl (fun _ => hA) rfl rfl (by simp) ?_
  refine ng [] rfl (by simp [zag]) ?_
  refine zaa rfl (fun h1 => by rw [e1] at h1; cases h1) (fun h1 => ?_)
  refine nd [] rfl (by simp [zag]) ?_
  refine zbw zb1 1 [.imm (.int .i64 op)] rfl rfl (fun _ => hA) rfl rfl (by simp) ?_
  refine ng [] rfl (by simp [zag]) ?_
  refine zaa rfl (fun h1 => by rw [e2] at h1; cases h1) (fun h1 => ?_)
  refine nd [] rfl (by simp [zag]) ?_
  refine zbw zb1 1 [.imm (.int .i64 op)] rfl rfl (fun _ => hA) rfl rfl (by simp) ?_
  refine ng [] rfl (by simp [zag]) ?_
  refine zaa rfl (fun h3 => ?_) (fun h3 => ?_)
  · exfalso
    cases q1 : (op == 7) <;> cases q2 : (kid == 1) <;> simp [q1, q2] at e3 h3
  refine nd [] rfl (by simp [zag]) ?_
  refine zbw zb1 1 [.imm (.int .i64 op)] rfl rfl (fun _ => hA) rfl rfl (by simp) ?_
  refine ng [] rfl (by simp [zag]) ?_
  refine zaa rfl (fun h4 => ?_) (fun h4 => by simp [h2'.1, h2'.2] at h4)
  refine nd [] rfl (by simp [zag]) ?_
  refine zbw zb1 1 [.raw (.slice (some ⟨bb, 0, none⟩) len c)] rfl rfl (fun _ => hA2) rfl rfl (by simp) ?_
  refine ng [] rfl (by simp [zag]) ?_
  refine zdq zb1 rfl rfl (fun _ => ⟨by simp [hw], by simp [hw]; omega⟩) (by simp) ?_
  refine ng [] rfl (by simp [zag]) ?_
  have hN := yjs bb (0 + (IntKind.i64.wrap (kid - 1)).toNat * 4)
  refine zas (st0 := []) (fr := [6]) [] [(6, 6)] rfl (by simp) hN trivial rfl rfl rfl rfl ?_
  refine ng [] rfl (by simp [zag]) ?_
  rw [← hoff]
  exact zab ⟨_, rfl, rfl, rfl, rfl, trivial⟩
set_option maxRecDepth 100000 in
theorem zth (A : Asn) (b : Nat) (op kid : Int) (hA : yc3 A b op) (h : zbg op kid = false) (h2 : zbr op kid = false) :
    zc8 Tryz.prog 67 [.raw (.pointer (some ⟨b, 0, none⟩)), .imm (.int .i64 kid)] [(1, some (.hp A))] (.ret (.imm (.fn (.func 99))) [(1, some (.hp A))]) := by
  refine zaf zb1 Tryz.func67 (by decide +kernel) rfl [7, 6] rfl rfl ?_
  have h' : (op == 5 || op == 27 || (op == 7 && kid == 1)) = false := h
  have h2' : (op == 15 && decide (0 < kid)) = false := h2
  simp only [Bool.or_eq_false_iff] at h'
  obtain ⟨⟨e1, e2⟩, e3⟩ := h'
  refine ng [] rfl (by simp [zag]) ?_
  refine zbw zb1 1 [.imm (.int .i64 op)] rfl rfl (fun _ => hA) rfl rfl (by simp) ?_
  refine ng [] rfl (by simp [zag]) ?_
  refine zaa rfl (fun h1 => by rw [e1] at h1; cases h1) (fun h1 => ?_)
  refine nd [] rfl (by simp [zag]) ?_
  refine zbw zb1 1 [.imm (.int .i64 op)] rfl rfl (fun _ => hA) rfl rfl (by simp) ?_
  refine ng [] rfl (by simp [zag]) ?_
  refine zaa rfl (fun h1 => by rw [e2] at h1; cases h1) (fun h1 => ?_)
  refine nd [] rfl (by simp [zag]) ?_
  refine zbw zb1 1 [.imm (.int .i64 op)] rfl rfl (fun _ => hA) rfl rfl (by simp) ?_
  refine ng [] rfl (by simp [zag]) ?_
  refine zaa rfl (fun h3 => ?_) (fun h3 => ?_)
  · exfalso
    cases q1 : (op == 7) <;> cases q2 : (kid == 1) <;> simp [q1, q2] at e3 h3
  refine nd [] rfl (by simp [zag]) ?_
  refine zbw zb1 1 [.imm (.int .i64 op)] rfl rfl (fun _ => hA) rfl rfl (by simp) ?_
  refine ng [] rfl (by simp [zag]) ?_
  refine zaa rfl (fun h4 => ?_) (fun h4 => ?_)
  · exfalso
    cases q1 : (op == 15) <;> cases q2 : decide (0 < kid) <;> simp [q1, q2] at h2' h4 <;> simp_all
  refine nd [] rfl (by simp [zag]) ?_
  exact zab ⟨_, rfl, tV rfl, rfl, trivial⟩
theorem zfh {I : Imm} {w : World} {b off : Nat} {cs : List Value} (h : atW w b off cs) {i : Nat} {c : Value} {d : D} (hc : cs[i]? = some c) (h1 : c.oneCell' = true) (hd : RepD I noMu c d) : zdh I w b (zds off i) [d] := by
  obtain ⟨cur, ty, k, q1, q2⟩ := h
  refine ⟨cur, ty, k, q1, fun j d' hj => ?_⟩
  cases j with
  | zero =>
    simp at hj; subst hj
    refine ⟨c, ?_, h1, hd⟩
    rw [ze4]
    exact q2 i c hc
  | succ j => simp at hj
mutual
theorem ycy {I : Imm} {w : World} : ∀ (a : An) (b off : Nat), zju a → zc1 a = false → atW w b off (cA a) → anW I w a → skW I w a b off
  | .im _ _ _, _, _, h, _, _, _ => h.elim
  | .mk s o n x v ks u ps, b, off, hf, hs, ha, hw => by
    have hs : s = false := hs
    subst hs
    simp only [anW] at hw
    refine ⟨zfh ha (i := 0) rfl rfl (.imm _ _ (.int _ _)), zfh ha (i := 3) rfl (zka hw.1.1) (.raw _ (zka hw.1.1)), ?_⟩
    exact zua ks (zcm v) 0 hf.1 hw.1.2
theorem zua {I : Imm} {w : World} : ∀ (l : List An) (b i : Nat), zc6 l → zfv I w false b i l → yps I w b i l
  | [], _, _, _, _ => trivial
  | a :: r, b, i, hf, hw => by
    simp only [zfv] at hw
    exact ⟨ycy a b (i * 4) hf.1 hw.1.1 hw.1.2.1 hw.1.2.2, zua r b (i + 1) hf.2 hw.2⟩
end
mutual
theorem ym4 {I : Imm} {w : World} : ∀ (a : An) (t : Ty), zju a → zc1 a = false → anW I w a → vA a = zb0 t → zl2 t → okP a
  | .im _ _ _, _, h, _, _, _, _ => h.elim
  | .mk s o n x v ks u ps, .mk s' n' x' qs, hf, hs, hw, hv, ht => by
    have hs : s = false := hs
    subst hs
    simp only [anW] at hw
    have he : vAs ks = zb8 qs := by
      simp only [vA, zb0, List.cons.injEq, V.sl.injEq] at hv
      exact hv.2.2.2.1
    have hl : ks.length = qs.length := by have := congrArg List.length he; simpa using this
    refine ⟨rfl, ?_, by rw [hl]; exact ht.1, znv ks qs (zcm v) 0 hf.1 hw.1.2 he ht.2⟩
    rcases hw.1.1 with ⟨h0, ⟨a, c, rfl⟩, _⟩ | ⟨_, b, cap, cur, rfl, _⟩
    · exact .inl ⟨List.eq_nil_of_length_eq_zero h0, a, c, rfl⟩
    · exact .inr ⟨b, cap, rfl⟩
theorem znv {I : Imm} {w : World} : ∀ (l : List An) (ts : List Ty) (b i : Nat), zc6 l → zfv I w false b i l → vAs l = zb8 ts → zt2 ts → ydj l
  | [], _, _, _, _, _, _, _ => trivial
  | a :: r, [], _, _, _, _, h, _ => by simp [vAs, zb8] at h
  | a :: r, t :: q, b, i, hf, hw, hv, ht => by
    simp only [zfv] at hw
    simp only [vAs, zb8, List.cons.injEq] at hv
    exact ⟨ym4 a t hf.1 hw.1.1 hw.1.2.2 hv.1 ht.1, znv r q b (i + 1) hf.2 hw.2 hv.2 ht.2⟩
end
mutual
def ya1 : An → An
  | .mk s o n _ v ks u ps => .mk s o n [] v (ztr ks) u (ztr ps)
  | .im s cs c => .im s cs c
def ztr : List An → List An
  | [] => []
  | a :: r => ya1 a :: ztr r
end
theorem zp0 : ∀ l : List An, ztr l = l.map ya1
  | [] => rfl
  | a :: r => by simp [ztr, zp0 r]
def ppaths : An → List zng
  | .mk _ o _ _ _ ks _ _ => (if o = 2 then [[]] else []) ++ ppathss 0 ks
  | .im _ _ _ => []
where ppathss : Nat → List An → List zng
  | _, [] => []
  | i, a :: r => (ppaths a).map ((false, i) :: ·) ++ ppathss (i + 1) r
def yhw : An → Str → An
  | .mk s o n _ v ks u ps, x => .mk s o n x v ks u ps
  | a, _ => a
theorem yht (a c d : An) (p : Bool × Nat) (b off : Nat) (h : zfr a p = some (c, b, off)) (hd : ya1 d = ya1 c) : ya1 (zyl a p d) = ya1 a := by
  have st : ∀ {l : List An} {k : Nat}, l[k]? = some c → ztr (l.set k d) = ztr l := by
    intro l k hk
    rw [zp0, zp0, List.map_set, hd]
    apply List.ext_getElem?
    intro i
    rw [List.getElem?_set]
    split
    · rename_i e; subst e
      rw [List.getElem?_map, hk]; simp
      exact (List.getElem?_eq_some_iff.1 hk).1
    · rfl
  rcases a with ⟨s, o, n, x, v, ks, u, ps⟩ | ⟨s0, cs0, c0⟩
  case im => simp [zfr] at h
  obtain ⟨r, k⟩ := p
  cases r with
  | false =>
    simp only [zfr, Option.map_eq_some_iff, Prod.mk.injEq] at h
    obtain ⟨c', hc, rfl, _, _⟩ := h
    simp only [zyl, ya1, st hc]
  | true =>
    cases s with
    | true =>
      simp only [zfr, Option.map_eq_some_iff, Prod.mk.injEq] at h
      obtain ⟨c', hc, rfl, _, _⟩ := h
      simp only [zyl, ya1, st hc]
    | false => simp [zfr] at h
theorem zyf : ∀ (p : zng) (a : An) (b off : Nat) (a' : An) (b' off' : Nat) (a2 : An), zeu a b off p = some (a', b', off') → ya1 a2 = ya1 a' → ya1 (znr a p a2) = ya1 a
  | [], a, b, off, a', b', off', a2, h, hs => by
    simp only [zeu, Option.some.injEq, Prod.mk.injEq] at h
    obtain ⟨rfl, _, _⟩ := h
    exact hs
  | q :: r, a, b, off, a', b', off', a2, h, hs => by
    simp only [zeu] at h
    simp only [znr]
    split at h
    · rename_i c b1 off1 hk
      exact yht a c _ q b1 off1 hk (zyf r c b1 off1 a' b' off' a2 h hs)
    · cases h
mutual
theorem yi5 : ∀ (a : An) (b off : Nat), okP a → ∀ (j : Nat) (d : D), (zup a b off)[j]? = some d → ∃ p a' b' off', (ppaths a)[j]? = some p ∧ zeu a b off p = some (a', b', off') ∧ d = .raw (ptr b' (zds off' 2)) ∧ ∃ n x v ks u ps, a' = .mk false 2 n x v ks u ps
  | .im _ _ _, _, _, h, _, _, _ => h.elim
  | .mk s o n x v ks u ps, b, off, hok, j, d, h => by
    obtain ⟨hs, _, _, hks⟩ := hok
    subst hs
    simp only [zup] at h
    have tail : ∀ j, (zjg (zcm v) 0 ks)[j]? = some d → ∃ p a' b' off', (ppaths.ppathss 0 ks)[j]? = some p ∧ zeu (.mk false o n x v ks u ps) b off p = some (a', b', off') ∧ d = .raw (ptr b' (zds off' 2)) ∧ ∃ n x v ks u ps, a' = .mk false 2 n x v ks u ps := fun j hj => by
      obtain ⟨k, a, r, a', b', off', h1, h2, h3, h4, h5⟩ := ydi ks (zcm v) 0 hks j d hj
      refine ⟨(false, 0 + k) :: r, a', b', off', h1, ?_, h4, h5⟩
      simp only [zeu, zfr, Nat.zero_add, h2, Option.map_some]
      simpa [szA] using h3
    by_cases ho : o = 2
    · rw [if_pos ho] at h
      simp only [ppaths]
      rw [if_pos ho]
      cases j with
      | zero =>
        simp at h; subst h; subst ho
        exact ⟨[], _, b, off, by simp, rfl, rfl, n, x, v, ks, u, ps, rfl⟩
      | succ j =>
        simp only [List.singleton_append, List.getElem?_cons_succ] at h ⊢
        exact tail j h
    · rw [if_neg ho] at h
      simp only [ppaths]
      rw [if_neg ho]
      exact tail j h
theorem ydi : ∀ (l : List An) (b i : Nat), ydj l → ∀ (j : Nat) (d : D), (zjg b i l)[j]? = some d → ∃ k a r a' b' off', (ppaths.ppathss i l)[j]? = some ((false, i + k) :: r) ∧ l[k]? = some a ∧ zeu a b ((i + k) * 4) r = some (a', b', off') ∧ d = .raw (ptr b' (zds off' 2)) ∧ ∃ n x v ks u ps, a' = .mk false 2 n x v ks u ps
  | [], _, _, _, _, _, h => by simp [zjg] at h
  | a :: r, b, i, hok, j, d, h => by
    simp only [zjg] at h
    have hlen := zp6 a b (i * 4)
    by_cases hj : j < (zup a b (i * 4)).length
    · rw [List.getElem?_append_left hj] at h
      obtain ⟨p, a', b', off', h1, h2, h3, h4⟩ := yi5 a b (i * 4) hok.1 j d h
      refine ⟨0, a, p, a', b', off', ?_, rfl, by simpa using h2, h3, h4⟩
      simp only [ppaths.ppathss]
      rw [List.getElem?_append_left (by simp; omega), List.getElem?_map, h1]
      rfl
    · rw [List.getElem?_append_right (by omega)] at h
      obtain ⟨k, c, q, a', b', off', h1, h2, h3, h4, h5⟩ := ydi r b (i + 1) hok.2 _ d h
      refine ⟨k + 1, c, q, a', b', off', ?_, by simpa using h2, by rwa [show i + (k + 1) = i + 1 + k by omega], h4, h5⟩
      simp only [ppaths.ppathss]
      rw [List.getElem?_append_right (by simp; omega)]
      simp only [List.length_map, ← hlen]
      rw [h1, show i + (k + 1) = i + 1 + k by omega]
theorem zp6 : ∀ (a : An) (b off : Nat), (zup a b off).length = (ppaths a).length
  | .im _ _ _, _, _ => rfl
  | .mk s o n x v ks u ps, b, off => by
    simp only [zup, ppaths, List.length_append, zy3 ks (zcm v) 0]
    by_cases h : o = 2 <;> simp [h]
theorem zy3 : ∀ (l : List An) (b i : Nat), (zjg b i l).length = (ppaths.ppathss i l).length
  | [], _, _ => rfl
  | a :: r, b, i => by simp only [zjg, ppaths.ppathss, List.length_append, List.length_map, zp6 a, zy3 r b (i + 1)]
end
theorem zye (l : List An) : (ztr l).length = l.length := by rw [zp0]; simp
mutual
theorem zxj : ∀ a : An, anB (ya1 a) = anB a
  | .im _ _ _ => rfl
  | .mk s o n x v ks u ps => by
    have h1 := zoj ks
    have h2 := zoj ps
    cases s <;> simp [ya1, anB, h1, h2, zye]
theorem zoj : ∀ l : List An, zd9 (ztr l) = zd9 l
  | [] => rfl
  | a :: r => by simp only [ztr, zd9, zxj a, zoj r]
end
theorem zlf {I : Imm} {w : World} {vs : List Value} {bs : List Nat} {b : Nat} {a : An} {p : zng} {a' : An} {b' off' : Nat} (h : (ziz b a).P vs I w bs) (hl : zeu a b 0 p = some (a', b', off')) :
    b' ∈ bs ∧ ∃ cur ty, w.heap[b']? = some (.cells cur ty (0, 0)) ∧ off' + szA (zc1 a') ≤ cur.size := by
  obtain ⟨h1, h2, h3, ⟨cur, h4, h5⟩, h6, h7⟩ := h
  rcases zmq hl with ⟨_, rfl, rfl, rfl⟩ | ⟨hne, hb⟩
  · exact ⟨by simp [h1], cur, _, h4, by rw [h3]; simp [szA, h5]⟩
  · refine ⟨by simp [h1, hb], ?_⟩
    have : ∀ {p : zng} {a : An} {b off : Nat}, zeu a b off p = some (a', b', off') → p ≠ [] → anW I w a → ∃ cur ty, w.heap[b']? = some (.cells cur ty (0, 0)) ∧ off' + szA (zc1 a') ≤ cur.size := by
      intro p
      induction p with
      | nil => intro a b off _ h; exact absurd rfl h
      | cons q r ih =>
        intro a b off h _ hw
        simp only [zeu] at h
        split at h
        · rename_i c b1 off1 hk
          by_cases hr : r = []
          · subst hr
            simp only [zeu, Option.some.injEq, Prod.mk.injEq] at h
            obtain ⟨rfl, rfl, rfl⟩ := h
            rcases a with ⟨s, o, n, x, v, ks, u, ps⟩ | ⟨s0, cs0, c0⟩
            case im => simp [zfr] at hk
            obtain ⟨rr, i⟩ := q
            simp only [anW] at hw
            cases rr with
            | false =>
              simp only [zfr, Option.map_eq_some_iff, Prod.mk.injEq] at hk
              obtain ⟨c', hc, rfl, rfl, rfl⟩ := hk
              have hsrt : zc1 c' = s := (zdl hw.1.2 hc).1
              have hlt := (List.getElem?_eq_some_iff.1 hc).1
              rcases hw.1.1 with ⟨h0, _⟩ | ⟨_, b0, cap, cur, rfl, q1, q2, q3, q4⟩
              · omega
              · refine ⟨cur, _, q1, ?_⟩
                have : (i + 1) * szA s ≤ cap * szA s := Nat.mul_le_mul_right _ (by omega)
                rw [Nat.succ_mul, ← q4] at this
                rw [hsrt]; exact this
            | true =>
              cases s with
              | false => simp [zfr] at hk
              | true =>
                simp only [zfr, Option.map_eq_some_iff, Prod.mk.injEq] at hk
                obtain ⟨c', hc, rfl, rfl, rfl⟩ := hk
                have hsrt : zc1 c' = false := (zdl (hw.2 rfl).2 hc).1
                have hlt := (List.getElem?_eq_some_iff.1 hc).1
                rcases (hw.2 rfl).1 with ⟨h0, _⟩ | ⟨_, b0, cap, cur, rfl, q1, q2, q3, q4⟩
                · omega
                · refine ⟨cur, _, q1, ?_⟩
                  have : (i + 1) * szA false ≤ cap * szA false := Nat.mul_le_mul_right _ (by omega)
                  rw [Nat.succ_mul, ← q4] at this
                  rw [hsrt]; exact this
          · exact ih h hr (ybq hk hw).2
        · cases h
    exact this hl hne h7
theorem zu3 : ∀ {p : zng} {a : An} {b off : Nat} {a' : An} {b' off' : Nat}, zeu a b off p = some (a', b', off') → b ∉ anB a → (anB a).Nodup → b' ∉ anB a'
  | [], a, b, off, a', b', off', h, h1, _ => by
    simp only [zeu, Option.some.injEq, Prod.mk.injEq] at h
    obtain ⟨rfl, rfl, rfl⟩ := h
    exact h1
  | q :: r, a, b, off, a', b', off', h, _, h2 => by
    simp only [zeu] at h
    split at h
    · rename_i c b1 off1 hk
      obtain ⟨_, _, k3⟩ := zic hk
      exact zu3 h (k3 h2).2 (k3 h2).1
    · cases h
theorem zqy {I : Imm} {μ : Mu} {c : Value} {x : Str} (h : RepD I μ c (.imm (.str x))) : c = zxt x := by
  cases h with
  | imm _ _ h =>
    cases h with
    | str s l h =>
      show Value.string s = Value.string ⟨x.toArray⟩
      rw [← h]
theorem zt8 {b : Nat} {a : An} {p : zng} {s : Bool} {o n : Int} {x0 : Str} {v : Value} {ks : List An} {u : Value} {ps : List An} {b' off' : Nat} (x : Str) (hl : zeu a b 0 p = some (.mk s o n x0 v ks u ps, b', off')) :
    ztl (ziz b a) (ziz b (znr a p (.mk s o n x v ks u ps))) b' (zds off' 2) [.imm (.str x)] := by
  intro us I w bs hP
  obtain ⟨r1, cur, ty, r2, r3⟩ := zlf hP hl
  obtain ⟨h1, h2, h3, ⟨cur0, h4, h5⟩, h6, h7⟩ := hP
  have h4sz : 4 ≤ szA (zc1 (.mk s o n x0 v ks u ps)) := by cases s <;> simp [zc1, szA]
  have hnd : b ∉ anB a ∧ (anB a).Nodup := by rw [h1] at h2; exact List.nodup_cons.1 h2
  rw [ze4]
  refine ⟨r1, cur, ty, r2, by simp only [List.length_singleton]; omega, fun cs hcl hone => ?_⟩
  obtain ⟨c, rfl⟩ : ∃ c, cs = [c] := List.length_eq_one_iff.1 hcl.1
  have hc : c = zxt x := zqy (hcl.2 0 c _ rfl rfl)
  subst hc
  have hf : off' + 2 + [zxt x].length ≤ cur.size := by simp only [List.length_singleton]; omega
  have hu := zt5 (off0 := off') (sz := szA (zc1 (.mk s o n x0 v ks u ps))) r2 hf ⟨by omega, by simp only [List.length_singleton]; omega⟩
  obtain ⟨⟨cur2, ty2, k2, z1, z2⟩, q2⟩ := zws hl h6 h7
  rw [r2] at z1; cases z1
  have hni := zu3 hl hnd.1 hnd.2
  have hat : atW (w.setRow b' (cur.toList.take (off' + 2) ++ [zxt x] ++ cur.toList.drop (off' + 2 + [zxt x].length)).toArray) b' off' (cA (.mk s o n x v ks u ps)) := by
    refine ⟨_, ty, (0, 0), zi9 r2, fun j d hj => ?_⟩
    have hsp := zga (cur := cur.toList) (off := off' + 2) (cs := [zxt x]) (by simpa using hf) (off' + j)
    simp only [List.length_singleton] at hsp ⊢
    have key : (cur.toList.take (off' + 2) ++ [zxt x] ++ cur.toList.drop (off' + 2 + 1))[off' + j]? = some d := by
      by_cases e2 : j = 2
      · subst e2
        rw [hsp, if_neg (by omega), if_pos (by omega), Nat.sub_self]
        cases s <;> (simp [cA] at hj; subst hj; rfl)
      · have hold : (cA (.mk s o n x0 v ks u ps))[j]? = some d := by
          rw [← hj]
          match j with
          | 0 => cases s <;> rfl
          | 1 => cases s <;> rfl
          | 2 => exact absurd rfl e2
          | 3 => cases s <;> rfl
          | 4 => cases s <;> rfl
          | j + 5 => cases s <;> rfl
        have := z2 j d hold
        rw [hsp]
        split
        · simpa using this
        · rw [if_neg (by omega)]; simpa using this
    simpa using key
  have hw2 : anW I (w.setRow b' (cur.toList.take (off' + 2) ++ [zxt x] ++ cur.toList.drop (off' + 2 + [zxt x].length)).toArray) (.mk s o n x v ks u ps) := by
    have := zj5 (fun k hk => hu.other k fun e => hni (e ▸ hk)) q2
    simpa only [anW] using this
  obtain ⟨q3, q4, q5⟩ := zv4 (a2 := .mk s o n x v ks u ps) hl hu rfl hat hw2 h6 h7 hnd.1 hnd.2
  have hB : anB (znr a p (.mk s o n x v ks u ps)) = anB a := by
    rw [← zxj, zyf p a b 0 _ b' off' _ hl (by simp [ya1]), zxj]
  refine ⟨by rw [hB]; exact h1, h2, by rw [q5]; exact h3, ?_, q3, q4⟩
  by_cases e : b = b'
  · subst e
    obtain ⟨cur', z1, z2, _⟩ := hu.same cur0 _ _ h4
    exact ⟨cur', z1, by rw [z2, h5]⟩
  · exact ⟨cur0, (hu.other b e).trans h4, h5⟩
def PutV (b : Nat) (a : An) (p : zng) (e : List V) : Asn where
  P := fun vs I w bs => ∃ cs, (ziz b (znr a p (.im true cs e))).P vs I w bs
  mono := fun h ⟨cs, h1⟩ => ⟨cs, (ziz b (znr a p (.im true cs e))).mono h h1⟩
  loc := fun h ⟨cs, h1⟩ => ⟨cs, (ziz b (znr a p (.im true cs e))).loc h h1⟩
theorem yod {a c d : An} {p : Bool × Nat} {b off : Nat} (h : zfr a p = some (c, b, off)) (hd : anB d = anB c) : anB (zyl a p d) = anB a := by
  have st : ∀ {l : List An} {k : Nat}, l[k]? = some c → zd9 (l.set k d) = zd9 l := by
    intro l
    induction l with
    | nil => intro k h; simp at h
    | cons x r ih =>
      intro k h
      cases k with
      | zero => simp at h; subst h; simp [zd9, hd]
      | succ k => simp [zd9, ih (by simpa using h)]
  rcases a with ⟨s, o, n, x, v, ks, u, ps⟩ | ⟨s0, cs0, c0⟩
  case im => simp [zfr] at h
  obtain ⟨r, k⟩ := p
  cases r with
  | false =>
    simp only [zfr, Option.map_eq_some_iff, Prod.mk.injEq] at h
    obtain ⟨c', hc, rfl, _, _⟩ := h
    simp only [zyl, anB, st hc, List.length_set]
  | true =>
    cases s with
    | true =>
      simp only [zfr, Option.map_eq_some_iff, Prod.mk.injEq] at h
      obtain ⟨c', hc, rfl, _, _⟩ := h
      simp only [zyl, anB, st hc, List.length_set]
    | false => simp [zfr] at h
theorem yer : ∀ {p : zng} {a : An} {b off : Nat} {a' : An} {b' off' : Nat} {a2 : An}, zeu a b off p = some (a', b', off') → anB a2 = anB a' → anB (znr a p a2) = anB a
  | [], a, b, off, a', b', off', a2, h, hs => by
    simp only [zeu, Option.some.injEq, Prod.mk.injEq] at h
    obtain ⟨rfl, _, _⟩ := h
    exact hs
  | q :: r, a, b, off, a', b', off', a2, h, hs => by
    simp only [zeu] at h
    simp only [znr]
    split at h
    · rename_i c b1 off1 hk
      exact yod hk (yer h hs)
    · cases h
theorem yj9 {b : Nat} {a : An} {p : zng} {cs0 : List Value} {e0 : List V} {b' off' : Nat} (e : List V) (he : e.length = 5) (hl : zeu a b 0 p = some (.im true cs0 e0, b', off')) :
    ztl (ziz b a) (PutV b a p e) b' off' (e.map .imm) := by
  intro us I w bs hP
  obtain ⟨r1, cur, ty, r2, r3⟩ := zlf hP hl
  obtain ⟨h1, h2, h3, ⟨cur0, h4, h5⟩, h6, h7⟩ := hP
  have r3 : off' + 5 ≤ cur.size := r3
  have hnd : b ∉ anB a ∧ (anB a).Nodup := by rw [h1] at h2; exact List.nodup_cons.1 h2
  have hel : (e.map D.imm).length = 5 := by simpa using he
  refine ⟨r1, cur, ty, r2, by rw [hel]; exact r3, fun cs hcl hone => ?_⟩
  have hcs : cs.length = 5 := by rw [hcl.1, hel]
  have hf : off' + cs.length ≤ cur.size := by rw [hcs]; exact r3
  rw [hel, ← hcs]
  have hu := zt5 (off0 := off') (sz := szA (zc1 (.im true cs0 e0))) r2 hf ⟨Nat.le_refl _, by rw [hcs]; exact Nat.le_refl _⟩
  have hrep : RepVL I cs e := ⟨by rw [hcs, he], fun i v x hv hx => by
    have := hcl.2 i v (.imm x) hv (by rw [List.getElem?_map, hx]; rfl)
    exact this.immInv⟩
  have hw2 : anW I (w.setRow b' (cur.toList.take off' ++ cs ++ cur.toList.drop (off' + cs.length)).toArray) (.im true cs e) := ⟨hrep, hone, he⟩
  obtain ⟨q3, q4, q5⟩ := zv4 (a2 := .im true cs e) hl hu rfl (yll r2 hf) hw2 h6 h7 hnd.1 hnd.2
  have hB : anB (znr a p (.im true cs e)) = anB a := yer hl rfl
  refine ⟨cs, by rw [hB]; exact h1, h2, by rw [q5]; exact h3, ?_, q3, q4⟩
  by_cases e : b = b'
  · subst e
    obtain ⟨cur', z1, z2, _⟩ := hu.same cur0 _ _ h4
    exact ⟨cur', z1, by rw [z2, h5]⟩
  · exact ⟨cur0, (hu.other b e).trans h4, h5⟩
end Go.Hk
namespace Go.Hk
section
variable {P : Program} {I J : Imm} {μ ν : Mu} {w : World}
noncomputable def zzo (I : Imm) (μ : Mu) (st : St) (w : World) : Imm := fun b => open Classical in if zcd μ st b then w.heap[b]? else I b
theorem zm4 {f : FuncId} {das das' : List D} {stL st0 st1 : St} {d : D} (hE : zc8 P f das st0 (.ret d st1)) (hd : ymj d = true) (hs : yh1 st1)
    (h0 : ∀ i ∈ nms stL, i ∉ nms st0 ∧ i ∉ nms st1 ∧ i ∉ nmD d) (hcl : ∀ i b, zat stL i b → ∀ j ∈ nmB b, j ∈ nms stL)
    (hview : ∀ I J μ w, StRep I μ stL [] w → I.le J → (∀ i blk g b, zat stL i blk → μ i = some g → zgy g b → J b = w.heap[b]?) → ∀ xs : List Value, RepL J μ xs das' → RepL J μ xs das) :
    zc8 P f das' (stL ++ st0) (.ret d (stL ++ st1)) := by
  intro I μ w xs hst hx
  have upL : ∀ {i b}, zat stL i b → zat (stL ++ st0) i b := fun h => zzn h
  have up : ∀ {i b}, zat st0 i b → zat (stL ++ st0) i b := fun {i b} h => zzm (fun hm => (h0 i hm).1 (zcb h)) h
  have hown : ∀ b, zcd μ stL b → I b = none ∧ b < w.heap.size := fun b ⟨i, blk, g, h1, h2, h3⟩ => hst.apart i blk g b (upL h1) h2 h3
  have hle : I.le (zzo I μ stL w) := fun b o h => by
    unfold zzo
    by_cases ho : zcd μ stL b
    · rw [(hown b ho).1] at h; cases h
    · simp [ho, h]
  have hJb : ∀ b, zcd μ stL b → zzo I μ stL w b = w.heap[b]? := fun b ho => by simp [zzo, ho]
  have hno : ∀ b, zcd μ stL b → ¬ zcd μ st0 b := fun b ⟨i, bi, gi, q1, q2, q3⟩ ⟨j, bj, gj, h1, h2, h3⟩ => by
    have := hst.inj i j bi bj gi gj b (upL q1) (up h1) q2 h2 q3 h3
    subst this
    exact (h0 i (zcb q1)).1 (zcb h1)
  have hstL : StRep I μ stL [] w :=
    { imm := hst.imm, blk := fun i b h => hst.blk i b (upL h), apart := fun i b g k h => hst.apart i b g k (upL h), inj := fun i j bi bj gi gj b hi hj => hst.inj i j bi bj gi gj b (upL hi) (upL hj), nodup := .nil, idsFree := fun i hi => by cases hi }
  have hst0 : StRep (zzo I μ stL w) μ st0 [] w :=
    { imm := fun b o h => by
        by_cases ho : zcd μ stL b
        · rw [hJb b ho] at h; exact h
        · simp [zzo, ho] at h; exact hst.imm b o h
      blk := fun i b hl => by
        obtain ⟨g, h1, h2⟩ := hst.blk i b (up hl)
        exact ⟨g, h1, h2.mono hle (Mu.le_refl μ)⟩
      apart := fun i b g bb hl hg' hb => by
        obtain ⟨h1, h2⟩ := hst.apart i b g bb (up hl) hg' hb
        refine ⟨?_, h2⟩
        have : ¬ zcd μ stL bb := fun ho => hno bb ho ⟨i, b, g, hl, hg', hb⟩
        simp [zzo, this, h1]
      inj := fun i j bi bj gi gj b hi hj => hst.inj i j bi bj gi gj b (up hi) (up hj)
      nodup := .nil
      idsFree := fun i hi => by cases hi }
  refine (hE (zzo I μ stL w) μ w xs hst0 (hview I _ μ w hstL hle (fun i blk g b h1 h2 h3 => hJb b ⟨i, blk, g, h1, h2, h3⟩) _ (hx.mono hle (Mu.le_refl μ)))).mono (fun u w' hu => ?_) (fun _ _ h => h)
  obtain ⟨I', μ', r1, r2, r3, r4⟩ := hu
  obtain ⟨ν, hν⟩ : ∃ ν : Mu, ν = fun i => if i ∈ nms stL then μ i else μ' i := ⟨_, rfl⟩
  have hνk : ∀ i, i ∈ nms stL → ν i = μ i := fun i hi => by rw [hν]; simp [hi]
  have hνo : ∀ i, i ∉ nms stL → ν i = μ' i := fun i hi => by rw [hν]; simp [hi]
  have hlive : ∀ {i b}, zat (stL ++ st1) i b → zat stL i b ∨ (i ∉ nms stL ∧ zat st1 i b) := fun h => yne h
  have hheap : ∀ b, zcd μ stL b → w'.heap[b]? = w.heap[b]? := fun b hb => r4.block b (hown b hb).2 (hno b hb)
  have hno1 : ∀ b, zcd μ stL b → ∀ i blk g, zat st1 i blk → μ' i = some g → ¬ zgy g b := fun b hb i blk g h1 h2 h3 => hno b hb (r4.fresh b (hown b hb).2 ⟨i, blk, g, h1, h2, h3⟩)
  refine ⟨I, ν, zyn hd r1 (fun i hi g hg' => by rw [hνo i (fun e => (h0 i e).2.2 hi)]; exact hg'), ?_, ?_, ?_⟩
  · refine { imm := fun b o h => r2.imm b o (r4.imm b o (hle b o h)), blk := fun i b hl => ?_, apart := fun i b g bb hl hg' hb => ?_, inj := fun i j bi bj gi gj b hi hj hgi hgj hbi hbj => ?_, nodup := .nil, idsFree := fun i hi => by cases hi }
    · rcases hlive hl with h | ⟨hne, h⟩
      · obtain ⟨g, q1, q2⟩ := hstL.blk i b h
        refine ⟨g, by rw [hνk i (zcb h)]; exact q1, ?_⟩
        exact (q2.world fun k hk => hheap k ⟨i, b, g, h, q1, hk⟩).sub fun j hj g' hg' => by rw [hνk j (hcl i b h j hj)]; exact hg'
      · obtain ⟨g, q1, q2⟩ := r2.blk i b h
        exact ⟨g, by rw [hνo i hne]; exact q1, zyo (zj9 hs h) q2⟩
    · rcases hlive hl with h | ⟨hne, h⟩
      · rw [hνk i (zcb h)] at hg'
        have := hown bb ⟨i, b, g, h, hg', hb⟩
        exact ⟨this.1, Nat.lt_of_lt_of_le this.2 r4.size⟩
      · rw [hνo i hne] at hg'
        obtain ⟨q1, q2⟩ := r2.apart i b g bb h hg' hb
        refine ⟨?_, q2⟩
        cases hI : I bb with
        | none => rfl
        | some o => rw [r4.imm bb o (hle bb o hI)] at q1; cases q1
    · rcases hlive hi with h1 | ⟨hni, h1⟩
      · rw [hνk i (zcb h1)] at hgi
        rcases hlive hj with h2 | ⟨hnj, h2⟩
        · rw [hνk j (zcb h2)] at hgj
          exact hstL.inj i j bi bj gi gj b h1 h2 hgi hgj hbi hbj
        · rw [hνo j hnj] at hgj
          exact absurd hbj (hno1 b ⟨i, bi, gi, h1, hgi, hbi⟩ j bj gj h2 hgj)
      · rw [hνo i hni] at hgi
        rcases hlive hj with h2 | ⟨hnj, h2⟩
        · rw [hνk j (zcb h2)] at hgj
          exact absurd hbi (hno1 b ⟨j, bj, gj, h2, hgj, hbj⟩ i bi gi h1 hgi)
        · rw [hνo j hnj] at hgj
          exact r2.inj i j bi bj gi gj b h1 h2 hgi hgj hbi hbj
  · intro i hi v hv
    by_cases e : i ∈ nms stL
    · rw [hνk i e]; exact hv
    · rw [hνo i e]
      refine r3 i ?_ v hv
      simp only [nms, List.map_append, List.mem_append] at hi e ⊢
      exact hi.resolve_left e
  · refine { imm := Imm.le_refl I, os := r4.os, tape := r4.tape, output := r4.output, size := r4.size, block := fun b hb ho => r4.block b hb fun h => ho ?_, fresh := fun b hb ⟨i, blk, g, h1, h2, h3⟩ => ?_, old := fun _ _ _ => rfl }
    · obtain ⟨i, blk, g, h1, h2, h3⟩ := h
      exact ⟨i, blk, g, up h1, h2, h3⟩
    · rcases hlive h1 with h | ⟨hne, h⟩
      · rw [hνk i (zcb h)] at h2
        exact ⟨_, _, _, upL h, h2, h3⟩
      · rw [hνo i hne] at h2
        obtain ⟨j, bj, gj, q1, q2, q3⟩ := r4.fresh b hb ⟨i, blk, g, h, h2, h3⟩
        exact ⟨j, bj, gj, up q1, q2, q3⟩
theorem zqe {g : Value} {e : TypeId} {sz : Nat} {es : List (List V)} (h : BlkRep I μ w g (.row e sz es)) (hle : I.le J) (hb : ∀ b, zgy g b → J b = w.heap[b]?) : RepV J g (.sl es) := by
  obtain ⟨xs, hown, hrep, hsz, hone, hp⟩ := h
  rcases hown.2 with ⟨rfl, h0⟩ | ⟨gb, cap, cur, rfl, _, hheap, hle2, hcm, hcs, htake⟩
  · have : es = [] := List.eq_nil_of_length_eq_zero h0
    subst this
    exact .slnil
  · have hJg : J gb = some (.cells cur e (0, 0)) := (hb gb rfl).trans hheap
    have hcell : ∀ (i : Nat) (c : List V) (j : Nat) (x : V), es[i]? = some c → c[j]? = some x → ∃ v, xs[i * sz + j]? = some v ∧ cur[i * sz + j]? = some v ∧ RepV I v x ∧ v.oneCell' = true := by
      intro i c j x hi hj
      have h1 := zd0 hsz i c j x hi hj
      have hlt : i * sz + j < xs.length := by rw [hrep.1]; exact (List.getElem?_eq_some_iff.1 h1).1
      obtain ⟨v, hv⟩ : ∃ v, xs[i * sz + j]? = some v := ⟨_, List.getElem?_eq_getElem hlt⟩
      have hr := hrep.2 _ _ _ hv h1
      refine ⟨v, hv, ?_, hr, ?_⟩
      · rw [← htake, List.getElem?_take] at hv
        split at hv
        · simpa using hv
        · cases hv
      · have := hone c (List.mem_of_getElem? hi) x (List.mem_of_getElem? hj)
        exact hr.one this
    refine .sl gb 0 _ cap sz es (fun i j => (cur[i * sz + j]?).getD undef) rfl hle2 hcm hsz (fun i c j x hi hj => ?_) (fun i c j x hi hj => ?_)
    · obtain ⟨v, _, h2, _, h4⟩ := hcell i c j x hi hj
      simp [Imm.cell, hJg, h2, h4]
    · obtain ⟨v, _, h2, h3, _⟩ := hcell i c j x hi hj
      simp only [h2, Option.getD_some]
      exact h3.mono hle
theorem ynf {st : St} {k r : Nat} {t e : TypeId} {sz sz2 : Nat} {ds : List D} {es : List (List V)} {xs : List V} (hst : StRep I μ st [] w) (hk : zat st k (.cells t sz ds)) (hr : zat st r (.row e sz2 es)) (hle : I.le J)
    (hb : ∀ i blk g b, zat st i blk → μ i = some g → zgy g b → J b = w.heap[b]?) (hxs : ypl (yhe r es ds) = some xs) {v : Value} {off : Nat} (hv : RepD J μ v (.ref k off)) : RepD J μ v (.ip t xs off) := by
  obtain ⟨gk, hgk, hs, b, us, rfl, hheap, hrep, hone⟩ := hst.blk k _ hk
  obtain ⟨gr, hgr, hrow⟩ := hst.blk r _ hr
  have h1 : RepV J gr (.sl es) := zqe hrow hle fun b ho => hb r _ gr b hr hgr ho
  have hJk : J b = some (.cells us t (0, 0)) := (hb k _ _ b hk hgk rfl).trans hheap
  have h2 : RepL J μ us.toList (yhe r es ds) := by
    refine ⟨by rw [zgr, List.length_map, hrep.1], fun i v x hv hx => ?_⟩
    rw [zgr, List.getElem?_map] at hx
    cases hl : ds[i]? with
    | none => rw [hl] at hx; cases hx
    | some y => rw [hl] at hx; cases hx; exact (hrep.2 i v y hv hl).frz hle hgr h1
  have h3 : RepVL J us.toList xs := zv6 hxs h2
  cases hv with
  | ref b' id o hm =>
    rw [hm] at hgk
    cases hgk
    have := RepD.ip (I := J) (μ := μ) b 0 t xs off (fun j => (us[j]?).getD undef) (fun j x hx => ?_) (fun j x hx => ?_)
    · simpa using this
    · have hlt : j < us.toList.length := by rw [h3.1]; exact (List.getElem?_eq_some_iff.1 hx).1
      have hu : us[j]? = some us.toList[j] := by simp
      simp only [Imm.cell, hJk, Nat.zero_add, hu, Option.getD_some, true_and]
      exact hone _ (List.getElem_mem hlt)
    · have hlt : j < us.toList.length := by rw [h3.1]; exact (List.getElem?_eq_some_iff.1 hx).1
      have hu : us[j]? = some us.toList[j] := by simp
      simp only [hu, Option.getD_some]
      exact h3.2 j _ x (List.getElem?_eq_getElem hlt) hx
end
end Go.Hk
namespace Go.Hk
section
variable {P : Program} {n : Nat} {F : List Nat} {Q : DQ} {todo : List DI} {env : Env} {st : St} {ids' : List Nat}
theorem ygt {α : Type} (id j : Nat) {A : Asn} (B : α → Asn) (hl : lk st id = some (some (.hp A)))
    (hA : ∀ vs I w bs, A.P vs I w bs → ∃ x b1, (∀ b ∈ b1, b ∈ bs) ∧ ∀ J, I.le J → (∀ b ∈ bs, b ∉ b1 → J b = w.heap[b]?) → (B x).P [] J w b1)
    (h : ∀ x, DGo P n F Q todo env ((j, some (.hp (B x))) :: (id, none) :: st) ids') : DGo P n F Q todo env st (j :: ids') := by
  refine zed fun I μ a w hc => ?_
  obtain ⟨g, hg, vs, bs, rfl, hP⟩ := hc.blk id _ hl
  obtain ⟨x, b1, hb1, hB⟩ := hA vs I w bs hP
  have hbs : ∀ b ∈ bs, I b = none ∧ b < w.heap.size := fun b hb => hc.apart id _ _ b hl hg (za7.2 hb)
  obtain ⟨rest, hrest⟩ : ∃ rest, rest = bs.filter fun b => !zlm b1 b := ⟨_, rfl⟩
  have hmem : ∀ b, b ∈ rest ↔ b ∈ bs ∧ b ∉ b1 := fun b => by rw [hrest, List.mem_filter]; simp [← zbx]
  have hle : I.le (I.plus rest w) := fun b o h => by
    have : zlm rest b = false := by
      cases hm : zlm rest b with
      | false => rfl
      | true => rw [(hbs b ((hmem b).1 (zbx.1 hm)).1).1] at h; cases h
    simp [Imm.plus, this, h]
  have hR := hB (I.plus rest w) hle fun b h1 h2 => by simp [Imm.plus, zbx.2 ((hmem b).2 ⟨h1, h2⟩)]
  obtain ⟨q1, q2, q3⟩ := StRep.relay (R := [id]) (new := [(j, hpG [] b1, .hp (B x))]) (ids' := ids') (J := I.plus rest w) hc.toStRep
    (fun p hp b' hb => by
      rw [List.mem_singleton.1 hp] at hb
      exact ⟨id, _, _, by simp, hl, hg, za7.2 (hb1 b' (za7.1 hb))⟩)
    (fun p hp q hq b _ _ => by rw [List.mem_singleton.1 hp, List.mem_singleton.1 hq]) hle
    (fun b o h => by
      unfold Imm.plus at h
      split at h
      · exact h
      · exact hc.imm b o h)
    (fun b' o h => by
      unfold Imm.plus at h
      split at h
      · rename_i hm
        have hm := (hmem b').1 (zbx.1 hm)
        refine .inr ⟨⟨id, _, _, by simp, hl, hg, za7.2 hm.1⟩, fun p hp hb => ?_⟩
        rw [List.mem_singleton.1 hp] at hb
        exact hm.2 (za7.1 hb)
      · exact .inl h)
    (fun _ p hp => by
      rw [List.mem_singleton.1 hp]
      exact ⟨[], b1, rfl, hR⟩)
  exact ⟨_, _, env, _, ids', q2, fun t d hd => (hc.env t d hd).mono hle q1, q3, .of_le q1, h x⟩
end
end Go.Hk
namespace Go.Hk
open Go.Proofs
def zwy (l : List An) : List An := l.map fun a => .im true (cA a) (vA a)
theorem zsh (l : List An) : (zwy l).length = l.length := by simp [zwy]
theorem yai : ∀ l : List An, zd9 (zwy l) = []
  | [] => rfl
  | a :: r => by
    have := yai r
    simp only [zwy] at this
    simp [zwy, zd9, anB, this]
theorem ycp : ∀ l : List An, vAs (zwy l) = vAs l
  | [] => rfl
  | a :: r => by
    have := ycp r
    simp only [zwy] at this
    simp [zwy, vAs, vA, this]
theorem ypd {I J : Imm} {w : World} (hIJ : I.le J) {b : Nat} : ∀ {l : List An} {i : Nat}, zfv I w true b i l → (∀ k ∈ zd9 l, J k = w.heap[k]?) → zfv J w true b i (zwy l)
  | [], _, _, _ => by simp [zwy, zfv]
  | a :: r, i, h, hJ => by
    simp only [zfv] at h
    simp only [zd9, List.mem_append] at hJ
    have ih := ypd hIJ (l := r) (i := i + 1) h.2 fun k hk => hJ k (.inr hk)
    simp only [zwy, List.map_cons, zfv] at ih ⊢
    have hv : (vA a).length = szA true := by
      have := zx0 h.1.2.2
      rw [this, h.1.1]
    exact ⟨⟨rfl, h.1.2.1, zvw hIJ h.1.2.2 (fun k hk => hJ k (.inl hk)), yac h.1.2.2, hv⟩, ih⟩
theorem ypw {I : Imm} {w : World} {vs : List Value} {bs : List Nat} {b : Nat} {o n : Int} {x : Str} {v : Value} {ks : List An} {u : Value} {ps : List An} (h : (ziz b (.mk true o n x v ks u ps)).P vs I w bs) :
    ∃ b1, (∀ k ∈ b1, k ∈ bs) ∧ ∀ J, I.le J → (∀ k ∈ bs, k ∉ b1 → J k = w.heap[k]?) → (ziz b (.mk true o n x v (zwy ks) u ps)).P [] J w b1 := by
  obtain ⟨h1, h2, h3, h4, h5, h6⟩ := h
  have hB : anB (.mk true o n x v (zwy ks) u ps) = zdt v ks.length ++ (zdt u ps.length ++ zd9 ps) := by simp [anB, yai, zsh]
  have hA : anB (.mk true o n x v ks u ps) = (zdt v ks.length ++ zd9 ks) ++ (zdt u ps.length ++ zd9 ps) := rfl
  rw [hA] at h1
  rw [h1] at h2
  refine ⟨b :: (zdt v ks.length ++ (zdt u ps.length ++ zd9 ps)), fun k hk => ?_, fun J hJ hJk => ?_⟩
  · rw [h1]
    simp only [List.mem_cons, List.mem_append] at hk ⊢
    rcases hk with h | h | h | h
    · exact .inl h
    · exact .inr (.inl (.inl h))
    · exact .inr (.inr (.inl h))
    · exact .inr (.inr (.inr h))
  · have hsub : (b :: (zdt v ks.length ++ (zdt u ps.length ++ zd9 ps))).Sublist (b :: ((zdt v ks.length ++ zd9 ks) ++ (zdt u ps.length ++ zd9 ps))) := by
      refine List.Sublist.cons_cons b (List.Sublist.append (List.sublist_append_left _ _) (List.Sublist.refl _))
    simp only [anW] at h6
    refine ⟨by rw [hB], h2.sublist hsub, rfl, h4, h5, ?_⟩
    simp only [anW, zsh]
    refine ⟨⟨h6.1.1, ypd hJ h6.1.2 fun k hk => hJk k (by rw [h1]; simp [hk]) fun hk2 => ?_⟩, fun _ => ⟨(h6.2 trivial).1, zj4 hJ (h6.2 trivial).2⟩⟩
    have n1 := List.nodup_cons.1 h2
    have n2 := List.nodup_append.1 n1.2
    have n3 := List.nodup_append.1 n2.1
    rcases List.mem_cons.1 hk2 with rfl | hk2
    · exact n1.1 (by simp [hk])
    · rcases List.mem_append.1 hk2 with h | h
      · exact n3.2.2 k h k hk rfl
      · exact n2.2.2 k (by simp [hk]) k h rfl
set_option maxRecDepth 100000 in
theorem zn2 (l : List Str) : DGo Tryz.prog Tryz.f65.ntmps [] (yar ttN Tryz.f65.results.toList (.ret (.own 4 (za5 l).length) [(4, some (.row 9 1 (za5 l)))])) [.inBlock 0, .code (zg0 Tryz.f65 3)] [(5, .ref 1 0)] (stL l l.length) [7, 8, 9] := by
  cases l with
  | nil =>
    refine nd [] rfl (by simp [zag]) ?_
    refine zek (e := 9) (sz := 1) 4 7 (by decide) rfl ?_
    refine zbt 4 7 rfl ?_
    exact zab ⟨_, rfl, rfl, rfl, trivial⟩
  | cons x r =>
    have e : za5 ((x :: r).take ((x :: r).length)) = za5 (x :: r) := by rw [List.take_of_length_le (Nat.le_refl _)]
    have e2 : stL (x :: r) (x :: r).length = [(1, some (.cells 36 1 [.own 4 (za5 (x :: r)).length])), (4, some (.row 9 1 (za5 (x :: r))))] := by
      simp only [List.length_cons, stL] at e ⊢
      rw [e]
    rw [e2]
    refine nd [] rfl (by simp [zag]) ?_
    exact zab ⟨_, rfl, rfl, rfl, trivial⟩
set_option maxRecDepth 100000 in
theorem ydz (op n : Int) (x : Str) (ks : List Tm) (ps : List Ty) (kid : Int) (hk : kid ≤ 1000000) (hp : zbg op kid = false → zbr op kid = true → ∃ p, ps[(kid - 1).toNat]? = some p ∧ (za3 p).length ≤ 1000000) :
    zc8 Tryz.prog 65 [.ip 26 (dTmc (.mk op n x ks ps)) 0, .imm (.int .i64 kid)] [] (.ret (.own 4 (za5 (zad (.mk op n x ks ps) kid)).length) [(4, some (.row 9 1 (za5 (zad (.mk op n x ks ps) kid))))]) := by
  refine zaf zb1 Tryz.func65 (by decide +kernel) rfl [1, 6, 7, 8, 9] rfl rfl ?_
  refine nd [] rfl (by simp [zag]) ?_
  cases h : zbg op kid with
  | true =>
    have e : zad (.mk op n x ks ps) kid = [x] := by simp [zad, h]
    rw [e]
    refine zas (st0 := []) (fr := [6]) [] [(6, 6)] rfl (by simp) (zvt op n x ks ps kid h) trivial rfl rfl rfl rfl ?_
    refine nd [] rfl (by simp [zag]) ?_
    refine zd1 (y := 3) (j := 4) (j2 := 5) (stc := ygz (.mk op n x ks ps)) (stc' := ygz (.mk op n x ks ps)) (stx := stL [x] 0) (stB := stL [x] 1) (pend := none) (E := [(5, .ref 1 0)]) (ids' := [7, 8, 9]) (d := .tup []) rfl Tryz.func97 (by decide +kernel) rfl (by decide) ⟨rfl, trivial⟩
      (zci ⟨rfl, rfl, trivial⟩) (fun L h1 h2 h3 h4 h5 h6 h7 => yah (r := true) (.mk op n x ks ps) (.cons (zr9 [x] (by simp) 0 (.mk op n x ks ps) rfl h1 h2 h3 h4 h5 h6 h7) (.nil _))) ?_ ?_ ?_ ?_ (zn2 [x])
    · simp [ygz, stL, nms]
    · simp [ygz, nms]
    · intro i hi
      have e : nmL (zlx (zi0 (zbz [] ++ [(6, 6)])) [] ++ zlx (zi0 (zbz [] ++ [(6, 6)])) [.ref 6 0]) = [6] := rfl
      rw [e] at hi
      simpa [ygz, nms, zfk, nmB, nmL, nmD] using hi
    · refine ⟨by decide, ?_⟩
      simp [stL, nmE, nmD, zfk, nmB, nmL, nms]
  | false =>
    cases h2 : zbr op kid with
    | true =>
      obtain ⟨p, hp1, hp2⟩ := hp h h2
      have e : zad (.mk op n x ks ps) kid = za3 p := by
        show (if zbg op kid then [x] else if zbr op kid then (match ps[(kid - 1).toNat]? with | some p => za3 p | none => []) else []) = za3 p
        rw [h, h2, hp1]
        rfl
      rw [e]
      refine zas (st0 := []) (fr := [6]) [] [(6, 6)] rfl (by simp) (yaf op n x ks ps kid h h2 p hp1 hk) trivial rfl rfl rfl rfl ?_
      refine nd [] rfl (by simp [zag]) ?_
      refine zd1 (y := 3) (j := 4) (j2 := 5) (stc := yel p) (stc' := yel p) (stx := stL (za3 p) 0) (stB := stL (za3 p) (za3 p).length) (pend := none) (E := [(5, .ref 1 0)]) (ids' := [7, 8, 9]) (d := .tup []) rfl Tryz.func113 (by decide +kernel) rfl (by decide) ⟨rfl, trivial⟩
        (zci ⟨rfl, rfl, trivial⟩) (fun L h1 h2 h3 h4 h5 h6 h7 => zze (b := true) p ?_) ?_ ?_ ?_ ?_ (zn2 (za3 p))
      · have := Yields.all (P := Tryz.prog) (l := ziu p) (fun i => zdv L (stL (za3 p) i) none) fun i d hi => by
          rw [zjh, List.getElem?_map] at hi
          cases hu : (zb2 p)[i]? with
          | none => rw [hu] at hi; cases hi
          | some u =>
            rw [hu] at hi
            cases hi
            exact zsa (za3 p) hp2 i u (by simp [za3, hu]) h1 h2 h3 h4 h5 h6 h7
        have hl : (ziu p).length = (za3 p).length := by simp [zjh, za3]
        rw [hl] at this
        exact this
      · cases (za3 p).length <;> simp [yel, stL, nms]
      · simp [yel, nms]
      · intro i hi
        have e : nmL (zlx (zi0 (zbz [] ++ [(6, 6)])) [] ++ zlx (zi0 (zbz [] ++ [(6, 6)])) [.ref 6 0]) = [6] := rfl
        rw [e] at hi
        simpa [yel, nms, zfk, nmB, nmL, nmD] using hi
      · refine ⟨by decide, ?_⟩
        cases (za3 p).length <;> simp [stL, nmE, nmD, zfk, nmB, nmL, nms]
    | false =>
      have e : zad (.mk op n x ks ps) kid = [] := by simp [zad, h, h2]
      rw [e]
      refine zas (st0 := []) (fr := []) [] [] rfl (by simp) (zvv op n x ks ps kid h h2) trivial rfl rfl rfl rfl ?_
      refine nd [] rfl (by simp [zag]) ?_
      refine zs3 9 rfl ?_
      refine zd1 (y := 3) (j := 4) (j2 := 5) (stc := []) (stc' := []) (stx := stL [] 0) (stB := stL [] 0) (pend := none) (E := [(5, .ref 1 0)]) (ids' := [7, 8, 9]) (d := .tup []) rfl Tryz.func99 (by decide +kernel) rfl (by decide) ⟨rfl, trivial⟩
        (zci ⟨rfl, trivial⟩) (fun L h1 h2 h3 h4 h5 h6 h7 => zne) ?_ ?_ ?_ ?_ (zn2 [])
      · simp [nms]
      · simp [nms]
      · intro i hi
        have e : nmL (([] : List D) ++ []) = [] := rfl
        rw [e] at hi
        simp [zfk] at hi
      · refine ⟨by decide, ?_⟩
        simp [stL, nmE, nmD, zfk, nmB, nmL, nms]
theorem yh7 {I J : Imm} {μ : Mu} {w : World} {vs : List Value} {bs : List Nat} {b : Nat} {a : An} {v : Value} (h : (ziz b a).P vs I w bs) (hle : I.le J) (hb : ∀ k ∈ bs, J k = w.heap[k]?) (hv : RepD J μ v (.raw (.pointer (some ⟨b, 0, none⟩)))) :
    RepD J μ v (.ip 26 (vA a) 0) := by
  obtain ⟨h1, h2, h3, h4, ⟨cur, ty, k, h5, h6⟩, h7⟩ := h
  have hr : RepVL J (cA a) (vA a) := zvw hle h7 fun k hk => hb k (by rw [h1]; simp [hk])
  have hJ : J b = some (.cells cur ty k) := (hb b (by rw [h1]; simp)).trans h5
  have e := hv.rawInv
  subst e
  have hget : ∀ (j : Nat) (x : V), (vA a)[j]? = some x → ∃ c, (cA a)[j]? = some c ∧ cur[j]? = some c := fun j x hx => by
    have hlt : j < (cA a).length := by rw [hr.1]; exact (List.getElem?_eq_some_iff.1 hx).1
    refine ⟨_, List.getElem?_eq_getElem hlt, ?_⟩
    have := h6 j _ (List.getElem?_eq_getElem hlt)
    simpa using this
  have := RepD.ip (I := J) (μ := μ) b 0 26 (vA a) 0 (fun j => (cur[j]?).getD undef) (fun j x hx => ?_) (fun j x hx => ?_)
  · simpa using this
  · obtain ⟨c, q1, q2⟩ := hget j x hx
    simp only [Imm.cell, hJ, Nat.zero_add, q2, Option.getD_some, true_and]
    exact yac h7 c (List.mem_of_getElem? q1)
  · obtain ⟨c, q1, q2⟩ := hget j x hx
    simp only [q2, Option.getD_some]
    exact hr.2 j c x q1 hx
end Go.Hk
