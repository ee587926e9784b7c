import Derived.Test.YtphmjdnljmhipaaGreatDoorAmExt
namespace Go.AM
def polL (l : List (Nat × Nat)) (r i : Nat) : Bool := l.any fun p => p.1.beq r && p.2.beq i
def AllT {α : Type} (Q : Nat → α → Prop) : Tr α → Prop
  | .nil => True
  | .node o l r => (∀ v, o = some v → Q 0 v) ∧ AllT (fun k => Q (2 * k + 1)) l ∧ AllT (fun k => Q (2 * k + 2)) r
theorem allT_getN {α : Type} : ∀ (f : Nat) (t : Tr α) (n : Nat) (Q : Nat → α → Prop) (v : α), n ≤ f → AllT Q t → Tr.getN f t n = some v → Q n v
  | f, .nil, n, Q, v, _, _, h => by rw [Tr.getN_nil] at h; cases h
  | 0, .node o l r, n, Q, v, hn, ha, h => by
    obtain rfl : n = 0 := by omega
    exact ha.1 v h
  | f + 1, .node o l r, n, Q, v, hn, ha, h => by
    unfold Tr.getN at h
    by_cases h0 : n = 0
    · subst h0; exact ha.1 v (by simpa [Nat.beq, Tr.val] using h)
    · have hb : n.beq 0 = false := by cases n <;> simp_all [Nat.beq]
      simp only [hb, cond_false] at h
      have e1 : n.mod 2 = n % 2 := rfl
      have e2 : n.div 2 = n / 2 := rfl
      rw [e1, e2] at h
      by_cases ho : n % 2 = 1
      · rw [ho] at h
        have := allT_getN f l (n / 2) _ v (by omega) ha.2.1 h
        rwa [show 2 * (n / 2) + 1 = n by omega] at this
      · have hz : n % 2 = 0 := by omega
        rw [hz] at h
        have := allT_getN f r (n / 2 - 1) _ v (by omega) ha.2.2 h
        rwa [show 2 * (n / 2 - 1) + 2 = n by omega] at this
theorem allT_get {α : Type} {Q : Nat → α → Prop} {t : Tr α} (ha : AllT Q t) (n : Nat) (v : α) (h : t.get n = some v) : Q n v := allT_getN n t n Q v (Nat.le_refl _) ha h
end Go.AM
namespace Go.AM
theorem lsBeq_eq {a b : LS} (h : lsBeq a b = true) : a = b := by
  cases a <;> cases b <;> simp only [lsBeq, Bool.false_eq_true] at h <;> first | rfl | rw [Nat.eq_of_beq_eq_true h]
theorem esBeq_eq : ∀ {a b : List (AV × AV)}, esBeq a b = true → a = b
  | [], [], _ => rfl
  | [], _ :: _, h => by simp [esBeq] at h
  | _ :: _, [], h => by simp [esBeq] at h
  | (p1, p2) :: a, (q1, q2) :: b, h => by
    simp only [esBeq, Bool.and_eq_true] at h
    rw [avBeq_eq _ _ h.1.1, avBeq_eq _ _ h.1.2, esBeq_eq h.2]
theorem aoBeq_eq {a b : AO} (h : aoBeq a b = true) : a = b := by
  cases a <;> cases b <;> simp only [aoBeq, Bool.false_eq_true] at h
  · rw [avsBeq_eq _ _ h]
  · rw [avsBeq_eq _ _ h]
  · rw [esBeq_eq h]
  · rw [lsBeq_eq h]
theorem subTr_get {α : Type} {eq : α → α → Bool} (he : ∀ a b, eq a b = true → a = b) : ∀ (f n : Nat) (t u : Tr α) (v : α), subTr eq t u = true → Tr.getN f t n = some v → Tr.getN f u n = some v
  | f, n, .nil, u, v, _, h => by rw [Tr.getN_nil] at h; cases h
  | f, n, .node o l r, .nil, v, hs, _ => by simp [subTr] at hs
  | f, n, .node o l r, .node o' l' r', v, hs, h => by
    simp only [subTr, Bool.and_eq_true] at hs
    have hv : ∀ v, o = some v → o' = some v := fun v hv => by
      subst hv
      have := hs.1.1
      cases o' with
      | none => simp at this
      | some b => simp only at this; rw [he _ _ this]
    cases f with
    | zero => exact hv v h
    | succ f =>
      unfold Tr.getN at h ⊢
      cases hb : n.beq 0
      · simp only [hb, cond_false] at h ⊢
        cases ho : (n.mod 2).beq 1
        · simp only [ho, cond_false] at h ⊢
          exact subTr_get he f _ r r' v hs.2 h
        · simp only [ho, cond_true] at h ⊢
          exact subTr_get he f _ l l' v hs.1.2 h
      · simp only [hb, cond_true] at h ⊢
        exact hv v h
structure SubSt (L st : St) : Prop where
  next : L.next = st.next
  obj : ∀ id o, L.get id = some o → st.get id = some o
  bt : L.bt = .nil
theorem subSt_of {L st : St} (h : subStB L st = true) : SubSt L st := by
  simp only [subStB, Bool.and_eq_true] at h
  refine ⟨Nat.eq_of_beq_eq_true h.1.1, fun id o ho => subTr_get (fun a b => aoBeq_eq) _ _ _ _ _ h.1.2 ho, ?_⟩
  have := h.2
  split at this
  · assumption
  · cases this
theorem Sat.sub {E : Env} {L st : St} {w : World} (hs : Sat E st w) (h : SubSt L st) : Sat E L w :=
  ⟨fun id b hb => by rw [h.next]; exact hs.dom id b hb, hs.fz, fun id o b h1 h2 => hs.obj id o b (h.obj _ _ h1) h2, fun i i' o o' b h1 h2 => hs.sep i i' o o' b (h.obj _ _ h1) (h.obj _ _ h2),
    fun id o b h1 => hs.lv id o b (h.obj _ _ h1), fun id hi => by rw [h.next]; exact hs.rs id hi, hs.dz, fun id t ht => by rw [h.bt, Tr.get_nil] at ht; cases ht⟩
theorem eqTr_eq {α : Type} {eq : α → α → Bool} (he : ∀ a b, eq a b = true → a = b) : ∀ (t u : Tr α), eqTr eq t u = true → t = u
  | .nil, .nil, _ => rfl
  | .nil, .node _ _ _, h => by simp [eqTr] at h
  | .node _ _ _, .nil, h => by simp [eqTr] at h
  | .node o l r, .node o' l' r', h => by
    simp only [eqTr, Bool.and_eq_true] at h
    have ho : o = o' := by
      have := h.1.1
      cases o <;> cases o' <;> simp only [Bool.false_eq_true] at this
      · rfl
      · rw [he _ _ this]
    rw [ho, eqTr_eq he l l' h.1.2, eqTr_eq he r r' h.2]
theorem eqFr_eq {F G : Fr} (h : eqFr F G = true) : F = G := by
  simp only [eqFr, Bool.and_eq_true] at h
  have h1 := eqTr_eq avBeq_eq _ _ h.1
  have h2 : F.ds = G.ds := by
    have := h.2
    split at this
    · rename_i e1 e2; rw [e1, e2]
    · cases this
  cases F; cases G
  simp only at h1 h2
  rw [h1, h2]
inductive Ev (Γ : Gam) (n : Nat) : MCode → Fr → St → CR → Prop where
  | run {mc : MCode} {fr : Fr} {st : St} {r : CR} : acode Γ Y0 n mc none fr st = r → Ev Γ n mc fr st r
  | seq {a b : MCode} {fr fr1 : Fr} {st st1 : St} {r : CR} : Ev Γ n a fr st (.norm fr1 st1) → Ev Γ n b fr1 st1 r → Ev Γ n (.seq a b) fr st r
  | cut {mc : MCode} {fr : Fr} {L st : St} {r : CR} : SubSt L st → Ev Γ n mc fr L r → Ev Γ n mc fr st r
section
variable {P : Program} {Γ : Gam}
theorem ccode_seq {N : Nat} {pol : Nat → Nat → Bool} {c : Code} {a b : MCode} (h : ccode P N pol false c = .seq a b) : ∃ ca cb, c = .seq ca cb ∧ ccode P N pol false ca = a ∧ ccode P N pol false cb = b := by
  cases c with
  | seq ca cb => simp only [ccode, MCode.seq.injEq] at h; exact ⟨ca, cb, rfl, h.1, h.2⟩
  | region id ops draw =>
    exfalso
    cases draw
    · simp only [ccode] at h
      split at h <;> cases h
    · simp only [ccode] at h
      split at h
      · unfold cdraw at h
        cases hb : (P.follows .mixedOrders && drawB ops _ && allocsB ops.toList _) <;> rw [hb] at h <;> cases h
      · cases h
  | cond x d e => exfalso; simp only [ccode] at h; split at h <;> cases h
  | rangeFunc g ps d e =>
    exfalso
    simp only [ccode] at h
    split at h
    · cases hb : (ps.toList.all fun p => Nat.ble (p + 1) N) <;> rw [hb] at h <;> cases h
    · cases h
  | _ => exfalso; simp only [ccode] at h; cases h
theorem Ev.sound {N n B : Nat} {pol : Nat → Nat → Bool} (hG : GSound P Γ) {mc : MCode} {fr : Fr} {st : St} {r : CR} (h : Ev Γ n mc fr st r) : ∀ (c : Code) (E : Env) (w : World) (a : Act), ccode P N pol false c = mc → r ≠ .stuck → RvA P E w N B fr a → Sat E st w →
    c.wpIn (FR0 none) 0 P (CReach P E w N B r) a w := by
  induction h with
  | run hr =>
    intro c E w a hc hst hf hs
    subst hc
    exact acode_sound hG c false none none (fun _ => rfl) B E w _ a _ _ (Y0_sound E w) trivial hr hst hf hs
  | seq _ _ iha ihb =>
    intro c E w a hc hst hf hs
    obtain ⟨ca, cb, rfl, h1, h2⟩ := ccode_seq hc
    refine wpIn_seq (wpIn_mono (iha ca E w a h1 (by simp) hf hs) fun e a' w' ⟨he, E', k1, k2, k3⟩ => ?_)
    subst he
    exact wpIn_mono (ihb cb E' w' a' h2 hst k3 k2) fun _ _ _ hq => CReach.mono k1 hq
  | cut hsub _ ih =>
    intro c E w a hc hst hf hs
    exact ih c E w a hc hst hf (hs.sub hsub)
theorem Ev.calls {tbl : Nat → Option MFunc} {hand : Gam → Nat → Yenv → Nat → List AV → St → FR} (ht : TblOk P tbl) (hh : HandOk P hand) {n f : Nat} {mf : MFunc} (hf : tbl f = some mf) {args : List AV} {st st1 st' : St} {fr1 : Fr} {v : AV} {E : Env} {w : World} {vs : Array Value}
    (ha : RvL E w args vs.toList) (hs : Sat E st w) (hle : args.length ≤ mf.N) (hev : Ev (gamT tbl hand n) n mf.code (frOf 0 args Fr.nil) st (.norm fr1 st1) ∨ Ev (gamT tbl hand n) n mf.code (frOf 0 args Fr.nil) st (.ret fr1 st1))
    (hds : fr1.ds = []) (hr : resultA fr1 st1 mf.res = .ret v st') : Enters P f ∧ Calls P f vs w (RetR E w v st') := by
  obtain ⟨fn, pol, h1, h2⟩ := ht f mf hf
  have hG := gamT_sound ht hh n
  obtain ⟨c, rs, hb, hname, hrs, rfl⟩ := cfunc_parts h2
  refine ⟨enters_of h1 hb hname, ?_⟩
  have hstart : RvA P E w fn.ntmps w.heap.size (frOf 0 args Fr.nil) { tmps := vs ++ Array.replicate (fn.ntmps - vs.size) undef, defers := [] } := start_act ha hle (Nat.le_refl _)
  have fin : ∀ (a' : Act) (w' : World) (E' : Env), Ext E w E' w' → Sat E' st1 w' → RvA P E' w' fn.ntmps w.heap.size fr1 a' → LeavesInM Fence.wide 0 P fn a'.tmps (RetR E w v st') a'.defers .returning w' := fun a' w' E' k1 k2 k3 => by
    have hd : a'.defers = [] := by have := k3.d; rw [hds] at this; exact this
    rw [hd]
    obtain ⟨u, h6, h7, h8⟩ := resultA_sound k3.f.part k2 hrs hr
    exact ⟨u, h6, u, E', rfl, k1, h8 ▸ k2, h7⟩
  refine (callsIn_wide (n := 0)).1 (callsIn_of_wp_marks (F := Fence.wide) h1 hb trivial ?_)
  rcases hev with hev | hev
  · refine wpIn_mono (Ev.sound (B := w.heap.size) hG hev c E w _ rfl (by simp) hstart hs) fun e a' w' ⟨he, E', k1, k2, k3⟩ => ?_
    subst he
    exact fin a' w' E' k1 k2 k3
  · refine wpIn_mono (Ev.sound (B := w.heap.size) hG hev c E w _ rfl (by simp) hstart hs) fun e a' w' ⟨he, E', k1, k2, k3⟩ => ?_
    subst he
    exact fin a' w' E' k1 k2 k3
end
theorem tailAt_add : ∀ (mc : MCode) (j k : Nat), tailAt (tailAt mc j) k = tailAt mc (j + k)
  | mc, 0, k => by rw [Nat.zero_add]; simp only [tailAt]
  | mc, j + 1, k => by
    rw [show j + 1 + k = (j + k) + 1 by omega]
    cases mc <;> simp only [tailAt]
    case seq a b => exact tailAt_add b j k
    all_goals cases k <;> simp only [tailAt]
def runSeg (Γ : Gam) (n : Nat) : Nat → MCode → Fr → St → Option (MCode × Fr × St)
  | 0, mc, fr, st => some (mc, fr, st)
  | j + 1, .seq a b, fr, st => match acode Γ Y0 n a none fr st with
    | .norm fr st => runSeg Γ n j b fr st
    | _ => none
  | _ + 1, _, _, _ => none
def pieceB (Γ : Gam) (n j : Nat) (mc : MCode) (F : Fr) (L : St) (F' : Fr) (L' : St) : Bool :=
  match runSeg Γ n j mc F L with
  | some (_, fr, st) => eqFr fr F' && subStB L' st
  | none => false
theorem runSeg_tail {Γ : Gam} {n : Nat} : ∀ (j : Nat) (mc mc' : MCode) (F fr : Fr) (L st : St) (r : CR), runSeg Γ n j mc F L = some (mc', fr, st) → mc' = tailAt mc j ∧ (Ev Γ n mc' fr st r → Ev Γ n mc F L r)
  | 0, mc, mc', F, fr, L, st, r, h => by
    simp only [runSeg, Option.some.injEq, Prod.mk.injEq] at h
    obtain ⟨rfl, rfl, rfl⟩ := h
    exact ⟨by unfold tailAt; rfl, fun h => h⟩
  | j + 1, mc, mc', F, fr, L, st, r, h => by
    cases mc <;> simp only [runSeg, reduceCtorEq] at h
    rename_i a b
    split at h
    · rename_i fr1 st1 ha
      obtain ⟨h1, h2⟩ := runSeg_tail j b mc' fr1 fr st1 st r h
      exact ⟨by rw [h1]; simp only [tailAt], fun hev => .seq (.run ha) (h2 hev)⟩
    · cases h
theorem piece_ev {Γ : Gam} {n j : Nat} {mc : MCode} {F F' : Fr} {L L' : St} {r : CR} (h : pieceB Γ n j mc F L F' L' = true) (hev : Ev Γ n (tailAt mc j) F' L' r) : Ev Γ n mc F L r := by
  unfold pieceB at h
  split at h
  · rename_i mc' fr st hr
    simp only [Bool.and_eq_true] at h
    obtain ⟨h1, h2⟩ := runSeg_tail j mc mc' F fr L st r hr
    refine h2 ?_
    rw [h1, eqFr_eq h.1]
    exact .cut (subSt_of h.2) hev
  · cases h
def lastB (Γ : Gam) (n : Nat) (mc : MCode) (F : Fr) (L : St) (res : List MRes) (v : AV) : Bool :=
  match acode Γ Y0 n mc none F L with
  | .norm fr st => (match fr.ds with | [] => true | _ => false) && (match resultA fr st res with | .ret u _ => avBeq u v | _ => false)
  | .ret fr st => (match fr.ds with | [] => true | _ => false) && (match resultA fr st res with | .ret u _ => avBeq u v | _ => false)
  | _ => false
theorem last_ev {Γ : Gam} {n : Nat} {mc : MCode} {F : Fr} {L : St} {res : List MRes} {v : AV} (h : lastB Γ n mc F L res v = true) : ∃ fr1 st1 st', (Ev Γ n mc F L (.norm fr1 st1) ∨ Ev Γ n mc F L (.ret fr1 st1)) ∧ fr1.ds = [] ∧ resultA fr1 st1 res = .ret v st' := by
  have key : ∀ (fr : Fr) (st : St), ((match fr.ds with | [] => true | _ => false) && (match resultA fr st res with | .ret u _ => avBeq u v | _ => false)) = true → fr.ds = [] ∧ ∃ st', resultA fr st res = .ret v st' := fun fr st h => by
    simp only [Bool.and_eq_true] at h
    refine ⟨?_, ?_⟩
    · have := h.1
      split at this
      · assumption
      · cases this
    · have := h.2
      split at this
      · rename_i u st' hr
        exact ⟨st', by rw [hr, avBeq_eq _ _ this]⟩
      · cases this
  unfold lastB at h
  split at h
  · rename_i fr st hr
    obtain ⟨h1, st', h2⟩ := key fr st h
    exact ⟨fr, st, st', .inl (.run hr), h1, h2⟩
  · rename_i fr st hr
    obtain ⟨h1, st', h2⟩ := key fr st h
    exact ⟨fr, st, st', .inr (.run hr), h1, h2⟩
  · cases h
end Go.AM
