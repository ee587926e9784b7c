import Derived.Test.YtphmjdnljmhipaaGreatDoorAmDraw2
import Derived.Test.YtphmjdnljmhipaaGreatDoorAmLoop
namespace Go.AM
def ancsGo : List Oper → List Nat → List Nat
  | [], acc => acc
  | o :: os, acc => ancsGo os (acc ++ [ancFold (fun j => acc.getD j 0) o.after.toList 0])
def allocB (o : Oper) (m : MOp) : Bool :=
  match m with
  | .alloc _ => (match o.op with | .alloc _ => true | _ => false)
  | m => !m.special
def allocsB : List Oper → List MOper → Bool
  | o :: os, m :: ms => allocB o m.op && allocsB os ms
  | _, _ => true
def cdraw (P : Program) (ops : Array Oper) (ms : List MOper) (zs : List (MOper × Nat)) : MCode :=
  bif P.follows .mixedOrders && drawB ops zs && allocsB ops.toList ms then .draw zs (chkOf ops.size zs) else .bad
def ccode (P : Program) (N : Nat) (pol : Nat → Nat → Bool) : Bool → Code → MCode
  | _, .skip => .skip
  | rd, .region id ops false => match copers P ops N rd (pol id) 0 ops.toList with
    | some ms => .region ms
    | none => .bad
  | rd, .region id ops true => match copers P ops N rd (pol id) 0 ops.toList with
    | some ms => cdraw P ops ms (ms.zip (ancsGo ops.toList []))
    | none => .bad
  | rd, .seq a b => .seq (ccode P N pol rd a) (ccode P N pol rd b)
  | rd, .cond c a b => match cx c with
    | some c => .cond c (ccode P N pol rd a) (ccode P N pol rd b)
    | none => .bad
  | rd, .block id c => .block id (ccode P N pol rd c)
  | rd, .loop c => .loop (ccode P N pol rd c)
  | _, .exit id => .exit id
  | _, .ret => .ret
  | _, .rangeFunc g ps asg body => match cx g with
    | some x => bif ps.toList.all fun p => (p + 1).ble N then .rfun x ps.toList (ccode P N pol true asg) (ccode P N pol true body) else .bad
    | none => .bad
  | _, _ => .bad
def CReach (P : Program) (E : Env) (w : World) (N B : Nat) (r : CR) : Exit → Act → World → Prop := fun e a' w' =>
  match r with
  | .norm fr st => e = .normal ∧ ∃ E', Ext E w E' w' ∧ Sat E' st w' ∧ RvA P E' w' N B fr a'
  | .exit id fr st => e = .exit id ∧ ∃ E', Ext E w E' w' ∧ Sat E' st w' ∧ RvA P E' w' N B fr a'
  | .ret fr st => e = .ret ∧ ∃ E', Ext E w E' w' ∧ Sat E' st w' ∧ RvA P E' w' N B fr a'
  | .pan fr v st => ∃ u E', e = .panic [{ v := u, recovered := false }] ∧ Ext E w E' w' ∧ Sat E' st w' ∧ Rv E' w' v u ∧ RvP P E' w' B fr a'
  | .stuck => False
structure GSound (P : Program) (Γ : Gam) : Prop where
  call : ∀ (Y : Yenv) (E : Env) (w : World), (∀ E' w', Ext E w E' w' → YldOk P Y E' w') → FnOk P (Γ.call Y) E w
  ent : ∀ f, Γ.ent f = true → Enters P f
def YSound (P : Program) (Y : Yenv) (E : Env) (w : World) : Prop := ∀ E' w', Ext E w E' w' → YldOk P Y E' w'
def ROk (E : Env) : Option Nat → Option Nat → Prop
  | none, none => True
  | some id, some b => E.β id = some b
  | _, _ => False
section
variable {P : Program} {Γ : Gam}
theorem YSound.mono {Y : Yenv} {E E' : Env} {w w' : World} (h : YSound P Y E w) (hx : Ext E w E' w') : YSound P Y E' w' := fun _ _ h2 => h _ _ (hx.trans h2)
theorem ROk.mono {E E' : Env} {w w' : World} (hx : Ext E w E' w') : ∀ {ro b0 : Option Nat}, ROk E ro b0 → ROk E' ro b0
  | none, none, _ => trivial
  | some _, some _, h => hx.β _ _ h
  | none, some _, h => h.elim
  | some _, none, h => h.elim
theorem GSound.sound (hG : GSound P Γ) {Y : Yenv} {E : Env} {w : World} (hY : YSound P Y E w) : SoundC P (Γ.cg Y) E w :=
  ⟨fun E' w' hx => hG.call Y E' w' (hY.mono hx), fun E' w' hx => hY E' w' hx⟩
theorem CReach.mono {E E1 : Env} {w w1 : World} {N B : Nat} {r : CR} (h : Ext E w E1 w1) {e : Exit} {a : Act} {w' : World} (hr : CReach P E1 w1 N B r e a w') : CReach P E w N B r e a w' := by
  cases r with
  | norm fr st => obtain ⟨h1, E', h2, h3⟩ := hr; exact ⟨h1, E', h.trans h2, h3⟩
  | exit id fr st => obtain ⟨h1, E', h2, h3⟩ := hr; exact ⟨h1, E', h.trans h2, h3⟩
  | ret fr st => obtain ⟨h1, E', h2, h3⟩ := hr; exact ⟨h1, E', h.trans h2, h3⟩
  | pan fr v st => obtain ⟨u, E', h1, h2, h3⟩ := hr; exact ⟨u, E', h1, h.trans h2, h3⟩
  | stuck => exact hr.elim
def CSound (P : Program) (Y : Yenv) (N : Nat) (ro b0 : Option Nat) (c : Code) (run : Fr → St → CR) : Prop :=
  ∀ (B : Nat) (E : Env) (w : World) (fr : Fr) (a : Act) (st : St) (r : CR), YSound P Y E w → ROk E ro b0 → run fr st = r → r ≠ .stuck → RvA P E w N B fr a → Sat E st w → c.wpIn (FR0 b0) 0 P (CReach P E w N B r) a w
theorem roundsIn_mono {F : Fence} {k : Nat} {c : Code} {Q Q' : Exit → Act → World → Prop} (hq : ∀ e a w, Q e a w → Q' e a w) : ∀ (n : Nat) (a : Act) (w : World), Code.roundsIn F k P c Q n a w → Code.roundsIn F k P c Q' n a w
  | 0, _, _, h => h.elim
  | n + 1, a, w, h => by
    rw [roundsIn_succ] at h ⊢
    refine wpIn_mono h fun e a' w' h' => ?_
    cases e with
    | normal => exact roundsIn_mono hq n a' w' h'
    | _ => exact hq _ _ _ h'
theorem aloop_sound {Y : Yenv} {N : Nat} {ro b0 : Option Nat} {c : Code} {body : Fr → St → CR} (hb : CSound P Y N ro b0 c body) : ∀ (n : Nat), ∀ (B : Nat) (E : Env) (w : World) (fr : Fr) (a : Act) (st : St) (r : CR), YSound P Y E w → ROk E ro b0 → aloop body n fr st = r → r ≠ .stuck →
    RvA P E w N B fr a → Sat E st w → Code.roundsIn (FR0 b0) 0 P c (CReach P E w N B r) n a w
  | 0, B, E, w, fr, a, st, r, _, _, hr, hst, _, _ => by simp only [aloop] at hr; exact absurd hr.symm hst
  | n + 1, B, E, w, fr, a, st, r, hY, hro, hr, hst, hf, hs => by
    simp only [aloop] at hr
    rw [roundsIn_succ]
    cases hbr : body fr st with
    | stuck => simp only [hbr] at hr; exact absurd hr.symm hst
    | norm fr' st' =>
      simp only [hbr] at hr
      refine wpIn_mono (hb B E w fr a st _ hY hro hbr (by simp) hf hs) fun e a' w' ⟨he, E', h1, h2, h3⟩ => ?_
      subst he
      simp only [Exit.then]
      exact roundsIn_mono (fun _ _ _ hq => CReach.mono h1 hq) n _ _ (aloop_sound hb n B E' w' fr' a' st' r (hY.mono h1) (hro.mono h1) hr hst h3 h2)
    | exit id fr' st' =>
      simp only [hbr] at hr; subst hr
      refine wpIn_mono (hb B E w fr a st _ hY hro hbr (by simp) hf hs) fun e a' w' h => ?_
      obtain ⟨he, h'⟩ := h
      subst he
      exact ⟨rfl, h'⟩
    | ret fr' st' =>
      simp only [hbr] at hr; subst hr
      refine wpIn_mono (hb B E w fr a st _ hY hro hbr (by simp) hf hs) fun e a' w' h => ?_
      obtain ⟨he, h'⟩ := h
      subst he
      exact ⟨rfl, h'⟩
    | pan fr' v st' =>
      simp only [hbr] at hr; subst hr
      refine wpIn_mono (hb B E w fr a st _ hY hro hbr (by simp) hf hs) fun e a' w' h => ?_
      obtain ⟨u, E', he, h'⟩ := h
      subst he
      exact ⟨u, E', rfl, h'⟩
theorem copers_get {ops : Array Oper} {N : Nat} {rd : Bool} {pol : Nat → Bool} : ∀ (os : List Oper) (i : Nat) (ms : List MOper), copers P ops N rd pol i os = some ms → ∀ (j : Nat) (o : Oper), os[j]? = some o → ∃ m, ms[j]? = some m ∧ coper P ops N rd (pol (i + j)) o = some m
  | [], _, _, _, j, o, ho => by simp at ho
  | o :: os, i, ms, h, j, o', ho => by
    simp only [copers, Option.bind_eq_some_iff, Option.map_eq_some_iff] at h
    obtain ⟨m, hm, ms', hms, rfl⟩ := h
    cases j with
    | zero =>
      simp only [List.getElem?_cons_zero, Option.some.injEq] at ho
      subst ho
      exact ⟨m, rfl, hm⟩
    | succ j =>
      simp only [List.getElem?_cons_succ] at ho ⊢
      obtain ⟨m', h1, h2⟩ := copers_get os (i + 1) ms' hms j o' ho
      exact ⟨m', h1, by rw [show i + (j + 1) = i + 1 + j by omega]; exact h2⟩
theorem allocsB_get : ∀ (os : List Oper) (ms : List MOper), allocsB os ms = true → ∀ (j : Nat) (o : Oper) (m : MOper), os[j]? = some o → ms[j]? = some m → allocB o m.op = true
  | [], _, _, j, o, m, ho, _ => by simp at ho
  | _ :: _, [], _, j, o, m, _, hm => by simp at hm
  | o :: os, m :: ms, h, j, o', m', ho, hm => by
    simp only [allocsB, Bool.and_eq_true] at h
    cases j with
    | zero =>
      simp only [List.getElem?_cons_zero, Option.some.injEq] at ho hm
      subst ho; subst hm; exact h.1
    | succ j => exact allocsB_get os ms h.2 j o' m' (by simpa using ho) (by simpa using hm)
theorem setMany_ds : ∀ (ps : List Nat) (xs : List AV) (fr : Fr), (setMany ps xs fr).ds = fr.ds
  | [], _, _ => by unfold setMany; rfl
  | p :: ps, [], _ => by unfold setMany; rfl
  | p :: ps, x :: xs, fr => by unfold setMany; rw [setMany_ds ps xs]; rfl
theorem setMany_sound {E : Env} {w : World} {N : Nat} {D : List Deferred} : ∀ (ps : List Nat) (xs : List AV) (vs : List Value) (fr : Fr) (t : Array Value), (∀ p ∈ ps, p < N) → RvL E w xs vs → t.size = N → RvF E w fr { tmps := t, defers := D } →
    RvF E w (setMany ps xs fr) { tmps := (ps.zip vs).foldl (fun t (p, v) => t.setIfInBounds p v) t, defers := D } ∧ ((ps.zip vs).foldl (fun t (p, v) => t.setIfInBounds p v) t).size = N
  | [], xs, vs, fr, t, _, _, hN, hf => by unfold setMany; simpa using ⟨hf, hN⟩
  | p :: ps, [], vs, fr, t, _, hv, hN, hf => by
    have : vs = [] := hv
    subst this
    unfold setMany; simpa using ⟨hf, hN⟩
  | p :: ps, x :: xs, vs, fr, t, hp, hv, hN, hf => by
    obtain ⟨v, vs', rfl, h1, h2⟩ := hv
    unfold setMany
    simp only [List.zip_cons_cons, List.foldl_cons]
    have hp0 := hp p (by simp)
    refine setMany_sound ps xs vs' _ _ (fun q hq => hp q (by simp [hq])) h2 (by simpa using hN) ?_
    have := RvF.put (d := some p) hf h1 (by show (p + 1).ble t.size = true; exact Nat.ble_eq_true_of_le (by omega))
    exact this
theorem foldl_zip_list (ps : Array Tmp) (vs : Array Value) (t : Array Value) : (ps.zip vs).foldl (fun t (p, v) => t.setIfInBounds p v) t = (ps.toList.zip vs.toList).foldl (fun t (p, v) => t.setIfInBounds p v) t := by
  rw [← Array.foldl_toList, Array.toList_zip]
theorem around_sound {Y : Yenv} {N n : Nat} {E0 : Env} {w0 : World} {id l : Nat} {rec : Loop} {fr : Fr} {a : Act} {ps : Array Tmp} {asg body : Code} {A Bd : Fr → St → CR}
    (hA : CSound P Y N (some id) (some l) asg A) (hB : CSound P Y N (some id) (some l) body Bd) (hY : YSound P Y E0 w0) (hβ : E0.β id = some l) (hl : l < w0.heap.size) (hlr : E0.lr l = rec)
    (h1 : rec.tmps = a.tmps) (h2 : rec.params = ps) (h3 : rec.assign = asg) (h4 : rec.body = body) (hf : RvF E0 w0 fr a) (hN : a.tmps.size = N) (hps : ∀ p ∈ ps.toList, p < N) :
    ∀ E w, Ext E0 w0 E w → ∀ (args : List AV) (st : St) (vs : Array Value), RvL E w args vs.toList → Sat E st w → ∀ v st', aroundA A Bd id fr ps.toList args st = .ret v st' → YCall P l vs w (RetR E w v st') := by
  intro E w hx args st vs ha hs v st' hr
  have hβ' := hx.β _ _ hβ
  have hlr' : E.lr l = rec := by rw [hx.lr l hl]; exact hlr
  unfold aroundA at hr
  cases hlen : args.length.beq ps.toList.length
  · simp only [hlen, cond_false, reduceCtorEq] at hr
  · simp only [hlen, cond_true] at hr
    have hlen := Nat.eq_of_beq_eq_true hlen
    have hvl := ha.length
    split at hr <;> try (simp only [reduceCtorEq] at hr; done)
    rename_i hlo
    obtain ⟨r, hr1, hr2⟩ := hs.loop hlo hβ'
    rw [hlr'] at hr2
    have hr2 : r = { rec with state := .ready, pending := none } := hr2
    have hvs : vs.size = r.params.size := by rw [hr2, h2]; simp only [Array.length_toList] at hvl hlen; omega
    refine ⟨_, _, _, _, run_yield hr1 hvs, ?_⟩
    split at hr <;> try (simp only [reduceCtorEq] at hr; done)
    rename_i fr1 st1 hasg
    split at hr <;> try (simp only [reduceCtorEq] at hr; done)
    rename_i hlo1
    have hrt : r.tmps = a.tmps := by rw [hr2]; exact h1
    have hrp : r.params = ps := by rw [hr2]; exact h2
    have hra : r.assign = asg := by rw [hr2]; exact h3
    have hrb : r.body = body := by rw [hr2]; exact h4
    rw [hrt, hrp, hra, hrb, foldl_zip_list]
    obtain ⟨hf1, hf2⟩ := setMany_sound (D := []) (N := N) ps.toList args vs.toList { fr with ds := [] } a.tmps hps ha hN (fun n => Rv.mono hx _ _ (hf n))
    have hA0 : RvA P E w N 0 (setMany ps.toList args { fr with ds := [] }) { tmps := (ps.toList.zip vs.toList).foldl (fun t (p, v) => t.setIfInBounds p v) a.tmps, defers := [] } :=
      ⟨hf1, hf2, by rw [setMany_ds]; rfl, Nat.zero_le _⟩
    refine roundIn_of_wpIn (F := Fence.wide) trivial ?_
    refine wpIn_mono (hA 0 E w _ _ st _ (hY.mono hx) hβ' hasg (by simp) hA0 hs) fun e a1 w1 ⟨he, E1, x1, s1, f1⟩ => ?_
    subst he
    have hβ1 := x1.β _ _ hβ'
    have hlr1 : E1.lr l = rec := by rw [x1.lr l (Array.getElem?_eq_some_iff.1 hr1).1]; exact hlr'
    obtain ⟨q, hq1, hq2⟩ := s1.loop hlo1 hβ1
    rw [hlr1] at hq2
    have hq2 : q = { rec with state := .ready, pending := none } := hq2
    obtain ⟨s2, x2⟩ := s1.putLoop (s' := .busy) (r' := { q with state := .busy }) hlo1 hβ1 hq1 (by
      rw [hlr1]
      show { q with state := .busy } = { rec with state := .busy, pending := none }
      rw [hq2])
    refine ⟨_, run_beginRound hq1 (by rw [hq2]), ?_⟩
    have fin : ∀ (jump : Option Code) (s : LS) (a2 : Act) (w2 : World) (E2 : Env) (st2 : St) (b : Bool), jump.isNone = b → (∀ r0 r : Loop, r = { r0 with state := .busy, pending := none } → s.ok r0 { r with state := if jump.isNone then .ready else .done, pending := jump }) →
        Ext E1 (w1.putObj l (.loop { q with state := .busy })) E2 w2 → Sat E2 st2 w2 → loopAt st2 id = some .busy → ∃ u w3, (Instr.endRound l jump).run P w2 = .ok u w3 ∧ RetR E w (.bool b) (st2.put id (.loop s)) (.returned u) w3 := fun jump s a2 w2 E2 st2 b hb hok y1 y2 y3 => by
      have hβ2 := y1.β _ _ hβ1
      have hlr2 : E2.lr l = rec := by
        rw [y1.lr l (by simp; exact (Array.getElem?_eq_some_iff.1 hq1).1)]; exact hlr1
      obtain ⟨p, hp1, hp2⟩ := y2.loop y3 hβ2
      rw [hlr2] at hp2
      have hp2 : p = { rec with state := .busy, pending := none } := hp2
      obtain ⟨s3, x3⟩ := y2.putLoop (s' := s) (r' := { p with state := if jump.isNone then .ready else .done, pending := jump }) y3 hβ2 hp1 (by rw [hlr2]; exact hok rec p hp2)
      exact ⟨_, _, run_endRound jump hp1, .bool jump.isNone, E2, rfl, ((x1.trans x2).trans y1).trans x3, s3, by rw [hb]; rfl⟩
    cases hbd : Bd fr1 (st1.put id (.loop .busy)) with
    | stuck => rw [hbd] at hr; cases hr
    | pan _ _ _ => rw [hbd] at hr; cases hr
    | norm fr2 st2 =>
      rw [hbd] at hr
      simp only [endRoundA] at hr
      split at hr <;> try (simp only [reduceCtorEq] at hr; done)
      rename_i hlo2
      injection hr with e1 e2; subst e1; subst e2
      refine wpIn_mono (hB 0 E1 _ _ _ _ _ ((hY.mono hx).mono (x1.trans x2)) hβ1 hbd (by simp) (f1.mono x2) s2) fun e a2 w2 ⟨he, E2, y1, y2, y3⟩ => ?_
      subst he
      exact fin none .ready a2 w2 E2 st2 true rfl (fun r0 r h => by rw [h]; rfl) y1 y2 hlo2
    | ret fr2 st2 =>
      rw [hbd] at hr
      simp only [endRoundA] at hr
      split at hr <;> try (simp only [reduceCtorEq] at hr; done)
      rename_i hlo2
      injection hr with e1 e2; subst e1; subst e2
      refine wpIn_mono (hB 0 E1 _ _ _ _ _ ((hY.mono hx).mono (x1.trans x2)) hβ1 hbd (by simp) (f1.mono x2) s2) fun e a2 w2 ⟨he, E2, y1, y2, y3⟩ => ?_
      subst he
      exact fin (some .ret) .ret a2 w2 E2 st2 false rfl (fun r0 r h => by rw [h]; rfl) y1 y2 hlo2
    | exit id' fr2 st2 =>
      rw [hbd] at hr
      simp only [endRoundA] at hr
      split at hr <;> try (simp only [reduceCtorEq] at hr; done)
      rename_i hlo2
      injection hr with e1 e2; subst e1; subst e2
      refine wpIn_mono (hB 0 E1 _ _ _ _ _ ((hY.mono hx).mono (x1.trans x2)) hβ1 hbd (by simp) (f1.mono x2) s2) fun e a2 w2 ⟨he, E2, y1, y2, y3⟩ => ?_
      subst he
      exact fin (some (.exit id')) (.exit id') a2 w2 E2 st2 false rfl (fun r0 r h => by rw [h]; rfl) y1 y2 hlo2
theorem rfun_sound {Y : Yenv} {N n B : Nat} {ro b0 : Option Nat} {g : Operand} {ps : Array Tmp} {asg body : Code} {A Bd : Fr → St → CR} (hG : GSound P Γ) {E E1 : Env} {w w1 : World} {fr : Fr} {a : Act} {st : St} {gf : Nat} {first captured : List AV} {v1 v2 : Array Value} {mark : List Deferred} {rec : Loop} {r : CR}
    (hA : ∀ l, CSound P Y N (some st.next) (some l) asg A) (hB : ∀ l, CSound P Y N (some st.next) (some l) body Bd) (hY : YSound P Y E w) (hps : ∀ p ∈ ps.toList, p < N)
    (hg : a.eval g = .func (.func gf) v1 v2) (h1 : RvL E w first v1.toList) (h2 : RvL E w captured v2.toList) (hent : Γ.ent gf = true) (hf : RvA P E w N B fr a)
    (hx1 : Ext E w E1 w1) (hs1 : Sat E1 st w1) (hrs : rec.state = .ready) (hrp : rec.pending = none) (hrt : rec.tmps = a.tmps) (hrps : rec.params = ps) (hra : rec.assign = asg) (hrb : rec.body = body)
    (hd : ∀ E' w', Ext E1 w1 E' w' → RvD P E' w' B w'.heap.size (markA ro fr).ds (mark ++ a.defers))
    (hr : (match Γ.call (Yenv.set Y st.next (aroundA A Bd st.next fr ps.toList)) gf (first ++ [.yld st.next] ++ captured) (st.new (.loop .ready)) with
        | .ret _ st2 => endLoopA st.next (markA ro fr) st2
        | .pan v st2 => .pan (markA ro fr) v st2
        | .stuck => .stuck) = r) (hst : r ≠ .stuck) :
    ∃ (d : Deferred) (w₁' : World) (f : FuncId) (args : Array Value) (w₂ : World), (resolve a.eval (rangeCall g w1.heap.size) 0).run P (w1.alloc (.loop rec)) = .ok d w₁' ∧
      (invoke d.target d.args).run P w₁' = .ok (.enter f args) w₂ ∧ CallsIn (FR0 b0) (0 - 1) P f args w₂ (rangePost (FR0 b0) 0 P w1.heap.size (CReach P E w N B r) { a with defers := mark ++ a.defers }) := by
  obtain ⟨hs2, hx2⟩ := hs1.newLoop rec hrs hrp
  have hx := hx1.trans hx2
  have hβ : (E1.loop st.next w1.heap.size rec).β st.next = some w1.heap.size := by simp [Env.loop, Env.link]
  have hlr : (E1.loop st.next w1.heap.size rec).lr w1.heap.size = rec := by simp [Env.loop]
  have hargs : RvL (E1.loop st.next w1.heap.size rec) (w1.alloc (.loop rec)) (first ++ [.yld st.next] ++ captured) (v1 ++ #[Value.func (.yield w1.heap.size) #[] #[]] ++ v2).toList := by
    simp only [Array.toList_append]
    have hy : RvL (E1.loop st.next w1.heap.size rec) (w1.alloc (.loop rec)) [.yld st.next] [Value.func (.yield w1.heap.size) #[] #[]] := ⟨_, _, rfl, ⟨_, hβ, rfl⟩, rfl⟩
    exact ((RvL.mono hx _ _ h1).append hy).append (RvL.mono hx _ _ h2)
  have hres : (resolve a.eval (rangeCall g w1.heap.size) 0).run P (w1.alloc (.loop rec)) = .ok { target := .fn (.func gf) v2, args := v1 ++ #[Value.func (.yield w1.heap.size) #[] #[]] } (w1.alloc (.loop rec)) := by
    simp only [resolve, hg, Deferred.ofValue]
    simp [Act.eval]
  have hen := hG.ent gf hent
  refine ⟨_, _, gf, v1 ++ #[Value.func (.yield w1.heap.size) #[] #[]] ++ v2, _, hres, by simp only [invoke]; exact hen _ _, ?_⟩
  have hYS : YSound P (Yenv.set Y st.next (aroundA A Bd st.next fr ps.toList)) (E1.loop st.next w1.heap.size rec) (w1.alloc (.loop rec)) := by
    intro E' w' hx' id b args s vs hb ha hs v st' hret
    unfold Yenv.set at hret
    cases hid : id.beq st.next
    · rw [hid] at hret
      exact hY E' w' (hx.trans hx') id b args s vs hb ha hs v st' hret
    · rw [hid] at hret
      have := Nat.eq_of_beq_eq_true hid
      subst this
      have hb' := hx'.β _ _ hβ
      rw [hb] at hb'; injection hb' with hb'; subst hb'
      exact around_sound (n := n) (hA _) (hB _) (hY.mono hx) hβ (by simp) hlr hrt hrps hra hrb (hf.f.mono hx) hf.n hps E' w' hx' args s vs ha hs v st' hret
  have hS := hG.call _ _ _ hYS gf _ (st.new (.loop .ready)) _ hargs hs2
  have noval : ∀ R : Ending → World → Prop, CallOk P gf (v1 ++ #[Value.func (.yield w1.heap.size) #[] #[]] ++ v2) (w1.alloc (.loop rec)) R → Calls P gf (v1 ++ #[Value.func (.yield w1.heap.size) #[] #[]] ++ v2) (w1.alloc (.loop rec)) R := fun R h => by
    rcases h with ⟨_, h⟩ | ⟨v, w', h, _⟩
    · exact h
    · rw [hen] at h; cases h
  cases hc : Γ.call (Yenv.set Y st.next (aroundA A Bd st.next fr ps.toList)) gf (first ++ [.yld st.next] ++ captured) (st.new (.loop .ready)) with
  | stuck => rw [hc] at hr; exact absurd hr.symm hst
  | pan v st2 =>
    rw [hc] at hr
    simp only at hr
    subst hr
    refine (callsIn_wide (n := 0)).2 ((noval _ (hS.2 v st2 hc)).mono fun e w3 ⟨u, E3, h3, h4, h5, h6⟩ => ?_)
    subst h3
    exact ⟨u, E3, rfl, hx.trans h4, h5, h6, ⟨fun n v hn => by
      have : fr.get n = some v := by cases ro <;> exact hn
      exact Rv.mono (hx.trans h4) _ _ (hf.f.part n v this), hd E3 w3 (hx2.trans h4)⟩⟩
  | ret v st2 =>
    rw [hc] at hr
    simp only at hr
    refine (callsIn_wide (n := 0)).2 ((noval _ (hS.1 v st2 hc)).mono fun e w3 ⟨u, E3, h3, h4, h5, h6⟩ => ?_)
    subst h3
    have hβ3 := h4.β _ _ hβ
    have hlr3 : E3.lr w1.heap.size = rec := by rw [h4.lr _ (by simp)]; exact hlr
    have act : ∀ w4, Ext E3 w3 E3 w4 → RvA P E3 w4 N B (markA ro fr) { a with defers := mark ++ a.defers } := fun w4 h7 =>
      ⟨fun n => by
        have := hf.f.mono ((hx.trans h4).trans h7) n
        cases ro <;> exact this, hf.n, hd E3 w4 ((hx2.trans h4).trans h7), Nat.le_trans hf.b ((hx.trans h4).trans h7).size⟩
    unfold endLoopA at hr
    cases hlo : loopAt st2 st.next with
    | none => rw [hlo] at hr; exact absurd hr.symm hst
    | some s =>
      rw [hlo] at hr
      obtain ⟨q, hq1, hq2⟩ := h5.loop hlo hβ3
      rw [hlr3] at hq2
      obtain ⟨s3, x3⟩ := h5.putLoop (s' := .fin) (r' := { q with state := .exhausted }) hlo hβ3 hq1 trivial
      cases s with
      | busy => exact absurd hr.symm hst
      | fin => exact absurd hr.symm hst
      | ready =>
        simp only at hr; subst hr
        have hq2 : q = { rec with state := .ready, pending := none } := hq2
        exact ⟨none, _, by rw [run_endLoop hq1 (by rw [hq2]; simp), hq2], rfl, E3, (hx.trans h4).trans x3, s3, act _ x3⟩
      | ret =>
        simp only at hr; subst hr
        have hq2 : q = { rec with state := .done, pending := some .ret } := hq2
        exact ⟨some .ret, _, by rw [run_endLoop hq1 (by rw [hq2]; simp), hq2], wpIn_ret ⟨rfl, E3, (hx.trans h4).trans x3, s3, act _ x3⟩⟩
      | exit e =>
        simp only at hr; subst hr
        have hq2 : q = { rec with state := .done, pending := some (.exit e) } := hq2
        exact ⟨some (.exit e), _, by rw [run_endLoop hq1 (by rw [hq2]; simp), hq2], wpIn_exit ⟨rfl, E3, (hx.trans h4).trans x3, s3, act _ x3⟩⟩
theorem acode_sound {N n : Nat} {pol : Nat → Nat → Bool} {Y : Yenv} (hG : GSound P Γ) : ∀ (c : Code) (rd : Bool) (ro b0 : Option Nat), (rd = false → b0 = none) → CSound P Y N ro b0 c (acode Γ Y n (ccode P N pol rd c) ro) := by
  intro c
  induction c with
  | skip => intro rd ro b0 _ B E w fr a st r hY hro hr _ hf hs; simp only [ccode, acode] at hr; subst hr; exact wpIn_skip ⟨rfl, E, Ext.refl _ _, hs, hf⟩
  | ret => intro rd ro b0 _ B E w fr a st r hY hro hr _ hf hs; simp only [ccode, acode] at hr; subst hr; exact wpIn_ret ⟨rfl, E, Ext.refl _ _, hs, hf⟩
  | exit id => intro rd ro b0 _ B E w fr a st r hY hro hr _ hf hs; simp only [ccode, acode] at hr; subst hr; exact wpIn_exit ⟨rfl, E, Ext.refl _ _, hs, hf⟩
  | region id ops draw =>
    intro rd ro b0 hrd B E w fr a st r hY hro hr hst hf hs
    have hΓ := hG.sound hY
    cases draw with
    | true =>
      simp only [ccode] at hr
      cases hms : copers P ops N rd (pol id) 0 ops.toList with
      | none => simp only [hms, acode] at hr; exact absurd hr.symm hst
      | some ms =>
        simp only [hms] at hr
        generalize hzs : ms.zip (ancsGo ops.toList []) = zs at hr
        unfold cdraw at hr
        cases hb : (P.follows .mixedOrders && drawB ops zs && allocsB ops.toList ms)
        · rw [hb] at hr; simp only [cond_false, acode] at hr; exact absurd hr.symm hst
        · rw [hb] at hr
          simp only [cond_true, acode] at hr
          simp only [Bool.and_eq_true] at hb
          have hd := drawOk_of hb.1.2
          have hops : OpsOk P ops N zs := fun i o ho => by
            obtain ⟨m, h1, h2⟩ := copers_get _ _ _ hms i o (by simpa using ho)
            have hi : i < ops.size := (Array.getElem?_eq_some_iff.1 ho).1
            obtain ⟨z, hz⟩ : ∃ z, zs[i]? = some z := ⟨_, List.getElem?_eq_getElem (by rw [hd.len]; exact hi)⟩
            have hzm : z.1 = m := by
              rw [← hzs] at hz
              have := List.getElem?_zip_eq_some.1 hz
              rw [h1] at this
              exact (Option.some.inj this.1).symm
            have hal := allocsB_get _ _ hb.2 i o m (by simpa using ho) h1
            simp only [coper, Option.bind_eq_some_iff] at h2
            obtain ⟨g, hg, h2⟩ := h2
            cases hdst : dstOk N o.dst
            · simp [hdst] at h2
            · simp only [hdst, cond_true, Option.some.injEq] at h2
              have hmg : m.guard = g := by rw [← h2]
              have hmd : m.dst = o.dst := by rw [← h2]
              have hmo : m.op = match cspec rd o with | some m => m | none => (cop P (pol id (0 + i)) o).getD .bad := by rw [← h2]; rfl
              have hmo' : m.op = (cop P (pol id (0 + i)) o).getD .bad := by
                cases hsp : cspec rd o with
                | none => rw [hsp] at hmo; exact hmo
                | some m' =>
                  exfalso
                  rw [hsp] at hmo
                  simp only at hmo
                  have : m'.special = true := by
                    unfold cspec at hsp
                    split at hsp
                    · cases rd with
                      | true => cases hsp
                      | false =>
                        simp only [cond_false, Option.bind_eq_some_iff, Option.map_eq_some_iff] at hsp
                        obtain ⟨f, _, xs, _, rfl⟩ := hsp
                        rfl
                    · injection hsp with hsp; subst hsp; rfl
                    · cases hsp
                  rw [hmo] at hal
                  cases m' <;> simp [MOp.special] at this <;> simp [allocB, MOp.special] at hal
              refine ⟨z, _, hz, by rw [hzm]; exact hmd, by rw [hzm]; exact hmo', by rw [hzm, hmg]; exact hg, rfl, fun cs hcs => ?_⟩
              rw [hzm] at hcs
              simp only [allocB, hcs] at hal
              split at hal
              · exact ⟨_, by assumption⟩
              · cases hal
          cases har : adraw (Γ.cg Y) zs (chkOf ops.size zs) fr st with
          | stuck => simp only [har] at hr; exact absurd hr.symm hst
          | ok fr' st' =>
            simp only [har] at hr; subst hr
            exact wpIn_mono (adraw_sound (id := id) hb.1.1 hΓ hd hops har (by simp) hf hs) fun _ _ _ h => h
          | pan fr' v st' =>
            simp only [har] at hr; subst hr
            exact wpIn_mono (adraw_sound (id := id) hb.1.1 hΓ hd hops har (by simp) hf hs) fun _ _ _ h => h
    | false =>
      simp only [ccode] at hr
      cases hms : copers P ops N rd (pol id) 0 ops.toList with
      | none => simp only [hms, acode] at hr; exact absurd hr.symm hst
      | some ms =>
        simp only [hms, acode] at hr
        refine wpIn_region_list ?_
        cases har : arun (Γ.cg Y) ms fr st with
        | stuck => simp only [har] at hr; exact absurd hr.symm hst
        | ok fr' st' =>
          simp only [har] at hr; subst hr
          exact wpListIn_mono (fun e a' w' h => h) _ _ _ (arun_sound hrd ops.toList 0 ms E w fr a st _ hΓ hms har (by simp) hf hs)
        | pan fr' v st' =>
          simp only [har] at hr; subst hr
          exact wpListIn_mono (fun e a' w' h => h) _ _ _ (arun_sound hrd ops.toList 0 ms E w fr a st _ hΓ hms har (by simp) hf hs)
  | seq c d ihc ihd =>
    intro rd ro b0 hrd B E w fr a st r hY hro hr hst hf hs
    simp only [ccode, acode] at hr
    refine wpIn_seq ?_
    cases hcr : acode Γ Y n (ccode P N pol rd c) ro fr st with
    | stuck => simp only [hcr] at hr; exact absurd hr.symm hst
    | norm fr' st' =>
      simp only [hcr] at hr
      refine wpIn_mono (ihc rd ro b0 hrd B E w fr a st _ hY hro hcr (by simp) hf hs) fun e a' w' ⟨he, E', h1, h2, h3⟩ => ?_
      subst he
      exact wpIn_mono (ihd rd ro b0 hrd B E' w' fr' a' st' r (hY.mono h1) (hro.mono h1) hr hst h3 h2) fun _ _ _ hq => CReach.mono h1 hq
    | exit id fr' st' =>
      simp only [hcr] at hr; subst hr
      refine wpIn_mono (ihc rd ro b0 hrd B E w fr a st _ hY hro hcr (by simp) hf hs) fun e a' w' h => ?_
      obtain ⟨he, h'⟩ := h
      subst he
      exact ⟨rfl, h'⟩
    | ret fr' st' =>
      simp only [hcr] at hr; subst hr
      refine wpIn_mono (ihc rd ro b0 hrd B E w fr a st _ hY hro hcr (by simp) hf hs) fun e a' w' h => ?_
      obtain ⟨he, h'⟩ := h
      subst he
      exact ⟨rfl, h'⟩
    | pan fr' v st' =>
      simp only [hcr] at hr; subst hr
      refine wpIn_mono (ihc rd ro b0 hrd B E w fr a st _ hY hro hcr (by simp) hf hs) fun e a' w' h => ?_
      obtain ⟨u, E', he, h'⟩ := h
      subst he
      exact ⟨u, E', rfl, h'⟩
  | cond co c d ihc ihd =>
    intro rd ro b0 hrd B E w fr a st r hY hro hr hst hf hs
    simp only [ccode] at hr
    cases hco : cx co with
    | none => simp only [hco, acode] at hr; exact absurd hr.symm hst
    | some x =>
      simp only [hco, acode] at hr
      have hx := cx_sound hf.f hco
      cases hev : ev fr x <;> simp only [hev] at hr <;> try exact absurd hr.symm hst
      rename_i b
      rw [hev] at hx
      have hx : a.eval co = .bool b := hx
      cases b with
      | true => exact wpIn_cond_true hx (ihc rd ro b0 hrd B E w fr a st r hY hro hr hst hf hs)
      | false => exact wpIn_cond_false hx (ihd rd ro b0 hrd B E w fr a st r hY hro hr hst hf hs)
  | block id c ih =>
    intro rd ro b0 hrd B E w fr a st r hY hro hr hst hf hs
    simp only [ccode, acode] at hr
    refine wpIn_block ?_
    cases hcr : acode Γ Y n (ccode P N pol rd c) ro fr st with
    | stuck => simp only [hcr] at hr; exact absurd hr.symm hst
    | norm fr' st' =>
      simp only [hcr] at hr; subst hr
      refine wpIn_mono (ih rd ro b0 hrd B E w fr a st _ hY hro hcr (by simp) hf hs) fun e a' w' ⟨he, h'⟩ => ?_
      subst he
      exact ⟨rfl, h'⟩
    | exit id' fr' st' =>
      simp only [hcr] at hr
      refine wpIn_mono (ih rd ro b0 hrd B E w fr a st _ hY hro hcr (by simp) hf hs) fun e a' w' ⟨he, h'⟩ => ?_
      subst he
      simp only [Exit.inBlock]
      cases hid : id'.beq id
      · have hne : ¬ id' = id := fun h => by subst h; simp at hid
        rw [if_neg hne]
        simp only [hid, cond_false] at hr; subst hr
        exact ⟨rfl, h'⟩
      · have he := Nat.eq_of_beq_eq_true hid
        rw [if_pos he]
        simp only [hid, cond_true] at hr; subst hr
        exact ⟨rfl, h'⟩
    | ret fr' st' =>
      simp only [hcr] at hr; subst hr
      refine wpIn_mono (ih rd ro b0 hrd B E w fr a st _ hY hro hcr (by simp) hf hs) fun e a' w' ⟨he, h'⟩ => ?_
      subst he
      exact ⟨rfl, h'⟩
    | pan fr' v st' =>
      simp only [hcr] at hr; subst hr
      refine wpIn_mono (ih rd ro b0 hrd B E w fr a st _ hY hro hcr (by simp) hf hs) fun e a' w' h => ?_
      obtain ⟨u, E', he, h'⟩ := h
      subst he
      exact ⟨u, E', rfl, h'⟩
  | loop c ih =>
    intro rd ro b0 hrd B E w fr a st r hY hro hr hst hf hs
    simp only [ccode, acode] at hr
    exact wpIn_loop_rounds n (aloop_sound (ih rd ro b0 hrd) n B E w fr a st r hY hro hr hst hf hs)
  | rangeFunc g ps asg body iha ihb =>
    intro rd ro b0 hrd B E w fr a st r hY hro hr hst hf hs
    simp only [ccode] at hr
    cases hg : cx g with
    | none => simp only [hg, acode] at hr; exact absurd hr.symm hst
    | some x =>
      simp only [hg] at hr
      cases hps : (ps.toList.all fun p => (p + 1).ble N)
      · simp only [hps, cond_false, acode] at hr; exact absurd hr.symm hst
      · simp only [hps, cond_true, acode] at hr
        have hps' : ∀ p ∈ ps.toList, p < N := fun p hp => by
          have := List.all_eq_true.1 hps p hp
          exact Nat.le_of_ble_eq_true this
        have hgv := cx_sound hf.f hg
        cases hev : ev fr x <;> simp only [hev] at hr <;> try exact absurd hr.symm hst
        rename_i fn first captured
        cases fn <;> simp only at hr <;> try exact absurd hr.symm hst
        rename_i gf
        rw [hev] at hgv
        obtain ⟨v1, v2, e1, h1, h2⟩ := hgv
        cases hcond : (Γ.ent gf && roOk ro st)
        · simp only [hcond, cond_false] at hr; exact absurd hr.symm hst
        · simp only [hcond, cond_true] at hr
          simp only [Bool.and_eq_true] at hcond
          refine wpIn_rangeFunc fun fn _ => ?_
          cases ro with
          | none =>
            cases b0 with
            | some b => exact hro.elim
            | none =>
              obtain ⟨hs1, hx1⟩ := hs.allocDz
              obtain ⟨d, w1', f, args, w2, q1, q2, q3⟩ := rfun_sound (n := n) (ro := none) (b0 := none) (g := g) (mark := [{ target := .collected w.heap.size, args := #[] }])
                (rec := { state := .ready, pending := none, fn, tmps := a.tmps, params := ps, assign := asg, body, defers := w.heap.size }) hG (fun l => iha true _ (some l) (by simp)) (fun l => ihb true _ (some l) (by simp)) hY hps' e1 h1 h2 hcond.1 hf hx1 hs1 rfl rfl rfl rfl rfl rfl
                (fun E' w' hx' => ⟨_, _, w.heap.size, rfl, rfl, hf.b, by have := hx'.size; simp at this; omega, hx'.Dz _ (.inl rfl), hf.d.mono (hx1.trans hx') (Nat.le_refl _)⟩) hr hst
              have hsz : (w.alloc (.deferred (some []))).heap.size = w.heap.size + 1 := by simp
              rw [hsz] at q1 q3
              exact ⟨_, _, _, d, w1', f, args, w2, run_enterLoop_outer _ _ _ _ _, q1, fun _ _ => trivial, q2, noDepth none, q3⟩
          | some id0 =>
            cases b0 with
            | none => exact hro.elim
            | some b =>
              have hro' : E.β id0 = some b := hro
              obtain ⟨s0, hl0⟩ := Option.isSome_iff_exists.1 hcond.2
              obtain ⟨r0, hr0, _⟩ := hs.loop hl0 hro'
              obtain ⟨d, w1', f, args, w2, q1, q2, q3⟩ := rfun_sound (n := n) (ro := some id0) (b0 := some b) (g := g) (mark := [])
                (rec := { state := .ready, pending := none, fn, tmps := a.tmps, params := ps, assign := asg, body, defers := r0.defers }) hG (fun l => iha true _ (some l) (by simp)) (fun l => ihb true _ (some l) (by simp)) hY hps' e1 h1 h2 hcond.1 hf (Ext.refl _ _) hs rfl rfl rfl rfl rfl rfl
                (fun E' w' hx' => hf.d.mono hx' hx'.size) hr hst
              exact ⟨_, _, _, d, w1', f, args, w2, run_enterLoop_inner hr0 _ _ _ _ _, q1, fun _ _ => trivial, q2, noDepth (some b), q3⟩
  | _ => intro rd ro b0 _ B E w fr a st r _ _ hr hst; simp only [ccode, acode] at hr; exact absurd hr.symm hst
end
end Go.AM
