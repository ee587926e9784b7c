import Derived.Test.YtphmjdnljmhipaaGreatDoorAmComp
import Derived.RangeFuncRecord
import Derived.LoopNIn
namespace Go.AM
@[simp] theorem Fr.put_ds (fr : Fr) (d : Option Nat) (v : AV) : (Fr.put fr d v).ds = fr.ds := by cases d <;> rfl
def cguard (ops : Array Oper) (o : Oper) : Option (Option (Nat × Bool)) :=
  match o.guard with
  | none => some none
  | some (g, want) => ((ops[g]?).bind (·.dst)).map fun t => some (t, want)
def dstOk (N : Nat) : Option Nat → Bool
  | none => true
  | some d => (d + 1).ble N
def cspec (rd : Bool) (o : Oper) : Option MOp :=
  match o.op with
  | .defer { callee := .value f, args, argTypes := _ } => bif rd then none else (cx f).bind fun f => (cxs args.toList).map (.defer f)
  | .call { callee := .builtin .recover, args := _, argTypes := _ } => some .recov
  | _ => none
def coper (P : Program) (ops : Array Oper) (N : Nat) (rd fz : Bool) (o : Oper) : Option MOper :=
  (cguard ops o).bind fun g => bif dstOk N o.dst then some { dst := o.dst, op := match cspec rd o with | some m => m | none => (cop P fz o).getD .bad, guard := g } else none
def copers (P : Program) (ops : Array Oper) (N : Nat) (rd : Bool) (pol : Nat → Bool) : Nat → List Oper → Option (List MOper)
  | _, [] => some []
  | i, o :: os => (coper P ops N rd (pol i) o).bind fun m => (copers P ops N rd pol (i + 1) os).map (m :: ·)
def FR0 (b0 : Option Nat) : Fence := { Fence.wide with round := b0 }
def Enters (P : Program) (f : Nat) : Prop := ∀ args w, (callFunc f args).run P w = .ok (.enter f args) w
def CallOk (P : Program) (f : Nat) (vs : Array Value) (w : World) (R : Ending → World → Prop) : Prop :=
  (Enters P f ∧ Calls P f vs w R) ∨ ∃ v w', (callFunc f vs).run P w = .ok (.value v) w' ∧ R (.returned v) w'
def YCall (P : Program) (b : Nat) (vs : Array Value) (w : World) (R : Ending → World → Prop) : Prop :=
  ∃ f tmps assign body, (Instr.yield b vs).run P w = .ok (.round b f tmps assign body) w ∧ RoundIn Fence.wide 0 P b f tmps assign body w R
def RetR (E : Env) (w : World) (v : AV) (st' : St) : Ending → World → Prop := fun e w' => ∃ u E', e = .returned u ∧ Ext E w E' w' ∧ Sat E' st' w' ∧ Rv E' w' v u
def PanR (E : Env) (w : World) (v : AV) (st' : St) : Ending → World → Prop := fun e w' => ∃ u E', e = .panicked [{ v := u, recovered := false }] ∧ Ext E w E' w' ∧ Sat E' st' w' ∧ Rv E' w' v u
def FnOk (P : Program) (g : Nat → List AV → St → FR) (E : Env) (w : World) : Prop := ∀ (f : Nat) (args : List AV) (st : St) (vs : Array Value), RvL E w args vs.toList → Sat E st w →
  (∀ v st', g f args st = .ret v st' → CallOk P f vs w (RetR E w v st')) ∧ (∀ v st', g f args st = .pan v st' → CallOk P f vs w (PanR E w v st'))
def YldOk (P : Program) (y : Nat → List AV → St → FR) (E : Env) (w : World) : Prop := ∀ (id b : Nat) (args : List AV) (st : St) (vs : Array Value), E.β id = some b → RvL E w args vs.toList → Sat E st w →
  ∀ v st', y id args st = .ret v st' → YCall P b vs w (RetR E w v st')
structure SoundC (P : Program) (Γ : Cg) (E : Env) (w : World) : Prop where
  fn : ∀ E' w', Ext E w E' w' → FnOk P Γ.fn E' w'
  yld : ∀ E' w', Ext E w E' w' → YldOk P Γ.yld E' w'
theorem SoundC.mono {P : Program} {Γ : Cg} {E E' : Env} {w w' : World} (h : SoundC P Γ E w) (hx : Ext E w E' w') : SoundC P Γ E' w' :=
  ⟨fun _ _ h2 => h.fn _ _ (hx.trans h2), fun _ _ h2 => h.yld _ _ (hx.trans h2)⟩
def RvD (P : Program) (E : Env) (w : World) (B : Nat) : Nat → List DA → List Deferred → Prop
  | _, [], l => l = []
  | U, .call n args :: ds, l => ∃ d l' vs, l = d :: l' ∧ (∃ fv cap, d.target = .fn fv cap) ∧ (∀ w, (invoke d.target d.args).run P w = (callFunc n vs).run P w) ∧ RvL E w args vs.toList ∧ RvD P E w B U ds l'
  | U, .coll :: ds, l => ∃ d l' D, l = d :: l' ∧ d.target = .collected D ∧ B ≤ D ∧ D < U ∧ E.Dz D ∧ RvD P E w B D ds l'
theorem RvD.mono {P : Program} {E E' : Env} {w w' : World} {B : Nat} (hx : Ext E w E' w') : ∀ {ds : List DA} {l : List Deferred} {U U' : Nat}, U ≤ U' → RvD P E w B U ds l → RvD P E' w' B U' ds l
  | [], _, _, _, _, h => h
  | .call n args :: ds, _, _, _, hU, ⟨d, l', vs, h1, h2, h3, h4, h5⟩ => ⟨d, l', vs, h1, h2, h3, RvL.mono hx _ _ h4, RvD.mono hx hU h5⟩
  | .coll :: ds, _, _, _, hU, ⟨d, l', D, h1, h2, h3, h4, h5, h6⟩ => ⟨d, l', D, h1, h2, h3, by omega, hx.Dz _ h5, RvD.mono hx (Nat.le_refl _) h6⟩
structure RvA (P : Program) (E : Env) (w : World) (N B : Nat) (fr : Fr) (a : Act) : Prop where
  f : RvF E w fr a
  n : a.tmps.size = N
  d : RvD P E w B w.heap.size fr.ds a.defers
  b : B ≤ w.heap.size
structure RvP (P : Program) (E : Env) (w : World) (B : Nat) (fr : Fr) (a : Act) : Prop where
  f : ∀ n v, fr.get n = some v → Rv E w v (a.tmps.getD n undef)
  d : RvD P E w B w.heap.size fr.ds a.defers
section
variable {P : Program} {Γ : Cg}
theorem RvF.put {E : Env} {w : World} {fr : Fr} {a : Act} {v : AV} {u : Value} {d : Option Nat} (hf : RvF E w fr a) (hv : Rv E w v u) (hd : dstOk a.tmps.size d = true) : RvF E w (Fr.put fr d v) (a.put d u) := by
  cases d with
  | none => exact hf
  | some d =>
    have hd := Nat.le_of_ble_eq_true hd
    intro n
    simp only [Fr.put, Act.put, Fr.get_set]
    by_cases hn : n = d
    · subst hn
      simp only [if_true, Option.getD_some]
      have : (a.tmps.setIfInBounds n u).getD n undef = u := by
        simp [Array.getD_eq_getD_getElem?, (show n < a.tmps.size by omega)]
      rw [this]; exact hv
    · simp only [if_neg hn]
      have : (a.tmps.setIfInBounds d u).getD n undef = a.tmps.getD n undef := by
        simp [Array.getD_eq_getD_getElem?, Array.getElem?_setIfInBounds_ne (show d ≠ n by omega)]
      rw [this]; exact hf n
theorem RvF.mono {E E' : Env} {w w' : World} {fr : Fr} {a : Act} (h : Ext E w E' w') (hf : RvF E w fr a) : RvF E' w' fr a := fun n => Rv.mono h _ _ (hf n)
theorem put_size (a : Act) (d : Option Nat) (u : Value) : (a.put d u).tmps.size = a.tmps.size := by cases d <;> simp [Act.put]
theorem put_defers' (a : Act) (d : Option Nat) (u : Value) : (a.put d u).defers = a.defers := by cases d <;> rfl
theorem wanted_sound {E : Env} {w : World} {fr : Fr} {a : Act} {ops : Array Oper} {o : Oper} {g : Option (Nat × Bool)} {b : Bool} (hf : RvF E w fr a) (hg : cguard ops o = some g) (hw : wantedA fr g = some b) :
    Region.wanted o (yielded ops a.tmps) = b := by
  unfold cguard at hg
  unfold Region.wanted
  cases ho : o.guard with
  | none => simp only [ho, Option.some.injEq] at hg; subst hg; simp [wantedA] at hw; simp [hw]
  | some q =>
    obtain ⟨j, want⟩ := q
    simp only [ho, Option.map_eq_some_iff] at hg
    obtain ⟨t, ht, rfl⟩ := hg
    simp only [wantedA] at hw
    have hr := hf t
    have hy : ∀ v, a.tmps.getD t undef = v → yielded ops a.tmps j = match v with | .bool b => (if t < a.tmps.size then some b else none) | _ => none := fun v hv => by
      unfold yielded
      rw [ht]
      simp only [Option.bind_some]
      by_cases hlt : t < a.tmps.size
      · have : a.tmps[t]? = some v := by
          rw [Array.getD_eq_getD_getElem?] at hv
          rw [Array.getElem?_eq_getElem hlt] at hv ⊢
          simpa using hv
        rw [this]; simp only [hlt, if_true]; cases v <;> rfl
      · rw [Array.getElem?_eq_none (by omega)]
        rw [Array.getD_eq_getD_getElem?, Array.getElem?_eq_none (by omega)] at hv
        simp only [Option.getD_none] at hv
        subst hv; rfl
    cases hv : (fr.get t).getD .undef <;> simp only [hv, Option.some.injEq, reduceCtorEq] at hw
    · rw [hv] at hr
      have hr : a.tmps.getD t undef = .tuple #[] := hr
      simp only [hy _ hr]; subst hw; simp
    · rw [hv] at hr
      rename_i c
      have hr : a.tmps.getD t undef = .bool c := hr
      have hlt : t < a.tmps.size := by
        by_cases hlt : t < a.tmps.size
        · exact hlt
        · rw [Array.getD_eq_getD_getElem?, Array.getElem?_eq_none (by omega)] at hr; simp [undef] at hr
      simp only [hy _ hr, hlt, if_true]
      subst hw
      cases want <;> cases c <;> rfl
theorem RvA.mono {E E' : Env} {w w' : World} {N B : Nat} {fr : Fr} {a : Act} (h : Ext E w E' w') (ha : RvA P E w N B fr a) : RvA P E' w' N B fr a := ⟨ha.f.mono h, ha.n, ha.d.mono h h.size, Nat.le_trans ha.b h.size⟩
theorem RvP.mono {E E' : Env} {w w' : World} {B : Nat} {fr : Fr} {a : Act} (h : Ext E w E' w') (ha : RvP P E w B fr a) : RvP P E' w' B fr a := ⟨fun n v hn => Rv.mono h _ _ (ha.f n v hn), ha.d.mono h h.size⟩
theorem RvF.part {E : Env} {w : World} {fr : Fr} {a : Act} (h : RvF E w fr a) : ∀ n v, fr.get n = some v → Rv E w v (a.tmps.getD n undef) := fun n v hn => by
  have := h n
  rw [hn] at this
  exact this
theorem RvA.toP {E : Env} {w : World} {N B : Nat} {fr : Fr} {a : Act} (h : RvA P E w N B fr a) : RvP P E w B fr a := ⟨h.f.part, h.d⟩
theorem RvA.put {E : Env} {w : World} {N B : Nat} {fr : Fr} {a : Act} {v : AV} {u : Value} {d : Option Nat} (h : RvA P E w N B fr a) (hv : Rv E w v u) (hd : dstOk N d = true) : RvA P E w N B (Fr.put fr d v) (a.put d u) :=
  ⟨h.f.put hv (by rw [h.n]; exact hd), by rw [put_size]; exact h.n, by rw [put_defers', Fr.put_ds]; exact h.d, h.b⟩
theorem cop_noDefer {fz : Bool} {o : Oper} {m : MOp} (h : cop P fz o = some m) : ∀ c, o.op ≠ .defer c := by
  intro c hc
  unfold cop ccall cop1 at h
  simp [hc] at h
theorem noDepth (b0 : Option Nat) : (FR0 b0).depth.isSome = true → 1 ≤ 0 := fun h => by cases h
theorem oper_sound {E : Env} {w : World} {fr : Fr} {a : Act} {st : St} {o : Oper} {fz : Bool} {b0 : Option Nat} {K : Act → World → Prop} {Q : Exit → Act → World → Prop} (hΓ : SoundC P Γ E w) (hf : RvF E w fr a) (hs : Sat E st w)
    (r : OpR) (hr : opr Γ fr st ((cop P fz o).getD .bad) = r)
    (hval : ∀ v st', r = .val v st' → ∀ E' w' u, Ext E w E' w' → Sat E' st' w' → Rv E' w' v u → K (a.put o.dst u) w')
    (hpan : ∀ v st', r = .pan v st' → ∀ E' w' u, Ext E w E' w' → Sat E' st' w' → Rv E' w' v u → Q (.panic [{ v := u, recovered := false }]) a w') (hst : r ≠ .stuck) : o.wpIn (FR0 b0) 0 P a w K Q := by
  cases hc : cop P fz o with
  | none => simp [hc, opr, aop] at hr; exact absurd hr.symm hst
  | some m =>
    simp only [hc, Option.getD_some] at hr
    refine ⟨fun _ _ => trivial, ?_⟩
    rw [Oper.semAt_eq _ _ _ (cop_noDefer hc)]
    by_cases hcall : m.isCall = true
    · -- a call
      cases m <;> simp [MOp.isCall] at hcall
      rename_i f xs
      simp only [opr] at hr
      obtain ⟨fo, args, ts, ho, hfo, hxs⟩ := cop_call hc
      have hfv := cx_sound hf hfo
      have hav := cxs_sound hf hxs
      unfold callR at hr
      split at hr
      · rename_i n first captured hfe
        rw [hfe] at hfv
        obtain ⟨v1, v2, e1, h1, h2⟩ := hfv
        have hargs : RvL E w (first ++ xs.map (ev fr) ++ captured) (v1 ++ args.map a.eval ++ v2).toList := by
          simp only [Array.toList_append, Array.toList_map]
          exact (h1.append hav).append h2
        have hS := hΓ.fn E w (Ext.refl _ _) n _ st _ hargs hs
        have hrun : (execOp a.eval o).run P w = (callFunc n (v1 ++ args.map a.eval ++ v2)).run P w := by
          simp only [execOp, ho, resolve, e1, Deferred.ofValue, Sem.run_bind, Sem.run_pure, Result.andThen, invoke]
        rw [hrun]
        cases hg : Γ.fn n (first ++ xs.map (ev fr) ++ captured) st with
        | ret v st' =>
          rw [hg] at hr
          rcases hS.1 v st' hg with ⟨hen, hcall⟩ | ⟨u, w', hv, u', E', h3, h4, h5, h6⟩
          · rw [hen]
            refine ⟨noDepth b0, (callsIn_wide (n := 0)).2 (hcall.mono fun e w' ⟨u, E', h3, h4, h5, h6⟩ => ?_)⟩
            subst h3
            exact hval v st' hr.symm E' w' u h4 h5 h6
          · rw [hv]
            injection h3 with h3; subst h3
            exact hval v st' hr.symm E' w' u h4 h5 h6
        | pan v st' =>
          rw [hg] at hr
          rcases hS.2 v st' hg with ⟨hen, hcall⟩ | ⟨u, w', hv, u', E', h3, h4, h5, h6⟩
          · rw [hen]
            refine ⟨noDepth b0, (callsIn_wide (n := 0)).2 (hcall.mono fun e w' ⟨u, E', h3, h4, h5, h6⟩ => ?_)⟩
            subst h3
            exact hpan v st' hr.symm E' w' u h4 h5 h6
          · cases h3
        | stuck => rw [hg] at hr; exact absurd hr.symm hst
      · rename_i id hfe
        rw [hfe] at hfv
        obtain ⟨b, hb, e1⟩ := hfv
        have hargs : RvL E w (xs.map (ev fr)) (args.map a.eval).toList := by simpa using hav
        split at hr
        · rename_i v st' hg
          obtain ⟨f', tmps, assign, body, hy, hround⟩ := hΓ.yld E w (Ext.refl _ _) id b _ st _ hb hargs hs v st' hg
          have hrun : (execOp a.eval o).run P w = (Instr.yield b (args.map a.eval)).run P w := by
            simp only [execOp, ho, resolve, e1, Deferred.ofValue, Sem.run_bind, Sem.run_pure, Result.andThen, invoke]
            simp
          rw [hrun, hy]
          have hR : RoundIn (FR0 b0) 0 P b f' tmps assign body w (RetR E w v st') := hround
          refine ⟨noDepth b0, hR.mono fun e w' ⟨u, E', h3, h4, h5, h6⟩ => ?_⟩
          subst h3
          exact hval v st' hr.symm E' w' u h4 h5 h6
        · exact absurd hr.symm hst
      · exact absurd hr.symm hst
    · have hcall : m.isCall = false := by simpa using hcall
      have hr' : aop fr st m = r := by cases m <;> simp [MOp.isCall] at hcall <;> exact hr
      have := cop_sound hf hs hc hcall
      rw [hr'] at this
      cases r with
      | val v st' =>
        obtain ⟨u, w', E', h1, h2, h3, h4⟩ := this
        rcases h1 with h1 | ⟨h1, h5⟩
        · rw [h1]; exact hval v st' rfl E' w' u h2 h3 h4
        · rw [h1]; subst h5; exact hval v st' rfl E' w' _ h2 h3 h4
      | pan v st' =>
        obtain ⟨u, w', E', h1, h2, h3, h4⟩ := this
        rw [h1]; exact hpan v st' rfl E' w' u h2 h3 h4
      | stuck => exact absurd rfl hst
def RReach (P : Program) (E : Env) (w : World) (N B : Nat) (r : RR) : Exit → Act → World → Prop := fun e a' w' =>
  match r with
  | .ok fr st => e = .normal ∧ ∃ E', Ext E w E' w' ∧ Sat E' st w' ∧ RvA P E' w' N B fr a'
  | .pan fr v st => ∃ u E', e = .panic [{ v := u, recovered := false }] ∧ Ext E w E' w' ∧ Sat E' st w' ∧ Rv E' w' v u ∧ RvP P E' w' B fr a'
  | .stuck => False
theorem RReach.mono {E E1 : Env} {w w1 : World} {N B : Nat} {r : RR} (h : Ext E w E1 w1) {e : Exit} {a : Act} {w' : World} (hr : RReach P E1 w1 N B r e a w') : RReach P E w N B r e a w' := by
  cases r with
  | ok fr st => obtain ⟨h1, E', h2, h3⟩ := hr; exact ⟨h1, E', h.trans h2, h3⟩
  | pan fr v st => obtain ⟨u, E', h1, h2, h3⟩ := hr; exact ⟨u, E', h1, h.trans h2, h3⟩
  | stuck => exact hr.elim
def wpListIn (F : Fence) (n : Nat) (P : Program) (ops : Array Oper) (Q : Exit → Act → World → Prop) : List Oper → Act → World → Prop
  | [], a, w => Q .normal a w
  | o :: l, a, w => if Region.wanted o (yielded ops a.tmps) then o.wpIn F n P a w (wpListIn F n P ops Q l) Q
    else (∀ f, o.about P w a.eval = some f → F.fn f) ∧ wpListIn F n P ops Q l (a.put o.dst undef) w
theorem uponIn_mono {F : Fence} {n : Nat} {o : Oper} {a : Act} {K K' : Act → World → Prop} {Q Q' : Exit → Act → World → Prop} (hk : ∀ a w, K a w → K' a w) (hq : ∀ e a w, Q e a w → Q' e a w) {r : Result Next} (h : o.uponIn F n P a K Q r) : o.uponIn F n P a K' Q' r := by
  have hl : LetsOut Q → LetsOut Q' := fun ⟨a0, w0, h0⟩ => ⟨a0, w0, hq _ _ _ h0⟩
  cases r with
  | ok x w' =>
    cases x with
    | row row args => exact ⟨h.1, h.2.mono fun v w'' he => hk _ _ he⟩
    | enter f args =>
      exact ⟨h.1, h.2.mono fun e w'' he => by
        cases e
        · exact hk _ _ he
        · exact hq _ _ _ he
        · exact hl he⟩
    | round l f tmps assign body =>
      exact ⟨h.1, h.2.mono fun e w'' he => by
        cases e
        · exact hk _ _ he
        · exact hq _ _ _ he
        · exact hl he⟩
    | value v => exact hk _ _ h
    | skip => exact hk _ _ h
    | defer d => exact hk _ _ h
    | _ => exact h.elim
  | halt x w' => cases x <;> simp only [Oper.uponIn] at h ⊢ <;> exact hq _ _ _ h
theorem wpListIn_mono {F : Fence} {n : Nat} {ops : Array Oper} {Q Q' : Exit → Act → World → Prop} (hq : ∀ e a w, Q e a w → Q' e a w) : ∀ (l : List Oper) (a : Act) (w : World), wpListIn F n P ops Q l a w → wpListIn F n P ops Q' l a w
  | [], _, _, h => hq _ _ _ h
  | o :: l, a, w, h => by
    unfold wpListIn at *
    split
    · rename_i hw; simp only [hw, if_true] at h
      exact ⟨h.1, uponIn_mono (fun a w => wpListIn_mono hq l a w) hq h.2⟩
    · rename_i hw; simp only [hw] at h; exact ⟨h.1, wpListIn_mono hq l _ _ h.2⟩
theorem wpOps_of_list {F : Fence} {n : Nat} {ops : Array Oper} {Q : Exit → Act → World → Prop} : ∀ (os : List Oper) (i : Nat) (a : Act) (w : World), (∀ k, k < os.length → ops[i + k]? = os[k]?) → wpListIn F n P ops Q os a w → wpOpsIn F n P ops Q (List.range' i os.length) a w
  | [], _, _, _, _, h => h
  | o :: os, i, a, w, hk, h => by
    have h0 := hk 0 (by simp)
    simp only [Nat.add_zero, List.getElem?_cons_zero] at h0
    have hr : ∀ k, k < os.length → ops[i + 1 + k]? = os[k]? := fun k hlt => by
      have := hk (k + 1) (by simp; omega)
      rw [show i + 1 + k = i + (k + 1) by omega, this]; simp
    simp only [List.length_cons, List.range'_succ, wpOpsIn, h0]
    unfold wpListIn at h
    split
    · rename_i hw; simp only [hw, if_true] at h
      exact ⟨h.1, uponIn_mono (fun a w => wpOps_of_list os (i + 1) a w hr) (fun _ _ _ h => h) h.2⟩
    · rename_i hw; simp only [hw] at h
      exact ⟨h.1, wpOps_of_list os (i + 1) _ w hr h.2⟩
theorem wpIn_region_list {F : Fence} {n id : Nat} {ops : Array Oper} {Q : Exit → Act → World → Prop} {a : Act} {w : World} (h : wpListIn F n P ops Q ops.toList a w) : (Code.region id ops false).wpIn F n P Q a w := by
  refine wpIn_region ?_
  have := wpOps_of_list (n := n) (F := F) (Q := Q) (ops := ops) ops.toList 0 a w (fun k _ => by simp) h
  rw [List.range_eq_range']
  simpa using this
theorem cspec_defer {rd : Bool} {o : Oper} {m : MOp} (h : cspec rd o = some m) (hd : m.isDefer = true) : rd = false ∧ ∃ fo args ts f xs, m = .defer f xs ∧ o.op = .defer { callee := .value fo, args, argTypes := ts } ∧ cx fo = some f ∧ cxs args.toList = some xs := by
  unfold cspec at h
  split at h
  · rename_i fo args ts ho
    cases rd with
    | true => cases h
    | false =>
      simp only [cond_false, Option.bind_eq_some_iff, Option.map_eq_some_iff] at h
      obtain ⟨f, h1, xs, h2, rfl⟩ := h
      exact ⟨rfl, fo, args, ts, f, xs, rfl, ho, h1, h2⟩
  · injection h with h; subst h; cases hd
  · cases h
theorem arun_sound {ops : Array Oper} {N B : Nat} {rd : Bool} {pol : Nat → Bool} {b0 : Option Nat} (hrd : rd = false → b0 = none) : ∀ (os : List Oper) (i : Nat) (ms : List MOper) (E : Env) (w : World) (fr : Fr) (a : Act) (st : St) (r : RR),
    SoundC P Γ E w → copers P ops N rd pol i os = some ms → arun Γ ms fr st = r → r ≠ .stuck → RvA P E w N B fr a → Sat E st w → wpListIn (FR0 b0) 0 P ops (RReach P E w N B r) os a w
  | [], i, ms, E, w, fr, a, st, r, hΓ, hc, hr, hst, hf, hs => by
    simp only [copers, Option.some.injEq] at hc; subst hc
    simp only [arun] at hr; subst hr
    exact ⟨rfl, E, Ext.refl _ _, hs, hf⟩
  | o :: os, i, ms, E, w, fr, a, st, r, hΓ, hc, hr, hst, hf, hs => by
    simp only [copers, Option.bind_eq_some_iff, Option.map_eq_some_iff] at hc
    obtain ⟨m, hm, ms', hms, rfl⟩ := hc
    simp only [coper, Option.bind_eq_some_iff] at hm
    obtain ⟨g, hg, hm⟩ := hm
    cases hd : dstOk N o.dst
    · simp [hd] at hm
    · simp only [hd, cond_true, Option.some.injEq] at hm
      unfold wpListIn
      have hmg : m.guard = g := by rw [← hm]
      have hmd : m.dst = o.dst := by rw [← hm]
      have hmo : m.op = match cspec rd o with | some m => m | none => (cop P (pol i) o).getD .bad := by rw [← hm]
      simp only [arun, hmg, hmd] at hr
      cases hw : wantedA fr g with
      | none => simp only [hw] at hr; exact absurd hr.symm hst
      | some b =>
        have hwant := wanted_sound hf.f hg hw
        cases b with
        | false =>
          simp only [hw] at hr
          simp only [hwant, Bool.false_eq_true, if_false]
          exact ⟨fun _ _ => trivial, arun_sound hrd os (i + 1) ms' E w _ _ st r hΓ hms hr hst (hf.put rfl hd) hs⟩
        | true =>
          simp only [hw] at hr
          simp only [hwant, if_true]
          cases hisd : m.op.isDefer with
          | true =>
            simp only [hisd, cond_true] at hr
            cases hsp : cspec rd o with
            | none =>
              rw [hsp] at hmo
              simp only at hmo
              cases hc : cop P (pol i) o with
              | none => rw [hc] at hmo; rw [hmo] at hisd; cases hisd
              | some m' =>
                rw [hc] at hmo
                have := cop_special hc
                rw [hmo] at hisd
                simp only [Option.getD_some] at hisd
                cases m' <;> simp [MOp.isDefer, MOp.special] at hisd this
            | some m' =>
              rw [hsp] at hmo
              simp only at hmo
              rw [hmo] at hisd hr
              obtain ⟨hrd', fo, args, ts, f, xs, rfl, ho, h1, h2⟩ := cspec_defer hsp hisd
              have hb0 := hrd hrd'
              subst hb0
              simp only [deferA] at hr
              have hfv := cx_sound hf.f h1
              have hav := cxs_sound hf.f h2
              cases hfe : ev fr f with
              | func fn first captured =>
                cases fn with
                | func n =>
                  rw [hfe] at hr hfv
                  simp only at hr
                  obtain ⟨v1, v2, e1, h3, h4⟩ := hfv
                  have hrun : (execOp a.eval o).run P w = .ok (.defer { target := .fn (.func n) v2, args := v1 ++ args.map a.eval }) w := by
                    simp only [execOp, ho, resolve, e1, Deferred.ofValue, Sem.run_bind, Sem.run_pure, Result.andThen]
                  refine ⟨fun _ _ => trivial, ?_⟩
                  have hsem : (o.semAt (FR0 none).round a.eval).run P w = (execOp a.eval o).run P w := rfl
                  rw [hsem, hrun]
                  have hargs : RvL E w (first ++ xs.map (ev fr) ++ captured) (v1 ++ args.map a.eval ++ v2).toList := by
                    simp only [Array.toList_append, Array.toList_map]
                    exact (h3.append hav).append h4
                  refine arun_sound hrd os (i + 1) ms' E w _ _ st r hΓ hms hr hst (RvA.put (fr := { fr with ds := _ }) (a := { a with defers := _ }) ⟨hf.f, hf.n, ?_, hf.b⟩ rfl hd) hs
                  exact ⟨_, _, v1 ++ args.map a.eval ++ v2, rfl, ⟨_, _, rfl⟩, fun _ => rfl, hargs, hf.d⟩
                | _ => rw [hfe] at hr; exact absurd hr.symm hst
              | _ => rw [hfe] at hr; exact absurd hr.symm hst
          | false =>
            simp only [hisd, cond_false] at hr
            cases hsp : cspec rd o with
            | some m' =>
              rw [hsp] at hmo
              simp only at hmo
              exfalso
              unfold cspec at hsp
              split at hsp
              · cases rd with
                | true => cases hsp
                | false =>
                  simp only [cond_false, Option.bind_eq_some_iff, Option.map_eq_some_iff] at hsp
                  obtain ⟨f, _, xs, _, rfl⟩ := hsp
                  rw [hmo] at hisd; cases hisd
              · injection hsp with hsp
                rw [hmo, ← hsp] at hr
                exact hst hr.symm
              · cases hsp
            | none =>
              rw [hsp] at hmo
              simp only at hmo
              rw [hmo] at hr
              cases ho : opr Γ fr st ((cop P (pol i) o).getD .bad) with
              | stuck => simp only [ho] at hr; exact absurd hr.symm hst
              | pan v st' =>
                simp only [ho] at hr
                refine oper_sound hΓ hf.f hs _ ho (fun v' st'' h => by cases h) (fun v' st'' h E' w' u h1 h2 h3 => ?_) (by simp)
                cases h
                subst hr
                exact ⟨u, E', rfl, h1, h2, h3, (hf.mono h1).toP⟩
              | val v st' =>
                simp only [ho] at hr
                refine oper_sound hΓ hf.f hs _ ho (fun v' st'' h E' w' u h1 h2 h3 => ?_) (fun v' st'' h => by cases h) (by simp)
                cases h
                exact wpListIn_mono (fun _ _ _ hq => RReach.mono h1 hq) _ _ _ (arun_sound hrd os (i + 1) ms' E' w' _ _ st' r (hΓ.mono h1) hms hr hst ((hf.mono h1).put h3 hd) h2)
end
end Go.AM
