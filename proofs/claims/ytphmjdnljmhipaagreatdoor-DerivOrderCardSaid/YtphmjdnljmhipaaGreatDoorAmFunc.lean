import Derived.Test.YtphmjdnljmhipaaGreatDoorAmCode
import Derived.Laws.ResultCell
import Derived.RecoverIn
/- The abstract machine, part 17: functions with their deferred calls, and whole runs; that the model's do the like. No program in sight. -/
namespace Go.AM

def abody (Γ : Gam) (Y : Yenv) (n : Nat) (DF : Nat → List AV → St → DM → Option (DM × St)) (mf : MFunc) (args : List AV) (st : St) : FR :=
  bif args.length.ble mf.N then match acode Γ Y n mf.code none (frOf 0 args Fr.nil) st with
    | .norm fr st => endF DF mf fr st .ret
    | .ret fr st => endF DF mf fr st .ret
    | .pan fr v st => endF DF mf fr st (.pan v)
    | _ => .stuck
  else .stuck

/-- Runs to a depth: 'tbl': functions as this machine has them; 'hand': the others. -/
def arunC (tbl : Nat → Option MFunc) (hand : Gam → Nat → Yenv → Nat → List AV → St → FR) : Nat → Yenv → Nat → List AV → St → FR
  | 0, _, _, _, _ => .stuck
  | n + 1, Y, f, args, st => match tbl f with
    | some mf => abody ⟨arunC tbl hand n, entT tbl⟩ Y n (defT tbl ⟨arunC tbl hand n, entT tbl⟩ Y n) mf args st
    | none => hand ⟨arunC tbl hand n, entT tbl⟩ n Y f args st

def gamT (tbl : Nat → Option MFunc) (hand : Gam → Nat → Yenv → Nat → List AV → St → FR) (n : Nat) : Gam := ⟨arunC tbl hand n, entT tbl⟩

def arunF (tbl : Nat → Option MFunc) (hand : Gam → Nat → Yenv → Nat → List AV → St → FR) (n : Nat) : Nat → List AV → St → FR := arunC tbl hand n Y0

def cres (P : Program) : ResultVar → Option MRes
  | .tmp t => some (.t t)
  | .cell a t => (P.underlying t).bind fun d => (P.info? t).map fun i => .cell a (aggOf d) i.size
def cress (P : Program) : List ResultVar → Option (List MRes)
  | [] => some []
  | r :: rs => (cres P r).bind fun m => (cress P rs).map (m :: ·)

def cfunc (P : Program) (pol : Nat → Nat → Bool) (fn : Func) : Option MFunc :=
  fn.body.bind fun c => bif fn.name == "runtime.NumGoroutine" then none else (cress P fn.results.toList).map fun rs => { N := fn.ntmps, code := ccode P fn.ntmps pol false c, res := rs }

/-- The table says of the program what is so. -/
def TblOk (P : Program) (tbl : Nat → Option MFunc) : Prop := ∀ f mf, tbl f = some mf → ∃ fn pol, P.funcs[f]? = some fn ∧ cfunc P pol fn = some mf
def HandOk (P : Program) (hand : Gam → Nat → Yenv → Nat → List AV → St → FR) : Prop := ∀ Γ n, GSound P Γ → ∀ (Y : Yenv) (E : Env) (w : World), YSound P Y E w → FnOk P (hand Γ n Y) E w

section
variable {P : Program} {Γ : Gam}

theorem frOf_get : ∀ (xs : List AV) (i n : Nat) (fr : Fr), (frOf i xs fr).get n = if i ≤ n ∧ n < i + xs.length then xs[n - i]? else fr.get n
  | [], i, n, fr => by simp only [frOf, List.length_nil, Nat.add_zero]; rw [if_neg (by omega)]
  | x :: xs, i, n, fr => by
    simp only [frOf]
    rw [frOf_get xs (i + 1) n]
    by_cases h : n = i
    · subst h
      rw [if_neg (by omega), if_pos (by simp), Fr.get_set]
      simp
    · by_cases h2 : i + 1 ≤ n ∧ n < i + 1 + xs.length
      · rw [if_pos h2, if_pos (by simp only [List.length_cons]; omega)]
        rw [show n - i = (n - (i + 1)) + 1 by omega]; simp
      · rw [if_neg h2, if_neg (by simp only [List.length_cons]; omega), Fr.get_set, if_neg h]

theorem frOf_sound {E : Env} {w : World} {args : List AV} {vs : Array Value} {N : Nat} (h : RvL E w args vs.toList) :
    RvF E w (frOf 0 args Fr.nil) { tmps := vs ++ Array.replicate (N - vs.size) undef, defers := [] } := by
  intro n
  rw [frOf_get]
  have hl := h.length
  simp only [Array.length_toList] at hl
  by_cases hn : n < args.length
  · rw [if_pos (by omega)]
    simp only [Nat.sub_zero]
    obtain ⟨v, h1, h2⟩ := h.get n (List.getElem?_eq_getElem hn)
    rw [List.getElem?_eq_getElem hn]
    simp only [Option.getD_some]
    have : (vs ++ Array.replicate (N - vs.size) undef).getD n undef = v := by
      rw [Array.getD_eq_getD_getElem?, Array.getElem?_append_left (by omega)]
      have : vs[n]? = some v := by simpa using h1
      rw [this]; rfl
    rw [this]; exact h2
  · rw [if_neg (by omega), Fr.get_nil]
    simp only [Option.getD_none]
    have : (vs ++ Array.replicate (N - vs.size) undef).getD n undef = undef := by
      rw [Array.getD_eq_getD_getElem?, Array.getElem?_append_right (by omega)]
      cases hq : (Array.replicate (N - vs.size) undef)[n - vs.size]? with
      | none => rfl
      | some q =>
        have := Array.getElem?_eq_some_iff.1 hq
        obtain ⟨_, h3⟩ := this
        simp at h3; simp [h3]
    rw [this]; rfl

/-- One result. -/
def resSem (tmps : Array Value) : ResultVar → Sem Value
  | .tmp t => pure (tmps.getD t undef)
  | .cell b t => do loadVar t (← asAddr (tmps.getD b undef))

theorem results_eq (fn : Func) (tmps : Array Value) : results fn tmps = (do
    let vs ← fn.results.mapM (resSem tmps)
    pure (if h : vs.size = 1 then vs[0] else .tuple vs)) := by
  unfold results
  have : (fun x => resSem tmps x) = (fun (x : ResultVar) => (match x with
      | .tmp t => pure (tmps.getD t undef)
      | .cell a t => do loadVar t (← asAddr (tmps.getD a undef)) : Sem Value)) := by
    funext r; cases r <;> rfl
  show _ = (do
    let vs ← fn.results.mapM (fun x => resSem tmps x)
    pure (if h : vs.size = 1 then vs[0] else .tuple vs))
  rw [this]; rfl

theorem ressA_sound {E : Env} {w : World} {fr : Fr} {a : Act} {st : St} (hf : ∀ n v, fr.get n = some v → Rv E w v (a.tmps.getD n undef)) (hs : Sat E st w) : ∀ (rs : List ResultVar) (ms : List MRes) (l : List AV), cress P rs = some ms → ressA fr st ms = some l →
    ∃ vs, (rs.mapM (resSem a.tmps)).run P w = .ok vs w ∧ RvL E w l vs
  | [], ms, l, hc, hr => by
    simp only [cress, Option.some.injEq] at hc; subst hc
    simp only [ressA, Option.some.injEq] at hr; subst hr
    exact ⟨[], by simp, rfl⟩
  | r :: rs, ms, l, hc, hr => by
    simp only [cress, Option.bind_eq_some_iff, Option.map_eq_some_iff] at hc
    obtain ⟨m, h1, ms', h2, rfl⟩ := hc
    simp only [ressA, Option.bind_eq_some_iff, Option.map_eq_some_iff] at hr
    obtain ⟨v, h3, l', h4, rfl⟩ := hr
    obtain ⟨vs, h5, h6⟩ := ressA_sound hf hs rs ms' l' h2 h4
    cases r with
    | tmp t =>
      simp only [cres, Option.some.injEq] at h1; subst h1
      simp only [resA] at h3
      exact ⟨_ :: vs, by rw [List.mapM_cons]; simp only [resSem, Sem.run_bind, Sem.run_pure, Result.andThen, h5], _, _, rfl, hf t v h3, h6⟩
    | cell b t =>
      simp only [cres, Option.bind_eq_some_iff, Option.map_eq_some_iff] at h1
      obtain ⟨d, hd, i, hi, rfl⟩ := h1
      simp only [resA, Option.bind_eq_some_iff] at h3
      obtain ⟨x, h3x, h3⟩ := h3
      obtain ⟨u, h7, h8⟩ := loadA_sound (P := P) hd hi rfl hs (hf b x h3x) h3
      have h9 : (resSem a.tmps (.cell b t)).run P w = .ok u w := by
        show (asAddr (a.tmps.getD b undef) >>= fun x => loadVar t x).run P w = _
        revert h7
        generalize a.tmps.getD b undef = q
        intro h7
        cases q with
        | pointer o =>
          cases o with
          | none => simp [Instr.loadAt, Instr.sureAddr] at h7
          | some ad => simpa [Instr.loadAt, Instr.sureAddr, asAddr] using h7
        | _ => simp [Instr.loadAt, Instr.sureAddr] at h7
      refine ⟨u :: vs, ?_, u, vs, rfl, h8, h6⟩
      rw [List.mapM_cons]
      simp only [Sem.run_bind, h9, Sem.run_pure, Result.andThen, h5]

theorem results_run {w : World} {fn : Func} {tmps : Array Value} {vs : List Value} (h : (fn.results.toList.mapM (resSem tmps)).run P w = .ok vs w) :
    (results fn tmps).run P w = .ok (if h : vs.toArray.size = 1 then vs.toArray[0] else .tuple vs.toArray) w := by
  have hm : (fn.results.mapM (resSem tmps)).run P w = .ok vs.toArray w := by
    rw [Array.mapM_eq_mapM_toList]
    simp only [Sem.run_map, h, Result.andThen]
  rw [results_eq]
  simp only [Sem.run_bind, hm, Result.andThen, Sem.run_pure]

theorem resultA_sound {E : Env} {w : World} {fr : Fr} {a : Act} {st st' : St} {fn : Func} {ms : List MRes} {v : AV} (hf : ∀ n v, fr.get n = some v → Rv E w v (a.tmps.getD n undef)) (hs : Sat E st w) (hc : cress P fn.results.toList = some ms)
    (hr : resultA fr st ms = .ret v st') : ∃ u, (results fn a.tmps).run P w = .ok u w ∧ Rv E w v u ∧ st' = st := by
  unfold resultA at hr
  cases hl : ressA fr st ms with
  | none => simp [hl] at hr
  | some l =>
    obtain ⟨vs, h1, h2⟩ := ressA_sound hf hs _ _ l hc hl
    rw [results_run h1]
    simp only [hl] at hr
    have hlen := h2.length
    split at hr
    · rename_i v' he
      injection he with he; subst he
      injection hr with e1 e2; subst e1; subst e2
      obtain ⟨x, xs, rfl, h3, h4⟩ := h2
      cases h4
      exact ⟨x, by simp, h3, rfl⟩
    · rename_i vs' hne he
      injection he with he; subst he
      injection hr with e1 e2; subst e1; subst e2
      have : vs.length ≠ 1 := fun h1 => by
        rw [← hlen] at h1
        cases l with
        | nil => simp at h1
        | cons c cs => cases cs with
          | nil => exact hne c rfl
          | cons _ _ => simp at h1
      exact ⟨.tuple vs.toArray, by simp [this], ⟨vs.toArray, rfl, by simpa using h2⟩, rfl⟩
    · simp at hr

/-! ### Deferred calls -/
/-- How the frame leaves. -/
def DMR (E : Env) (w : World) : DM → FrameMode → Prop
  | .ret, u => u = .returning
  | .pan v, u => ∃ x, u = .panicking [{ v := x, recovered := false }] ∧ Rv E w v x
  | .recd, u => ∃ x, u = .panicking [{ v := x, recovered := true }]

theorem DMR.mono {E E' : Env} {w w' : World} (hx : Ext E w E' w') : ∀ {m : DM} {u : FrameMode}, DMR E w m u → DMR E' w' m u
  | .ret, _, h => h
  | .pan _, _, ⟨x, h1, h2⟩ => ⟨x, h1, Rv.mono hx _ _ h2⟩
  | .recd, _, h => h

theorem DMR.run {E : Env} {w : World} {m : DM} {u : FrameMode} (h : DMR E w m u) : u ≠ .run := by
  cases m with
  | ret => rw [show u = _ from h]; simp
  | pan v => obtain ⟨x, rfl, _⟩ := h; simp
  | recd => obtain ⟨x, rfl⟩ := h; simp

theorem DMR.settle {E : Env} {w : World} {m : DM} {u : FrameMode} (h : DMR E w m u) : DMR E w (settleA m) (settle u) := by
  cases m with
  | ret => rw [show u = _ from h]; rfl
  | pan v => obtain ⟨x, rfl, h⟩ := h; exact ⟨x, rfl, h⟩
  | recd => obtain ⟨x, rfl⟩ := h; rfl

/-- Where code of a deferred call comes to. -/
def SReach (P : Program) (E : Env) (w : World) (N B : Nat) (c₀ : Frame) (cs0 : List Frame) (r : CR) (m : DM) : Exit → Act → List Frame → World → Prop := fun e a' cs' w' =>
  ∃ u, cs' = { c₀ with mode := u } :: cs0 ∧
    match r with
    | .norm fr st => e = .normal ∧ ∃ E', Ext E w E' w' ∧ Sat E' st w' ∧ RvA P E' w' N B fr a' ∧ DMR E' w' m u
    | .ret fr st => e = .ret ∧ ∃ E', Ext E w E' w' ∧ Sat E' st w' ∧ RvA P E' w' N B fr a' ∧ DMR E' w' m u
    | _ => False

theorem SReach.mono {E E1 : Env} {w w1 : World} {N B : Nat} {c₀ : Frame} {cs0 : List Frame} {r : CR} {m : DM} (h : Ext E w E1 w1) {e : Exit} {a : Act} {cs : List Frame} {w' : World} (hr : SReach P E1 w1 N B c₀ cs0 r m e a cs w') : SReach P E w N B c₀ cs0 r m e a cs w' := by
  obtain ⟨u, h1, h2⟩ := hr
  cases r with
  | norm fr st => obtain ⟨h3, E', h4, h5⟩ := h2; exact ⟨u, h1, h3, E', h.trans h4, h5⟩
  | ret fr st => obtain ⟨h3, E', h4, h5⟩ := h2; exact ⟨u, h1, h3, E', h.trans h4, h5⟩
  | _ => exact h2.elim

theorem wpSIn_mono {F : Fence} {n : Nat} {c : Code} {Q Q' : Exit → Act → List Frame → World → Prop} {a : Act} {cs : List Frame} {w : World} (h : c.wpSIn F n P Q a cs w) (hq : ∀ e a cs w, Q e a cs w → Q' e a cs w) : c.wpSIn F n P Q' a cs w :=
  fun b k hb hr hF hroom => let ⟨e, a', cs', w', l, q, r⟩ := h b k hb hr hF hroom; ⟨e, a', cs', w', l, hq _ _ _ _ q, r⟩

theorem recoverD_pan {c₀ : Frame} {cs : List Frame} {x : Value} : recoverD ({ c₀ with mode := .panicking [{ v := x, recovered := false }] } :: cs) = some (x, { c₀ with mode := .panicking [{ v := x, recovered := true }] } :: cs) := rfl

theorem wpOpsSIn_mono {F : Fence} {n : Nat} {ops : Array Oper} {Q Q' : Exit → Act → List Frame → World → Prop} (hq : ∀ e a cs w, Q e a cs w → Q' e a cs w) : ∀ (l : List Nat) (a : Act) (cs : List Frame) (w : World), wpOpsSIn F n P ops Q l a cs w → wpOpsSIn F n P ops Q' l a cs w
    | [], _, _, _, h => hq _ _ _ _ h
    | i :: l, a, cs, w, h => by
      unfold wpOpsSIn at *
      split
      · rename_i ho; simp only [ho] at h; exact wpOpsSIn_mono hq l _ _ _ h
      · rename_i o ho
        simp only [ho] at h
        refine ⟨h.1, ?_⟩
        have h := h.2
        split
        · rename_i hw
          simp only [hw, if_true] at h
          generalize (execOp a.eval o).run P w = r at *
          cases r with
          | ok x w' =>
            cases x with
            | recover =>
              simp only at h ⊢
              split
              · rename_i hrd; simp only [hrd] at h; exact wpOpsSIn_mono hq l _ _ _ h
              · rename_i hrd; simp only [hrd] at h; exact wpOpsSIn_mono hq l _ _ _ h
            | value v => exact wpOpsSIn_mono hq l _ _ _ h
            | skip => exact wpOpsSIn_mono hq l _ _ _ h
            | _ => exact h.elim
          | halt x w' =>
            cases x with
            | panic v => exact hq _ _ _ _ h
            | _ => exact h.elim
        · rename_i hw; simp only [hw] at h; exact wpOpsSIn_mono hq l _ _ _ h
theorem arunS_sound {ops : Array Oper} {N B : Nat} {rd : Bool} {pol : Nat → Bool} {c₀ : Frame} {cs0 : List Frame} : ∀ (os : List Oper) (i : Nat) (ms : List MOper) (E : Env) (w : World) (fr fr' : Fr) (a : Act) (st st' : St) (m m' : DM) (u : FrameMode),
    (∀ k, k < os.length → ops[i + k]? = os[k]?) → copers P ops N rd pol i os = some ms → arunS ms fr st m = some (fr', st', m') → RvA P E w N B fr a → Sat E st w → DMR E w m u →
    wpOpsSIn (FR0 none) 0 P ops (SReach P E w N B c₀ cs0 (.norm fr' st') m') (List.range' i os.length) a ({ c₀ with mode := u } :: cs0) w
  | [], i, ms, E, w, fr, fr', a, st, st', m, m', u, _, hc, hr, hf, hs, hm => by
    simp only [copers, Option.some.injEq] at hc; subst hc
    simp only [arunS, Option.some.injEq, Prod.mk.injEq] at hr
    obtain ⟨rfl, rfl, rfl⟩ := hr
    exact ⟨u, rfl, rfl, E, Ext.refl _ _, hs, hf, hm⟩
  | o :: os, i, ms, E, w, fr, fr', a, st, st', m, m', u, hk, hc, hr, hf, hs, hm => by
    have h0 := hk 0 (by simp)
    simp only [Nat.add_zero, List.getElem?_cons_zero] at h0
    have hk' : ∀ k, k < os.length → ops[i + 1 + k]? = os[k]? := fun k hlt => by
      have := hk (k + 1) (by simp; omega)
      rw [show i + 1 + k = i + (k + 1) by omega, this]; simp
    simp only [copers, Option.bind_eq_some_iff, Option.map_eq_some_iff] at hc
    obtain ⟨mo, hmo, ms', hms, rfl⟩ := hc
    simp only [coper, Option.bind_eq_some_iff] at hmo
    obtain ⟨g, hg, hmo⟩ := hmo
    simp only [List.length_cons, List.range'_succ, wpOpsSIn, h0]
    refine ⟨fun _ _ => trivial, ?_⟩
    cases hd : dstOk N o.dst
    · simp [hd] at hmo
    · simp only [hd, cond_true, Option.some.injEq] at hmo
      have hmg : mo.guard = g := by rw [← hmo]
      have hmd : mo.dst = o.dst := by rw [← hmo]
      have hmop : mo.op = match cspec rd o with | some m => m | none => (cop P (pol i) o).getD .bad := by rw [← hmo]; rfl
      simp only [arunS, hmg, hmd] at hr
      cases hw : wantedA fr g with
      | none => simp [hw] at hr
      | some b =>
        have hwant := wanted_sound hf.f hg hw
        cases b with
        | false =>
          simp only [hw] at hr
          simp only [hwant, Bool.false_eq_true, if_false]
          exact arunS_sound os (i + 1) ms' E w _ fr' _ st st' m m' u hk' hms hr (hf.put rfl hd) hs hm
        | true =>
          simp only [hw] at hr
          simp only [hwant, if_true]
          cases hrec : mo.op.isRecov with
          | true =>
            simp only [hrec, cond_true] at hr
            have hrun : (execOp a.eval o).run P w = .ok .recover w := by
              cases hsp : cspec rd o with
              | none =>
                rw [hsp] at hmop
                simp only at hmop
                cases hc : cop P (pol i) o with
                | none => rw [hc] at hmop; rw [hmop] at hrec; cases hrec
                | some m1 =>
                  rw [hc] at hmop
                  have := cop_special hc
                  rw [hmop] at hrec
                  simp only [Option.getD_some] at hrec
                  cases m1 <;> simp [MOp.isRecov, MOp.special] at hrec this
              | some m1 =>
                unfold cspec at hsp
                split at hsp
                · cases rd with
                  | true => cases hsp
                  | false =>
                    rw [show cspec false o = some m1 by unfold cspec; simp only [*]] at hmop
                    simp only [cond_false, Option.bind_eq_some_iff, Option.map_eq_some_iff] at hsp
                    obtain ⟨f, _, xs, _, rfl⟩ := hsp
                    simp only at hmop
                    rw [hmop] at hrec; cases hrec
                · rename_i ho
                  simp [execOp, ho, resolve, invoke, builtin]
                · cases hsp
            rw [hrun]
            simp only
            cases m with
            | ret =>
              have hu : u = .returning := hm
              subst hu
              simp only at hr
              simp only [recoverD]
              exact arunS_sound os (i + 1) ms' E w _ fr' _ st st' .ret m' .returning hk' hms hr (hf.put rfl hd) hs rfl
            | recd =>
              obtain ⟨x, hu⟩ := hm
              subst hu
              simp only at hr
              simp only [recoverD]
              exact arunS_sound os (i + 1) ms' E w _ fr' _ st st' .recd m' _ hk' hms hr (hf.put rfl hd) hs ⟨x, rfl⟩
            | pan v =>
              obtain ⟨x, hu, hx⟩ := hm
              subst hu
              simp only at hr
              rw [recoverD_pan]
              exact arunS_sound os (i + 1) ms' E w _ fr' _ st st' .recd m' _ hk' hms hr (hf.put hx hd) hs ⟨x, rfl⟩
          | false =>
            simp only [hrec, cond_false] at hr
            cases ho : aop fr st mo.op with
            | stuck => simp [ho] at hr
            | pan v st2 => simp [ho] at hr
            | val v st2 =>
              simp only [ho] at hr
              have hop : mo.op = (cop P (pol i) o).getD .bad := by
                cases hsp : cspec rd o with
                | none => rw [hsp] at hmop; exact hmop
                | some m1 =>
                  exfalso
                  rw [hsp] at hmop
                  simp only at hmop
                  rw [hmop] at ho hrec
                  unfold cspec at hsp
                  split at hsp
                  · cases rd with
                    | true => cases hsp
                    | false =>
                      simp only [cond_false, Option.bind_eq_some_iff, Option.map_eq_some_iff] at hsp
                      obtain ⟨f, _, xs, _, rfl⟩ := hsp
                      cases ho
                  · injection hsp with hsp; subst hsp; cases hrec
                  · cases hsp
              cases hc : cop P (pol i) o with
              | none => rw [hc] at hop; rw [hop] at ho; cases ho
              | some m1 =>
                rw [hc] at hop
                simp only [Option.getD_some] at hop
                rw [hop] at ho
                have hnc : m1.isCall = false := by
                  cases m1 <;> first | rfl | cases ho
                have hok := cop_sound hf.f hs hc hnc
                rw [ho] at hok
                obtain ⟨q, w', E', k1, k2, k3, k4⟩ := hok
                have go : wpOpsSIn (FR0 none) 0 P ops (SReach P E w N B c₀ cs0 (.norm fr' st') m') (List.range' (i + 1) os.length) (a.put o.dst q) ({ c₀ with mode := u } :: cs0) w' :=
                  wpOpsSIn_mono (fun _ _ _ _ hq => SReach.mono k2 hq) _ _ _ _ (arunS_sound os (i + 1) ms' E' w' _ fr' _ st2 st' m m' u hk' hms hr ((hf.mono k2).put k4 hd) k3 (hm.mono k2))
                rcases k1 with k1 | ⟨k1, k5⟩
                · rw [k1]; exact go
                · rw [k1]; subst k5; exact go

/-- The results that are taken. -/
def CR.fine : CR → Bool
  | .norm _ _ => true
  | .ret _ _ => true
  | _ => false

theorem acodeS_sound {N n B : Nat} {pol : Nat → Nat → Bool} {Y : Yenv} (hG : GSound P Γ) {c₀ : Frame} {cs0 : List Frame} : ∀ (c : Code) (E : Env) (w : World) (fr : Fr) (a : Act) (st : St) (m m' : DM) (u : FrameMode) (r : CR),
    YSound P Y E w → acodeS Γ Y n (ccode P N pol false c) fr st m = (r, m') → r.fine = true → RvA P E w N B fr a → Sat E st w → DMR E w m u → c.wpSIn (FR0 none) 0 P (SReach P E w N B c₀ cs0 r m') a ({ c₀ with mode := u } :: cs0) w := by
  intro c
  have plain : ∀ (c : Code) (E : Env) (w : World) (fr : Fr) (a : Act) (st : St) (m m' : DM) (u : FrameMode) (r : CR), YSound P Y E w → (acode Γ Y n (ccode P N pol false c) none fr st, m) = (r, m') → r.fine = true → RvA P E w N B fr a → Sat E st w → DMR E w m u →
      c.wpSIn (FR0 none) 0 P (SReach P E w N B c₀ cs0 r m') a ({ c₀ with mode := u } :: cs0) w := fun c E w fr a st m m' u r hY hr hfine hf hs hm => by
    simp only [Prod.mk.injEq] at hr
    obtain ⟨hr, rfl⟩ := hr
    refine wpSIn_of_wpIn rfl (wpIn_mono (acode_sound hG c false none none (fun _ => rfl) B E w fr a st r hY trivial hr (by rintro rfl; cases hfine) hf hs) fun e a' w' h => ?_)
    refine ⟨u, rfl, ?_⟩
    cases r with
    | norm fr' st' => obtain ⟨h1, E', h2, h3, h4⟩ := h; exact ⟨h1, E', h2, h3, h4, hm.mono h2⟩
    | ret fr' st' => obtain ⟨h1, E', h2, h3, h4⟩ := h; exact ⟨h1, E', h2, h3, h4, hm.mono h2⟩
    | _ => cases hfine
  induction c with
  | seq c d ihc ihd =>
    intro E w fr a st m m' u r hY hr hfine hf hs hm
    simp only [ccode, acodeS] at hr
    refine wpSIn_seq ?_
    cases hcr : acodeS Γ Y n (ccode P N pol false c) fr st m with
    | mk r1 m1 =>
      rw [hcr] at hr
      cases r1 with
      | norm fr1 st1 =>
        simp only at hr
        refine wpSIn_mono (ihc E w fr a st m m1 u _ hY hcr rfl hf hs hm) fun e a' cs' w' ⟨u1, h1, he, E', h2, h3, h4, h5⟩ => ?_
        subst he; subst h1
        exact wpSIn_mono (ihd E' w' fr1 a' st1 m1 m' u1 r (hY.mono h2) hr hfine h4 h3 h5) fun _ _ _ _ hq => SReach.mono h2 hq
      | ret fr1 st1 =>
        simp only [Prod.mk.injEq] at hr
        obtain ⟨rfl, rfl⟩ := hr
        refine wpSIn_mono (ihc E w fr a st m m1 u _ hY hcr rfl hf hs hm) fun e a' cs' w' h => ?_
        obtain ⟨u1, h1, he, h2⟩ := h
        subst he
        exact ⟨u1, h1, rfl, h2⟩
      | exit _ _ _ => simp only [Prod.mk.injEq] at hr; obtain ⟨rfl, rfl⟩ := hr; cases hfine
      | pan _ _ _ => simp only [Prod.mk.injEq] at hr; obtain ⟨rfl, rfl⟩ := hr; cases hfine
      | stuck => simp only [Prod.mk.injEq] at hr; obtain ⟨rfl, rfl⟩ := hr; cases hfine
  | cond co c d ihc ihd =>
    intro E w fr a st m m' u r hY hr hfine hf hs hm
    simp only [ccode] at hr
    cases hco : cx co with
    | none => simp only [hco, acodeS, acode, Prod.mk.injEq] at hr; obtain ⟨rfl, rfl⟩ := hr; cases hfine
    | some x =>
      simp only [hco, acodeS] at hr
      have hx := cx_sound hf.f hco
      cases hev : ev fr x <;> simp only [hev, Prod.mk.injEq] at hr <;> try (obtain ⟨rfl, rfl⟩ := hr; cases hfine; done)
      rename_i b
      rw [hev] at hx
      have hx : a.eval co = .bool b := hx
      refine wpSIn_cond hx ?_
      cases b with
      | true => exact ihc E w fr a st m m' u r hY hr hfine hf hs hm
      | false => exact ihd E w fr a st m m' u r hY hr hfine hf hs hm
  | region id ops draw =>
    intro E w fr a st m m' u r hY hr hfine hf hs hm
    cases draw with
    | true =>
      refine plain (.region id ops true) E w fr a st m m' u r hY ?_ hfine hf hs hm
      rw [← hr]
      simp only [ccode]
      cases copers P ops N false (pol id) 0 ops.toList with
      | none => rfl
      | some ms =>
        simp only
        unfold cdraw
        cases (P.follows .mixedOrders && drawB ops (ms.zip (ancsGo ops.toList [])) && allocsB ops.toList ms) <;> rfl
    | false =>
      simp only [ccode] at hr
      cases hms : copers P ops N false (pol id) 0 ops.toList with
      | none => simp only [hms, acodeS, acode, Prod.mk.injEq] at hr; obtain ⟨rfl, rfl⟩ := hr; cases hfine
      | some ms =>
        simp only [hms, acodeS] at hr
        cases hany : (ms.any fun o => o.op.isRecov) with
        | false =>
          rw [hany] at hr
          refine plain (.region id ops false) E w fr a st m m' u r hY ?_ hfine hf hs hm
          simp only [ccode, hms]
          exact hr
        | true =>
          rw [hany] at hr
          simp only [cond_true] at hr
          cases har : arunS ms fr st m with
          | none => rw [har] at hr; simp only [Prod.mk.injEq] at hr; obtain ⟨rfl, rfl⟩ := hr; cases hfine
          | some q =>
            obtain ⟨fr1, st1, m1⟩ := q
            rw [har] at hr
            simp only [Prod.mk.injEq] at hr
            obtain ⟨rfl, rfl⟩ := hr
            refine wpSIn_region ?_
            have := arunS_sound (c₀ := c₀) (cs0 := cs0) ops.toList 0 ms E w fr fr1 a st st1 m m1 u (fun k _ => by simp) hms har hf hs hm
            rw [List.range_eq_range']
            simpa using this
  | skip => intro E w fr a st m m' u r hY hr hfine hf hs hm; exact plain _ E w fr a st m m' u r hY hr hfine hf hs hm
  | ret => intro E w fr a st m m' u r hY hr hfine hf hs hm; exact plain _ E w fr a st m m' u r hY hr hfine hf hs hm
  | exit id => intro E w fr a st m m' u r hY hr hfine hf hs hm; exact plain _ E w fr a st m m' u r hY hr hfine hf hs hm
  | block id c _ => intro E w fr a st m m' u r hY hr hfine hf hs hm; exact plain _ E w fr a st m m' u r hY hr hfine hf hs hm
  | loop c _ => intro E w fr a st m m' u r hY hr hfine hf hs hm; exact plain _ E w fr a st m m' u r hY hr hfine hf hs hm
  | rangeFunc g ps asg body _ _ =>
    intro E w fr a st m m' u r hY hr hfine hf hs hm
    refine plain (.rangeFunc g ps asg body) E w fr a st m m' u r hY ?_ hfine hf hs hm
    rw [← hr]
    simp only [ccode]
    cases cx g with
    | none => rfl
    | some x =>
      simp only
      cases (ps.toList.all fun p => Nat.ble (p + 1) N) <;> rfl
  | _ => intro E w fr a st m m' u r hY hr hfine; simp only [ccode, acodeS, acode, Prod.mk.injEq] at hr; obtain ⟨rfl, rfl⟩ := hr; cases hfine

/-- The frame at a function's begin. -/
theorem start_act {E : Env} {w : World} {args : List AV} {vs : Array Value} {N B : Nat} (ha : RvL E w args vs.toList) (hle : args.length ≤ N) (hB : B ≤ w.heap.size) :
    RvA P E w N B (frOf 0 args Fr.nil) { tmps := vs ++ Array.replicate (N - vs.size) undef, defers := [] } := by
  have hlen := ha.length
  simp only [Array.length_toList] at hlen
  refine ⟨frOf_sound ha, by simp; omega, ?_, hB⟩
  have : ∀ (l : List AV) (i : Nat) (fr : Fr), (frOf i l fr).ds = fr.ds := fun l => by
    induction l with
    | nil => intro i fr; rfl
    | cons x xs ih => intro i fr; unfold frOf; rw [ih]; rfl
  rw [this]; rfl

theorem cfunc_parts {fn : Func} {mf : MFunc} {pol : Nat → Nat → Bool} (hc : cfunc P pol fn = some mf) : ∃ c rs, fn.body = some c ∧ (fn.name == "runtime.NumGoroutine") = false ∧ cress P fn.results.toList = some rs ∧ mf = { N := fn.ntmps, code := ccode P fn.ntmps pol false c, res := rs } := by
  simp only [cfunc, Option.bind_eq_some_iff] at hc
  obtain ⟨c, hb, hc⟩ := hc
  cases hname : fn.name == "runtime.NumGoroutine"
  · simp only [hname, cond_false, Option.map_eq_some_iff] at hc
    obtain ⟨rs, hrs, rfl⟩ := hc
    exact ⟨c, rs, hb, rfl, hrs, rfl⟩
  · simp [hname] at hc

theorem enters_of {f : Nat} {fn : Func} {c : Code} (hf : P.funcs[f]? = some fn) (hb : fn.body = some c) (hname : (fn.name == "runtime.NumGoroutine") = false) : Enters P f := fun args w => by
  simp only [callFunc, Sem.run_bind, run_program, Result.andThen, hf, hname, hb, Bool.false_eq_true, if_false, Option.isNone_some]
  rfl

/-- A deferred call of a function of the table. -/
theorem adef_sound {f n : Nat} {fn : Func} {mf : MFunc} {pol : Nat → Nat → Bool} {Y : Yenv} (hG : GSound P Γ) (hf : P.funcs[f]? = some fn) (hc : cfunc P pol fn = some mf) {args : List AV} {st st' : St} {m m' : DM} {E : Env} {w : World} {vs : Array Value} {u : FrameMode}
    (hY : YSound P Y E w) (ha : RvL E w args vs.toList) (hs : Sat E st w) (hm : DMR E w m u) (hr : adefF Γ Y n mf args st m = some (m', st')) :
    CallsDIn (FR0 none) 0 P f vs u w fun e u' w' => ∃ v E', e = .returned v ∧ Ext E w E' w' ∧ Sat E' st' w' ∧ DMR E' w' m' (settle u') := by
  obtain ⟨c, rs, hb, hname, hrs, rfl⟩ := cfunc_parts hc
  unfold adefF at hr
  simp only at hr
  cases hle : args.length.ble fn.ntmps
  · simp [hle] at hr
  · simp only [hle, cond_true] at hr
    have hle := Nat.le_of_ble_eq_true hle
    have hstart : RvA P E w fn.ntmps 0 (frOf 0 args Fr.nil) { tmps := vs ++ Array.replicate (fn.ntmps - vs.size) undef, defers := [] } := start_act ha hle (Nat.zero_le _)
    have fin : ∀ (fr1 : Fr) (st1 : St) (m1 : DM) (a' : Act) (w' : World) (E' : Env) (u1 : FrameMode), endD { N := fn.ntmps, code := ccode P fn.ntmps pol false c, res := rs } fr1 st1 m1 = some (m', st') → Ext E w E' w' → Sat E' st1 w' → RvA P E' w' fn.ntmps 0 fr1 a' → DMR E' w' m1 u1 →
        a'.defers = [] ∧ ∃ v, (results fn a'.tmps).run P w' = .ok v w' ∧ ∃ v' E', Ending.returned v = .returned v' ∧ Ext E w E' w' ∧ Sat E' st' w' ∧ DMR E' w' m' (settle u1) := fun fr1 st1 m1 a' w' E' u1 he hx hs' hf' hm' => by
      unfold endD at he
      cases hds : fr1.ds with
      | cons _ _ => simp [hds] at he
      | nil =>
        cases hl : ressA fr1 st1 rs with
        | none => simp [hds, hl] at he
        | some l =>
          simp only [hds, hl, Option.some.injEq, Prod.mk.injEq] at he
          obtain ⟨rfl, rfl⟩ := he
          obtain ⟨vs', h1, _⟩ := ressA_sound hf'.f.part hs' _ _ l hrs hl
          have hd := hf'.d
          rw [hds] at hd
          exact ⟨hd, _, results_run h1, _, E', rfl, hx, hs', hm'.settle⟩
    refine callsDIn_of_wpSIn hf hb trivial fun c₀ cs hu => ?_
    have hc0 : ({ c₀ with mode := u } : Frame) = c₀ := by subst hu; rfl
    rw [← hc0]
    cases hcs : acodeS Γ Y n (ccode P fn.ntmps pol false c) (frOf 0 args Fr.nil) st m with
    | mk r m1 =>
      rw [hcs] at hr
      cases r with
      | norm fr1 st1 =>
        refine wpSIn_mono (acodeS_sound hG c E w _ _ st m m1 u _ hY hcs rfl hstart hs hm) fun e a' cs' w' ⟨u1, h1, he, E', h2, h3, h4, h5⟩ => ?_
        subst he
        obtain ⟨q1, v, q2, q3⟩ := fin fr1 st1 m1 a' w' E' u1 hr h2 h3 h4 h5
        exact ⟨q1, u1, h1, v, q2, q3⟩
      | ret fr1 st1 =>
        refine wpSIn_mono (acodeS_sound hG c E w _ _ st m m1 u _ hY hcs rfl hstart hs hm) fun e a' cs' w' ⟨u1, h1, he, E', h2, h3, h4, h5⟩ => ?_
        subst he
        obtain ⟨q1, v, q2, q3⟩ := fin fr1 st1 m1 a' w' E' u1 hr h2 h3 h4 h5
        exact ⟨q1, u1, h1, v, q2, q3⟩
      | _ => simp at hr

theorem RvD.shut {E E1 : Env} {w w1 : World} {B D : Nat} (hx : Ext0 E w E1 w1) (hD : ∀ b, b ≠ D → E.Dz b → E1.Dz b) : ∀ {ds : List DA} {l : List Deferred} {U : Nat}, U ≤ D → RvD P E w B U ds l → RvD P E1 w1 B U ds l
  | [], _, _, _, h => h
  | .call n args :: ds, _, _, hU, ⟨d, l', vs, h1, h2, h3, h4, h5⟩ => ⟨d, l', vs, h1, h2, h3, RvL.mono0 hx _ _ h4, RvD.shut hx hD hU h5⟩
  | .coll :: ds, _, _, hU, ⟨d, l', D', h1, h2, h3, h4, h5, h6⟩ => ⟨d, l', D', h1, h2, h3, h4, hD _ (by omega) h5, RvD.shut hx hD (by omega) h6⟩

/-- What is told of deferred calls is so. -/
def DFOk (P : Program) (DF : Nat → List AV → St → DM → Option (DM × St)) (E : Env) (w : World) : Prop := ∀ E' w', Ext E w E' w' → ∀ (f : Nat) (args : List AV) (st st' : St) (m m' : DM) (vs : Array Value) (u : FrameMode), RvL E' w' args vs.toList → Sat E' st w' → DMR E' w' m u → DF f args st m = some (m', st') →
  Enters P f ∧ CallsDIn (FR0 none) 0 P f vs u w' fun e u' w'' => ∃ v E'', e = .returned v ∧ Ext E' w' E'' w'' ∧ Sat E'' st' w'' ∧ DMR E'' w'' m' (settle u')

theorem aleaves_sound {DF : Nat → List AV → St → DM → Option (DM × St)} {fn : Func} {tmps : Array Value} {R : Ending → World → Prop} {Es : Env} {ws : World} {fr : Fr} {B : Nat} (hDF : DFOk P DF Es ws) (hEs : ∀ b, Es.Dz b → b < B) (st' : St) (m' : DM)
    (hend : ∀ E w u, Ext Es ws E w → Sat E st' w → DMR E w m' u → (∀ n v, fr.get n = some v → Rv E w v (tmps.getD n undef)) → LeavesInM (FR0 none) 0 P fn tmps R [] u w) :
    ∀ (ds : List DA) (l : List Deferred) (U : Nat) (E : Env) (w : World) (st : St) (m : DM) (u : FrameMode), aleaves DF ds st m = some (m', st') → Ext Es ws E w → Sat E st w → DMR E w m u → RvD P E w B U ds l →
      (∀ n v, fr.get n = some v → Rv E w v (tmps.getD n undef)) → LeavesInM (FR0 none) 0 P fn tmps R l u w
  | [], l, U, E, w, st, m, u, hr, hx, hs, hm, hd, hf => by
    simp only [aleaves, Option.some.injEq, Prod.mk.injEq] at hr
    obtain ⟨rfl, rfl⟩ := hr
    have hd : l = [] := hd
    subst hd
    exact hend E w u hx hs hm hf
  | .coll :: ds, l, U, E, w, st, m, u, hr, hx, hs, hm, hd, hf => by
    obtain ⟨d, l', D, rfl, h1, h2, h3, h4, h5⟩ := hd
    simp only [aleaves] at hr
    obtain ⟨hs1, hx1⟩ := hs.shutDz h4
    refine ⟨hm.run, .inl ⟨D, _, h1, run_takeDeferred (hs.dz D h4).1, ?_⟩⟩
    have hxs : Ext Es ws { E with Dz := fun b => b ≠ D ∧ E.Dz b } (w.putObj D (.deferred none)) := ⟨hx.toExt0.trans hx1, hx.Rs, fun b hb => ⟨by have := hEs b hb; omega, hx.Dz b hb⟩⟩
    have hm1 : DMR { E with Dz := fun b => b ≠ D ∧ E.Dz b } (w.putObj D (.deferred none)) m u := by
      cases m with
      | ret => exact hm
      | pan v => obtain ⟨x, h6, h7⟩ := hm; exact ⟨x, h6, Rv.mono0 hx1 _ _ h7⟩
      | recd => exact hm
    exact aleaves_sound hDF hEs st' m' hend ds l' D _ _ st m u hr hxs hs1 hm1 (RvD.shut hx1 (fun b hb h => ⟨hb, h⟩) (Nat.le_refl _) h5) fun n v hn => Rv.mono0 hx1 _ _ (hf n v hn)
  | .call f args :: ds, l, U, E, w, st, m, u, hr, hx, hs, hm, hd, hf => by
    obtain ⟨d, l', vs, rfl, ⟨fv, cap, h1⟩, h2, h3, h4⟩ := hd
    simp only [aleaves] at hr
    cases hdf : DF f args st m with
    | none => rw [hdf] at hr; cases hr
    | some q =>
      obtain ⟨m1, st1⟩ := q
      rw [hdf] at hr
      simp only at hr
      obtain ⟨hen, hcall⟩ := hDF E w hx f args st st1 m m1 vs u h3 hs hm hdf
      refine ⟨hm.run, .inr ⟨noDepth none, fv, cap, f, vs, h1, by rw [h2, hen], fun _ _ => trivial, ?_⟩⟩
      refine CallsDIn.mono hcall fun e u' w' ⟨v, E', he, hx', hs', hm'⟩ => ?_
      subst he
      exact aleaves_sound hDF hEs st' m' hend ds l' U E' w' st1 m1 (settle u') hr (hx.trans hx') hs' hm' (h4.mono hx' (Nat.le_refl _)) fun n v hn => Rv.mono hx' _ _ (hf n v hn)

theorem abody_sound {f n : Nat} {fn : Func} {mf : MFunc} {pol : Nat → Nat → Bool} {Y : Yenv} {DF : Nat → List AV → St → DM → Option (DM × St)} (hG : GSound P Γ) (hf : P.funcs[f]? = some fn) (hc : cfunc P pol fn = some mf) {args : List AV} {st : St} {E : Env} {w : World} {vs : Array Value}
    (hY : YSound P Y E w) (hDF : DFOk P DF E w) (ha : RvL E w args vs.toList) (hs : Sat E st w) :
    (∀ v st', abody Γ Y n DF mf args st = .ret v st' → Enters P f ∧ Calls P f vs w (RetR E w v st')) ∧ (∀ v st', abody Γ Y n DF mf args st = .pan v st' → Enters P f ∧ Calls P f vs w (PanR E w v st')) := by
  obtain ⟨c, rs, hb, hname, hrs, rfl⟩ := cfunc_parts hc
  have hen : Enters P f := enters_of hf hb hname
  have hEs : ∀ b, E.Dz b → b < w.heap.size := fun b h => (Array.getElem?_eq_some_iff.1 (hs.dz b h).1).1
  -- the end of a function
  have fin : ∀ (R : Ending → World → Prop) (fr : Fr) (st1 : St) (m : DM) (a' : Act) (w' : World) (E' : Env) (u : FrameMode) (q : FR), endF DF { N := fn.ntmps, code := ccode P fn.ntmps pol false c, res := rs } fr st1 m = q →
      (∀ v st', q = .ret v st' → ∀ e w', RetR E w v st' e w' → R e w') → (∀ v st', q = .pan v st' → ∀ e w', PanR E w v st' e w' → R e w') → q ≠ .stuck →
      Ext E w E' w' → Sat E' st1 w' → RvP P E' w' w.heap.size fr a' → DMR E' w' m u → LeavesInM (FR0 none) 0 P fn a'.tmps R a'.defers u w' := fun R fr st1 m a' w' E' u q hq h1 h2 h3 hx hs' hp hm => by
    unfold endF at hq
    cases hl : aleaves DF fr.ds st1 m with
    | none => rw [hl] at hq; exact absurd hq.symm h3
    | some p =>
      obtain ⟨m', st'⟩ := p
      rw [hl] at hq
      simp only at hq
      refine aleaves_sound (fr := fr) hDF hEs st' m' (fun E2 w2 u2 g1 g2 g3 g4 => ?_) fr.ds a'.defers w'.heap.size E' w' st1 m u hl hx hs' hm hp.d hp.f
      cases m' with
      | recd => exact absurd hq.symm h3
      | ret =>
        simp only at hq
        have hu : u2 = .returning := g3
        subst hu
        cases q with
        | stuck => exact absurd rfl h3
        | pan v st3 => unfold resultA at hq; split at hq <;> cases hq
        | ret v st3 =>
          obtain ⟨x, k1, k2, rfl⟩ := resultA_sound (a := { tmps := a'.tmps, defers := [] }) g4 g2 hrs hq
          exact ⟨x, k1, h1 v _ rfl _ _ ⟨x, E2, rfl, g1, g2, k2⟩⟩
      | pan v =>
        simp only at hq
        obtain ⟨x, hu, hx2⟩ := g3
        subst hu
        exact h2 v st' hq.symm _ _ ⟨x, E2, rfl, g1, g2, hx2⟩
  have main : ∀ (q : FR) (R : Ending → World → Prop), abody Γ Y n DF { N := fn.ntmps, code := ccode P fn.ntmps pol false c, res := rs } args st = q → q ≠ .stuck →
      (∀ v st', q = .ret v st' → ∀ e w', RetR E w v st' e w' → R e w') → (∀ v st', q = .pan v st' → ∀ e w', PanR E w v st' e w' → R e w') → Calls P f vs w R := fun q R hq h3 h1 h2 => by
    unfold abody at hq
    simp only at hq
    cases hle : args.length.ble fn.ntmps
    · rw [hle] at hq; exact absurd hq.symm h3
    · rw [hle] at hq
      simp only [cond_true] at hq
      have hle := Nat.le_of_ble_eq_true hle
      have hstart : RvA P E w fn.ntmps w.heap.size (frOf 0 args Fr.nil) { tmps := vs ++ Array.replicate (fn.ntmps - vs.size) undef, defers := [] } := start_act ha hle (Nat.le_refl _)
      refine (callsIn_wide (n := 0)).1 (callsIn_of_wp_marks (F := Fence.wide) hf hb trivial ?_)
      cases hcr : acode Γ Y n (ccode P fn.ntmps pol false c) none (frOf 0 args Fr.nil) st with
      | stuck => rw [hcr] at hq; exact absurd hq.symm h3
      | exit _ _ _ => rw [hcr] at hq; exact absurd hq.symm h3
      | norm fr1 st1 =>
        rw [hcr] at hq
        refine wpIn_mono (acode_sound hG c false none none (fun _ => rfl) w.heap.size E w _ _ st _ hY trivial hcr (by simp) hstart hs) fun e a' w' ⟨he, E', k1, k2, k3⟩ => ?_
        subst he
        exact fin R fr1 st1 .ret a' w' E' .returning q hq h1 h2 h3 k1 k2 k3.toP rfl
      | ret fr1 st1 =>
        rw [hcr] at hq
        refine wpIn_mono (acode_sound hG c false none none (fun _ => rfl) w.heap.size E w _ _ st _ hY trivial hcr (by simp) hstart hs) fun e a' w' ⟨he, E', k1, k2, k3⟩ => ?_
        subst he
        exact fin R fr1 st1 .ret a' w' E' .returning q hq h1 h2 h3 k1 k2 k3.toP rfl
      | pan fr1 v st1 =>
        rw [hcr] at hq
        refine wpIn_mono (acode_sound hG c false none none (fun _ => rfl) w.heap.size E w _ _ st _ hY trivial hcr (by simp) hstart hs) fun e a' w' h => ?_
        obtain ⟨x, E', he, k1, k2, k4, k3⟩ := h
        subst he
        exact fin R fr1 st1 (.pan v) a' w' E' _ q hq h1 h2 h3 k1 k2 k3 ⟨x, rfl, k4⟩
  exact ⟨fun v st' hr => ⟨hen, main _ _ hr (by simp) (fun v' st'' h e w' hR => by cases h; exact hR) (fun _ _ h => by cases h)⟩,
    fun v st' hr => ⟨hen, main _ _ hr (by simp) (fun _ _ h => by cases h) (fun v' st'' h e w' hR => by cases h; exact hR)⟩⟩

theorem entT_enters {tbl : Nat → Option MFunc} (ht : TblOk P tbl) {f : Nat} (h : entT tbl f = true) : Enters P f := by
  unfold entT at h
  split at h
  · rename_i mf hmf
    obtain ⟨fn, pol, h1, h2⟩ := ht f mf hmf
    obtain ⟨c, rs, hb, hname, _⟩ := cfunc_parts h2
    exact enters_of h1 hb hname
  · cases h

theorem defT_ok {tbl : Nat → Option MFunc} (ht : TblOk P tbl) (hG : GSound P Γ) {Y : Yenv} {n : Nat} {E : Env} {w : World} (hY : YSound P Y E w) : DFOk P (defT tbl Γ Y n) E w := by
  intro E' w' hx f args st st' m m' vs u ha hs hm hr
  unfold defT at hr
  split at hr
  · rename_i mf hmf
    obtain ⟨fn, pol, h1, h2⟩ := ht f mf hmf
    obtain ⟨c, rs, hb, hname, _⟩ := cfunc_parts h2
    exact ⟨enters_of h1 hb hname, adef_sound hG h1 h2 (hY.mono hx) ha hs hm hr⟩
  · cases hr

/-- What the abstract machine says of calls is so. -/
theorem gamT_sound {tbl : Nat → Option MFunc} {hand : Gam → Nat → Yenv → Nat → List AV → St → FR} (ht : TblOk P tbl) (hh : HandOk P hand) : ∀ n, GSound P (gamT tbl hand n)
  | 0 => ⟨fun Y E w _ f args st vs _ _ => ⟨fun v st' h => by simp [gamT, arunC] at h, fun v st' h => by simp [gamT, arunC] at h⟩, fun f h => entT_enters ht h⟩
  | n + 1 => by
    have ih := gamT_sound ht hh n
    refine ⟨fun Y E w hY f args st vs ha hs => ?_, fun f h => entT_enters ht h⟩
    cases htf : tbl f with
    | none =>
      have := hh _ n ih Y E w hY f args st vs ha hs
      simp only [gamT, arunC, htf]
      exact this
    | some mf =>
      simp only [gamT, arunC, htf]
      obtain ⟨fn, pol, h1, h2⟩ := ht f mf htf
      obtain ⟨h3, h4⟩ := abody_sound (n := n) ih h1 h2 hY (defT_ok ht ih hY) ha hs
      exact ⟨fun v st' h => .inl (h3 v st' h), fun v st' h => .inl (h4 v st' h)⟩

theorem Y0_sound (E : Env) (w : World) : YSound P Y0 E w := fun _ _ _ _ _ _ _ _ _ _ _ _ _ h => by cases h

/-- The same for a function of the table, outside of all loops over iterators: a call of its code. -/
theorem arunF_calls {tbl : Nat → Option MFunc} {hand : Gam → Nat → Yenv → Nat → List AV → St → FR} (ht : TblOk P tbl) (hh : HandOk P hand) {n f : Nat} {mf : MFunc} (hf : tbl f = some mf) {args : List AV} {st st' : St} {v : AV} {E : Env} {w : World} {vs : Array Value}
    (ha : RvL E w args vs.toList) (hs : Sat E st w) (hr : arunF tbl hand n f args st = .ret v st') : Calls P f vs w (RetR E w v st') := by
  cases n with
  | zero => simp [arunF, arunC] at hr
  | succ n =>
    simp only [arunF, arunC, hf] at hr
    obtain ⟨fn, pol, h1, h2⟩ := ht f mf hf
    have ih := gamT_sound ht hh n
    exact ((abody_sound (n := n) ih h1 h2 (Y0_sound E w) (defT_ok ht ih (Y0_sound E w)) ha hs).1 v st' hr).2

end
end Go.AM
