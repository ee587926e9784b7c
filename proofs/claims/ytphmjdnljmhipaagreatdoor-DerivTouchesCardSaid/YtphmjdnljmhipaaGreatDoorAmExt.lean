import Derived.Test.YtphmjdnljmhipaaGreatDoorAmFunc
namespace Go.AM
def extSem (k : Nat) : Array Value → Sem Value :=
  match k with
  | 0 => Extern.BytealgIndexByte.indexByte
  | 1 => Extern.BytealgCount.count
  | _ => Extern.AbiNoEscape.same
def ExtOk (P : Program) (exts : Nat → Option Nat) : Prop := ∀ f k, exts f = some k → k < 3 ∧ ∃ fn, P.funcs[f]? = some fn ∧ (fn.name == "runtime.NumGoroutine") = false ∧ fn.body = none ∧ Extern.findNext fn = none ∧ Extern.find fn = some (extSem k)
section
variable {E : Env} {st : St} {w : World} {P : Program}
theorem beq_u8 (a : UInt8) (c : Nat) (hc : c < 256) : (a == (UInt8.ofNat c)) = a.toNat.beq c := by
  by_cases h : a.toNat = c
  · have : a = UInt8.ofNat c := by rw [← h]; simp
    rw [this]
    simp [Nat.mod_eq_of_lt hc]
  · have h1 : ¬ a = UInt8.ofNat c := fun e => h (by rw [e]; simp [Nat.mod_eq_of_lt hc])
    have h2 : a.toNat.beq c = false := by
      cases hb : a.toNat.beq c
      · rfl
      · exact absurd (Nat.eq_of_beq_eq_true hb) h
    rw [h2]; simpa using h1
theorem bytes_loop {β : Type} (f : β → UInt8 → β) (b : ByteArray) (stop : Nat) (h : stop ≤ b.size) (h' : stop ≤ b.data.size) : ∀ (i j : Nat) (n : β),
    (ByteArray.foldlM.loop (m := _root_.Id) (fun x y => pure (f x y)) b stop h i j n).run = (Array.foldlM.loop (m := _root_.Id) (fun x y => pure (f x y)) b.data stop h' i j n).run
  | 0, j, n => by
    unfold ByteArray.foldlM.loop Array.foldlM.loop
    split <;> rfl
  | i + 1, j, n => by
    unfold ByteArray.foldlM.loop Array.foldlM.loop
    split
    · exact bytes_loop f b stop h h' i (j + 1) _
    · rfl
theorem bytes_foldl {β : Type} (f : β → UInt8 → β) (n : β) (b : ByteArray) : b.foldl f n = b.data.toList.foldl f n := by
  rw [Array.foldl_toList]
  unfold ByteArray.foldl ByteArray.foldlM Array.foldl Array.foldlM
  have h1 : b.size ≤ b.size := Nat.le_refl _
  have h2 : b.data.size ≤ b.data.size := Nat.le_refl _
  simp only [dif_pos h1, dif_pos h2]
  exact bytes_loop f b b.size h1 h2 _ _ _
theorem cntA_eq (c : Nat) (hc : c < 256) : ∀ (l : List UInt8) (n : Nat), ((cntA (l.map (·.toNat)) c n : Nat) : Int) = l.foldl (fun (n : Int) x => if x == UInt8.ofNat c then n + 1 else n) (n : Int)
  | [], n => rfl
  | a :: l, n => by
    simp only [List.map_cons, cntA, List.foldl_cons]
    rw [cntA_eq c hc l, beq_u8 a c hc]
    cases a.toNat.beq c <;> simp
theorem call_ext {exts : Nat → Option Nat} (he : ExtOk P exts) {f k : Nat} (hk : exts f = some k) {vs : Array Value} {v : Value} (hv : (extSem k vs).run P w = .ok v w) : (callFunc f vs).run P w = .ok (.value v) w := by
  obtain ⟨_, fn, h1, h2, h3, h4, h5⟩ := he f k hk
  simp only [callFunc, Sem.run_bind, run_program, Result.andThen, h1, h2, h3, h4, h5, Bool.false_eq_true, if_false, Option.isNone_none, if_true, run_mark, hv, Sem.run_pure]
theorem idxA_eq (b : ByteArray) (c : Nat) (hc : c < 256) : ∀ (l : List UInt8) (i : Nat), (∀ (j : Nat) (u : UInt8), l[j]? = some u → b[i + j]! = u) →
    idxA (l.map (·.toNat)) c i = match (List.range' i l.length).find? fun j => b[j]! == UInt8.ofNat c with | some j => .int .i64 (.ofNat j) | none => .int .i64 (.negSucc 0)
  | [], i, _ => rfl
  | a :: l, i, h => by
    have h0 : b[i]! = a := h 0 a rfl
    simp only [List.map_cons, idxA, List.length_cons, List.range'_succ, List.find?_cons, h0, beq_u8 a c hc]
    cases a.toNat.beq c
    · simp only [cond_false]
      exact idxA_eq b c hc l (i + 1) fun j u hj => by
        have := h (j + 1) u (by simpa using hj)
        rwa [show i + (j + 1) = i + 1 + j by omega] at this
    · rfl
theorem extA_sound {k : Nat} {args : List AV} {v : AV} {vs : Array Value} (ha : RvL E w args vs.toList) (hr : extA k args = some v) : ∃ u, (extSem k vs).run P w = .ok u w ∧ Rv E w v u := by
  unfold extA at hr
  split at hr <;> try (simp only [reduceCtorEq] at hr; done)
  · rename_i l c
    obtain ⟨x, xs, e1, ⟨b, rfl, hb⟩, y, ys, rfl, h2, h3⟩ := ha
    cases h3
    have h2 : y = .int .u8 (c : Int) := h2
    subst h2
    obtain rfl : vs = #[.string b, .int .u8 (c : Int)] := by cases vs; simp_all
    cases hc : (c + 1).ble 256
    · simp [hc] at hr
    · simp only [hc, cond_true, Option.some.injEq] at hr; subst hr
      have hc := Nat.le_of_ble_eq_true hc
      have hl : b.data.toList.length = b.size := by simp
      have hidx := idxA_eq b c (by omega) b.data.toList 0 fun j u hj => by
        have hlt : j < b.size := by rw [← hl]; exact (List.getElem?_eq_some_iff.1 hj).1
        have h5 : b[j]? = some u := by
          rw [ByteArray.getElem?_lt' b j hlt]
          have : b.data[j]? = some u := by simpa using hj
          rw [Array.getElem?_eq_getElem (by simpa using hlt)] at this
          injection this with this
          exact congrArg some this
        rw [Nat.zero_add, getElem!_def, h5]
      rw [hl, ← List.range_eq_range', hb] at hidx
      rw [hidx]
      have hcc : (c : Int).toNat.toUInt8 = UInt8.ofNat c := by simp [Nat.toUInt8]
      have hdef : extSem 0 #[.string b, .int .u8 (c : Int)] = (match (List.range b.size).find? fun i => b[i]! == (c : Int).toNat.toUInt8 with
        | some i => pure (goInt i)
        | none => pure (goInt (-1)) : Sem Value) := rfl
      rw [hdef, hcc]
      cases hq : (List.range b.size).find? fun i => b[i]! == UInt8.ofNat c with
      | none => exact ⟨_, rfl, rfl⟩
      | some j => exact ⟨_, rfl, rfl⟩
  · rename_i l c
    obtain ⟨x, xs, e1, ⟨b, rfl, hb⟩, y, ys, rfl, h2, h3⟩ := ha
    cases h3
    have h2 : y = .int .u8 (c : Int) := h2
    subst h2
    obtain rfl : vs = #[.string b, .int .u8 (c : Int)] := by cases vs; simp_all
    cases hc : (c + 1).ble 256
    · simp [hc] at hr
    · simp only [hc, cond_true, Option.some.injEq] at hr; subst hr
      have hc := Nat.le_of_ble_eq_true hc
      have hcc : (c : Int).toNat.toUInt8 = UInt8.ofNat c := by simp [Nat.toUInt8]
      have hfold : b.foldl (fun (n : Int) x => if x == UInt8.ofNat c then n + 1 else n) ((0 : Nat) : Int) = ((cntA l c 0 : Nat) : Int) := by
        rw [← hb, cntA_eq c (by omega)]
        exact bytes_foldl _ _ _
      refine ⟨goInt (cntA l c 0 : Nat), ?_, rfl⟩
      have hdef : extSem 1 #[.string b, .int .u8 (c : Int)] = (pure (goInt (b.foldl (fun n x => if x == (c : Int).toNat.toUInt8 then n + 1 else n) (0 : Nat))) : Sem Value) := rfl
      rw [hdef, hcc, hfold]; rfl
  · rename_i x
    obtain ⟨y, ys, e1, h1, h2⟩ := ha
    cases h2
    obtain rfl : vs = #[y] := by cases vs; simp_all
    simp only [Option.some.injEq] at hr; subst hr
    exact ⟨y, rfl, h1⟩
theorem extR_sound {exts : Nat → Option Nat} (he : ExtOk P exts) {f k : Nat} (hk : exts f = some k) {args : List AV} {vs : Array Value} (ha : RvL E w args vs.toList) (hs : Sat E st w) :
    (∀ v st', extR k args st = .ret v st' → CallOk P f vs w fun e w' => ∃ u E', e = .returned u ∧ Ext E w E' w' ∧ Sat E' st' w' ∧ Rv E' w' v u) ∧
    (∀ v st', extR k args st = .pan v st' → CallOk P f vs w fun e w' => ∃ u E', e = .panicked [{ v := u, recovered := false }] ∧ Ext E w E' w' ∧ Sat E' st' w' ∧ Rv E' w' v u) := by
  refine ⟨fun v st' h => ?_, fun v st' h => ?_⟩
  · unfold extR at h
    split at h
    · rename_i v' hv
      injection h with e1 e2; subst e1; subst e2
      obtain ⟨u, h1, h2⟩ := extA_sound (P := P) ha hv
      exact .inr ⟨u, w, call_ext he hk h1, u, E, rfl, Ext.refl _ _, hs, h2⟩
    · cases h
  · unfold extR at h
    split at h <;> cases h
theorem handX_ok {exts : Nat → Option Nat} (he : ExtOk P exts) : HandOk P (handX exts) := by
  intro Γ n _ Y E w _ f args st vs ha hs
  unfold handX
  cases hk : exts f with
  | none => exact ⟨fun v st' h => (by cases h), fun v st' h => (by cases h)⟩
  | some k => exact extR_sound he hk ha hs
end
end Go.AM
