import Derived.Test.YtphmjdnljmhipaaGreatDoorAmOp4
/- The abstract machine, part 7: single operations, on: slices and what grows. No program in sight. -/
namespace Go.AM

section
variable {E : Env} {st : St} {w : World} {P : Program}

theorem bndA_sound {x : AV} {v : Value} {n : Nat} (hx : Rv E w x v) (h : bndA x = some n) : ∃ k, v = .int k (n : Int) := by
  unfold bndA at h
  split at h <;> simp only [Option.some.injEq, reduceCtorEq] at h
  subst h
  exact ⟨_, hx⟩

/-- Optional values, one by one. -/
def RvO (E : Env) (w : World) : Option AV → Option Value → Prop
  | none, v => v = none
  | some x, v => ∃ u, v = some u ∧ Rv E w x u

theorem bndO_sound {x : Option AV} {v : Option Value} {n : Option Nat} (hx : RvO E w x v) (h : bndO x = some n) :
    (n = none ∧ v = none) ∨ (∃ k m, n = some m ∧ v = some (.int k ((m : Nat) : Int))) := by
  cases x with
  | none => simp only [bndO, Option.some.injEq] at h; exact .inl ⟨h.symm, hx⟩
  | some x =>
    obtain ⟨u, rfl, hu⟩ := hx
    simp only [bndO] at h
    cases hb : bndA x with
    | none => simp [hb] at h
    | some m =>
      simp only [hb, Option.map_some, Option.some.injEq] at h
      obtain ⟨k, rfl⟩ := bndA_sound hu hb
      exact .inr ⟨k, m, h.symm, rfl⟩

theorem run_bounds {isS : Bool} {len cap l h m : Nat} {lo hi mx : Option Value} {nl nh nm : Option Nat}
    (hl : (nl = none ∧ lo = none) ∨ (∃ k m, nl = some m ∧ lo = some (.int k ((m : Nat) : Int)))) (hh : (nh = none ∧ hi = none) ∨ (∃ k m, nh = some m ∧ hi = some (.int k ((m : Nat) : Int))))
    (hm : (nm = none ∧ mx = none) ∨ (∃ k m, nm = some m ∧ mx = some (.int k ((m : Nat) : Int)))) (el : nl.getD 0 = l) (eh : nh.getD len = h) (em : nm.getD cap = m)
    (h1 : l ≤ h) (h2 : h ≤ m) (h3 : m ≤ cap) (h4 : nm.isSome = true → nh.isSome = true) :
    (Instr.sliceBounds isS len cap lo hi mx).run P w = .ok (l, h, m) w := by
  have sb : ∀ (k : IntKind) (a y : Nat) (c : BoundsCode), a ≤ y → (Instr.sliceBound (.int k (a : Int)) y c).run P w = .ok a w := fun k a y c hle => by
    have := run_sliceBound (P := P) w k (a : Int) y c (by omega) (by omega)
    simpa using this
  rcases hm with ⟨rfl, rfl⟩ | ⟨km, m', rfl, rfl⟩
  · rcases hh with ⟨rfl, rfl⟩ | ⟨kh, h', rfl, rfl⟩ <;> rcases hl with ⟨rfl, rfl⟩ | ⟨kl, l', rfl, rfl⟩ <;> simp only [Option.getD_none, Option.getD_some] at el eh em <;> subst el <;> subst eh <;> subst em <;>
      simp [Instr.sliceBounds, sb, h1, h2]
  · rcases hh with ⟨rfl, rfl⟩ | ⟨kh, h', rfl, rfl⟩
    · simp at h4
    · rcases hl with ⟨rfl, rfl⟩ | ⟨kl, l', rfl, rfl⟩ <;> simp only [Option.getD_none, Option.getD_some] at el eh em <;> subst el <;> subst eh <;> subst em <;>
      simp [Instr.sliceBounds, sb, h1, h2, h3]

theorem sliceA_sound {t e : TypeId} {i : TypeInfo} {x r : AV} {v : Value} {lo hi mx : Option AV} {vl vh vm : Option Value} (ht : P.underlying t = some (.slice e)) (hi' : P.info? e = some i)
    (hx : Rv E w x v) (hl : RvO E w lo vl) (hh : RvO E w hi vh) (hm : RvO E w mx vm) (hr : sliceA i.size x lo hi mx = some r) :
    ∃ u, (Instr.sliceAt t v vl vh vm).run P w = .ok u w ∧ Rv E w r u := by
  unfold sliceA at hr
  cases hbl : bndO lo with
  | none => simp [hbl] at hr
  | some nl =>
  cases hbh : bndO hi with
  | none => simp [hbl, hbh] at hr
  | some nh =>
  cases hbm : bndO mx with
  | none => simp [hbl, hbh, hbm] at hr
  | some nm =>
  simp only [hbl, hbh, hbm, Option.bind_some] at hr
  have kl := bndO_sound hl hbl
  have kh := bndO_sound hh hbh
  have km := bndO_sound hm hbm
  have hat : ∀ v, (Instr.sliceAt t v vl vh vm).run P w = (Instr.slice t v vl vh vm).run P w := fun v => by simp [Instr.sliceAt, underlying, ht]
  have hsl : ∀ (a : Option Addr) (len cap l h m : Nat), (Instr.sliceBounds true len cap vl vh vm).run P w = .ok (l, h, m) w →
      (Instr.slice t (.slice a len cap) vl vh vm).run P w = .ok (.slice (if m = l then a else a.map (·.add (l * i.size))) (h - l) (m - l)) w := fun a len cap l h m hb => by
    simp [Instr.slice, underlying, ht, hb, run_sizeOf' hi']
  cases x <;> simp only [sliceN, reduceCtorEq] at hr
  · -- nil
    have hx : v = .slice none 0 0 := hx
    subst hx
    cases hc : ((nl.getD 0).beq 0 && (nh.getD 0).beq 0 && (nm.getD 0).beq 0 && (nm.isNone || nh.isSome))
    · simp [hc] at hr
    · simp only [hc, cond_true, Option.some.injEq] at hr; subst hr
      simp only [Bool.and_eq_true] at hc
      have c1 := Nat.eq_of_beq_eq_true hc.1.1.1
      have c2 := Nat.eq_of_beq_eq_true hc.1.1.2
      have c3 := Nat.eq_of_beq_eq_true hc.1.2
      have h4 : nm.isSome = true → nh.isSome = true := fun hs => by
        have := hc.2
        cases nm with
        | none => simp at hs
        | some m => simpa using this
      have hb := run_bounds (P := P) (w := w) (isS := true) (len := 0) (cap := 0) kl kh km c1 c2 c3 (Nat.le_refl 0) (Nat.le_refl 0) (Nat.le_refl 0) h4
      exact ⟨.slice none 0 0, by rw [hat, hsl none 0 0 0 0 0 hb]; simp, rfl⟩
  · -- a slice in line
    rename_i n cs ex
    obtain ⟨a, cap, rfl, h1, h2, h3, h4⟩ := hx
    have fin : ∀ (l h m : Nat) (ex' : Bool), nl.getD 0 = l → nh.getD n = h → nm.getD cap = m → l ≤ h → h ≤ m → m ≤ cap → (nm.isSome = true → nh.isSome = true) → (ex' = true → m = h) →
        ∃ u, (Instr.sliceAt t (.slice (some a) n cap) vl vh vm).run P w = .ok u w ∧ Rv E w (.lst (h - l) ((cs.drop (l * i.size)).take ((h - l) * i.size)) ex') u := fun l h m ex' el eh em k1 k2 k3 k4 k5 => by
      have hb := run_bounds (P := P) (w := w) (isS := true) kl kh km el eh em k1 k2 k3 k4
      rw [hat, hsl _ _ _ _ _ _ hb]
      by_cases hml : m = l
      · have hlh : h = l := by omega
        exact ⟨_, rfl, a, m - l, by simp [hml], by omega, fun _ => by omega, by simp [hlh], by simp [hlh, RvMem]⟩
      · refine ⟨_, rfl, a.add (l * i.size), m - l, by simp [hml], by omega, fun he => by have := k5 he; omega, fun hne => ?_, (h4.at _).take _⟩
        rw [add_block]
        exact h3 (by rintro rfl; simp at hne)
    cases nm with
    | none =>
      simp only at hr
      cases hc : ((nl.getD 0).ble (nh.getD n) && (nh.getD n).ble n && (nh.getD n * i.size).ble cs.length)
      · simp [hc] at hr
      · simp only [hc, cond_true, Option.some.injEq] at hr; subst hr
        simp only [Bool.and_eq_true] at hc
        have c1 := Nat.le_of_ble_eq_true hc.1.1
        have c2 := Nat.le_of_ble_eq_true hc.1.2
        exact fin _ _ cap _ rfl rfl rfl c1 (by omega) (Nat.le_refl _) (by simp) fun he => by
          simp only [Bool.and_eq_true] at he
          have := Nat.eq_of_beq_eq_true he.2
          have := h2 he.1
          omega
    | some m =>
      simp only at hr
      cases hc : ((nl.getD 0).ble (nh.getD n) && (nh.getD n).ble m && m.ble n && (nh.getD n * i.size).ble cs.length && nh.isSome)
      · simp [hc] at hr
      · simp only [hc, cond_true, Option.some.injEq] at hr; subst hr
        simp only [Bool.and_eq_true] at hc
        have c1 := Nat.le_of_ble_eq_true hc.1.1.1.1
        have c2 := Nat.le_of_ble_eq_true hc.1.1.1.2
        have c3 := Nat.le_of_ble_eq_true hc.1.1.2
        exact fin _ _ m _ rfl rfl rfl c1 c2 (by omega) (fun _ => hc.2) fun he => (Nat.eq_of_beq_eq_true he).symm
  · -- a slice of an object
    rename_i id off n s cap lw
    obtain ⟨b, c, e', mm, h0, rfl, h1, h2, h3, h4, h5⟩ := hx
    cases hc0 : (s.beq i.size && (nl.getD 0).ble (nh.getD n) && (nh.getD n).ble n)
    · simp [hc0] at hr
    · simp only [hc0, cond_true] at hr
      simp only [Bool.and_eq_true] at hc0
      have es := Nat.eq_of_beq_eq_true hc0.1.1
      have c1 := Nat.le_of_ble_eq_true hc0.1.2
      have c2 := Nat.le_of_ble_eq_true hc0.2
      subst es
      have fin : ∀ (m : Nat) (cap' : Option Nat) (lw' : Nat), lw' ≤ m - nl.getD 0 → nm.getD c = m → nh.getD n ≤ m → m ≤ c → (nm.isSome = true → nh.isSome = true) → (nl.getD 0 = 0 ∨ nl.getD 0 < m) → (∀ k, cap' = some k → m - nl.getD 0 = k) →
          ∃ u, (Instr.sliceAt t (.slice (some ⟨b, off, none⟩) n c) vl vh vm).run P w = .ok u w ∧ Rv E w (.own id (off + nl.getD 0 * i.size) (nh.getD n - nl.getD 0) i.size cap' lw') u := fun m cap' lw' k0 em k2 k3 k4 k5 k6 => by
        have hb := run_bounds (P := P) (w := w) (isS := true) kl kh km rfl rfl em c1 k2 k3 k4
        rw [hat, hsl _ _ _ _ _ _ hb]
        have hmul : off + nl.getD 0 * i.size + (m - nl.getD 0) * i.size ≤ mm := by
          have : nl.getD 0 * i.size + (m - nl.getD 0) * i.size = m * i.size := by rw [← Nat.add_mul]; congr 1; omega
          have : m * i.size ≤ c * i.size := Nat.mul_le_mul_right _ k3
          omega
        refine ⟨_, rfl, b, m - nl.getD 0, e', mm, h0, ?_, by omega, k6, h3, hmul, k0⟩
        by_cases hml : m = nl.getD 0
        · have : nl.getD 0 = 0 := by omega
          simp [hml, this]
        · simp [hml, add_at]
      have emp : ∀ (ex : Bool), nm = none → nh.getD n = nl.getD 0 → (ex = true → c = nl.getD 0) → r = .lst 0 [] ex →
          ∃ u, (Instr.sliceAt t (.slice (some ⟨b, off, none⟩) n c) vl vh vm).run P w = .ok u w ∧ Rv E w r u := fun ex em k1 k2 k3 => by
        subst em; subst k3
        have hb := run_bounds (P := P) (w := w) (isS := true) (m := c) kl kh km rfl rfl rfl c1 (by omega) (Nat.le_refl _) (by simp)
        rw [hat, hsl _ _ _ _ _ _ hb]
        by_cases hml : c = nl.getD 0
        · exact ⟨_, rfl, ⟨b, off, none⟩, c - nl.getD 0, by rw [if_pos hml, k1, Nat.sub_self], by omega, fun _ => by omega, by simp, trivial⟩
        · exact ⟨_, rfl, (⟨b, off, none⟩ : Addr).add (nl.getD 0 * i.size), c - nl.getD 0, by rw [if_neg hml, k1, Nat.sub_self]; rfl, by omega, fun he => absurd (k2 he) hml, by simp, trivial⟩
      cases nm with
      | none =>
        cases cap with
        | none =>
          simp only at hr
          cases hc : ((nl.getD 0).beq 0 || (nl.getD 0 + 1).ble (nh.getD n))
          · simp only [hc, cond_false, Option.some.injEq] at hr
            have : nh.getD n = nl.getD 0 := by
              have := (Bool.or_eq_false_iff.1 hc).2
              have : ¬ (nl.getD 0 + 1 ≤ nh.getD n) := fun h => by rw [Nat.ble_eq_true_of_le h] at this; simp at this
              omega
            exact emp false rfl this (by simp) hr.symm
          · simp only [hc, cond_true, Option.some.injEq] at hr; subst hr
            refine fin c none _ (by omega) rfl (by omega) (Nat.le_refl _) (by simp) ?_ (by simp)
            rcases Bool.or_eq_true_iff.1 hc with hc | hc
            · exact .inl (Nat.eq_of_beq_eq_true hc)
            · have := Nat.le_of_ble_eq_true hc; right; omega
        | some c' =>
          have := h2 c' rfl
          subst this
          simp only at hr
          cases hc : ((nl.getD 0).beq 0 || (nl.getD 0 + 1).ble c)
          · simp only [hc, cond_false, Option.some.injEq] at hr
            have : ¬ (nl.getD 0 + 1 ≤ c) := fun h => by
              have h2 := (Bool.or_eq_false_iff.1 hc).2
              rw [Nat.ble_eq_true_of_le h] at h2; simp at h2
            exact emp true rfl (by omega) (fun _ => by omega) hr.symm
          · simp only [hc, cond_true, Option.some.injEq] at hr; subst hr
            refine fin c (some _) 0 (by omega) rfl (by omega) (Nat.le_refl _) (by simp) ?_ (by simp)
            rcases Bool.or_eq_true_iff.1 hc with hc | hc
            · exact .inl (Nat.eq_of_beq_eq_true hc)
            · have := Nat.le_of_ble_eq_true hc; right; omega
      | some m =>
        simp only at hr
        cases hc : ((nh.getD n).ble m && m.ble n && nh.isSome && ((nl.getD 0).beq 0 || (nl.getD 0 + 1).ble m))
        · simp [hc] at hr
        · simp only [hc, cond_true, Option.some.injEq] at hr; subst hr
          simp only [Bool.and_eq_true] at hc
          have d1 := Nat.le_of_ble_eq_true hc.1.1.1
          have d2 := Nat.le_of_ble_eq_true hc.1.1.2
          refine fin m (some _) 0 (by omega) rfl d1 (by omega) (fun _ => hc.1.2) ?_ (by simp)
          rcases Bool.or_eq_true_iff.1 hc.2 with hc | hc
          · exact .inl (Nat.eq_of_beq_eq_true hc)
          · have := Nat.le_of_ble_eq_true hc; right; omega

theorem sliceSA_sound {t : TypeId} {x r : AV} {v : Value} {lo hi : Option AV} {vl vh : Option Value} (ht : P.underlying t = some .string)
    (hx : Rv E w x v) (hl : RvO E w lo vl) (hh : RvO E w hi vh) (hr : sliceSA x lo hi = some r) :
    ∃ u, (Instr.sliceAt t v vl vh none).run P w = .ok u w ∧ Rv E w r u := by
  unfold sliceSA at hr
  cases hbl : bndO lo with
  | none => simp [hbl] at hr
  | some nl =>
  cases hbh : bndO hi with
  | none => simp [hbl, hbh] at hr
  | some nh =>
  simp only [hbl, hbh, Option.bind_some] at hr
  have kl := bndO_sound hl hbl
  have kh := bndO_sound hh hbh
  cases x <;> simp only [sliceSN, reduceCtorEq] at hr
  rename_i l
  obtain ⟨s, rfl, hs⟩ := hx
  have hlen : l.length = s.size := by rw [← hs]; simp
  cases hc : ((nl.getD 0).ble (nh.getD l.length) && (nh.getD l.length).ble l.length)
  · simp [hc] at hr
  · simp only [hc, cond_true, Option.some.injEq] at hr; subst hr
    simp only [Bool.and_eq_true] at hc
    have c1 := Nat.le_of_ble_eq_true hc.1
    have c2 := Nat.le_of_ble_eq_true hc.2
    rw [hlen] at c1 c2
    have hb := run_bounds (P := P) (w := w) (isS := false) (len := s.size) (cap := s.size) (mx := none) (nm := none) kl kh (.inl ⟨rfl, rfl⟩) rfl rfl rfl c1 c2 (Nat.le_refl _) (by simp)
    refine ⟨.string (s.extract (nl.getD 0) (nh.getD s.size)), by simp [Instr.sliceAt, Instr.slice, underlying, ht, hb], _, rfl, ?_⟩
    rw [hlen, ← hs, ← List.map_drop, ← List.map_take]
    congr 1
    simp [List.extract_eq_take_drop]

end
end Go.AM
/- The abstract machine, part 8: single operations, on: what is built and what grows. No program in sight. -/
namespace Go.AM

section
variable {E : Env} {st : St} {w : World} {P : Program}

/-! ### What is built -/
theorem build_sound {t : TypeId} {d : TypeDesc} {i : TypeInfo} {z : Value} {zs r : List AV} {ps : List (Nat × Nat × AV)} {l : Array (Nat × Value)} {place : Nat → Option (Nat × Nat)}
    (ht : P.underlying t = some d) (hi : P.info? t = some i) (hz : i.zero = some z) (hzs : ∀ E w, RvL E w zs z.cells.toList)
    (hd : (∃ fs places, d = .struct fs ∧ (∀ w, (fs.mapM (fun f => do pure (f.offset, ← sizeOf f.type)) : Sem (Array (Nat × Nat))).run P w = .ok places w) ∧ place = (places[·]?)) ∨
      (∃ n e ie, d = .array n e ∧ P.info? e = some ie ∧ place = fun k => some (k * ie.size, ie.size)))
    (hp : RvParts E w ps l.toList place) (hr : fillA zs ps = some r) : ∃ u, (Instr.build t l).run P w = .ok u w ∧ Rv E w (.agg r) u := by
  obtain ⟨out, h1, h2⟩ := fillA_sound ps l.toList zs r z.cells hp (hzs E w) hr
  refine ⟨.agg out, ?_, out, rfl, h2⟩
  rcases hd with ⟨fs, places, rfl, hpl, rfl⟩ | ⟨n, e, ie, rfl, hie, rfl⟩
  · simp only [Instr.build, Sem.run_bind, run_zeroValue' hi hz, Result.andThen, underlying, run_program, ht, Sem.run_pure, hpl, h1]
  · simp only [Instr.build, Sem.run_bind, run_zeroValue' hi hz, Result.andThen, underlying, run_program, ht, Sem.run_pure, run_sizeOf' hie, h1]

/-- A slice's cells, as it is made. -/
theorem bslice_sound {t e : TypeId} {i : TypeInfo} {n : Nat} {z : Value} {zs r : List AV} {ps : List (Nat × Nat × AV)} {l : Array (Nat × Value)}
    (ht : P.underlying t = some (.slice e)) (hi : P.info? e = some i) (hz : i.zero = some z) (hn : n * i.size ≤ 16777216)
    (hzs : ∀ E w, RvL E w zs ((Array.range (n * i.size)).map ((if n * i.size = 0 then #[] else z.cells)[· % (if n * i.size = 0 then #[] else z.cells).size]!)).toList)
    (hp : RvParts E w ps l.toList (fun k => some (k * i.size, i.size))) (hr : fillA zs ps = some r) (hs : Sat E st w) :
    ∃ w' E', (Instr.buildSlice t n l).run P w = .ok (.slice (some ⟨w.heap.size, 0, none⟩) n n) w' ∧ Ext E w E' w' ∧ Sat E' st w' ∧ Rv E' w' (.lst n r true) (.slice (some ⟨w.heap.size, 0, none⟩) n n) := by

  obtain ⟨out, h1, h2⟩ := fillA_sound ps l.toList zs r _ hp (hzs E w) hr
  obtain ⟨k1, k2⟩ := hs.allocFz (.cells out e)
  refine ⟨_, _, ?_, k2, k1, ⟨w.heap.size, 0, none⟩, n, rfl, Nat.le_refl _, fun _ => rfl, fun _ => Or.inl rfl, ?_⟩
  · have hgt : ¬ (n * i.size > 2 ^ 24) := by omega
    simp only [Instr.buildSlice, Sem.run_bind, underlying, run_program, Result.andThen, ht, Sem.run_pure, run_sizeOf' hi, hgt, if_false, Sem.run_ite]
    by_cases h0 : n * i.size = 0
    · simp only [h0, if_true] at h1 ⊢
      simp only [Sem.run_pure, h1]
      simp [newRow]
    · simp only [h0, if_false] at h1 ⊢
      simp only [run_zeroValue' hi hz]
      simp [h1, newRow]
  · exact RvMem.new (vs := out) (RvL.mono k2 _ _ h2) (heap_alloc_at w _)

/-! ### The elements of slices -/
theorem loadCells_heap {a : Addr} {vs : List Value} {w w2 : World} (hh : w2.heap = w.heap) (h : ∀ (j : Nat) v, vs[j]? = some v → w.cell? (a.add (0 + j)) = some v) :
    (loadCells a vs.length).run P w2 = .ok vs.toArray w2 :=
  run_loadCells_list (P := P) w2 a vs fun j v hj => by
    have := h j v hj
    have e : w2.cell? (a.add j) = w.cell? (a.add j) := by unfold World.cell?; rw [hh]
    rw [e]; simpa using this

theorem row_at {id b off : Nat} {cs : List AV} (hs : Sat E st w) (hb : E.β id = some b) (hg : st.get id = some (.row cs) ∨ st.get id = some (.fro cs)) : RvMem E w ⟨b, off, none⟩ 0 (cs.drop off) := by
  have e : (⟨b, off, none⟩ : Addr) = (⟨b, 0, none⟩ : Addr).add off := by rw [add_at]; simp
  rw [e]
  rcases hg with hg | hg
  · exact (hs.obj id _ b hg hb).2.at off
  · exact (hs.obj id _ b hg hb).2.at off

theorem contentA_sound {sz n : Nat} {x : AV} {ys : List AV} {v : Value} (hs : Sat E st w) (hx : Rv E w x v) (hc : contentA sz st x = some (n, ys)) :
    ∃ vs : List Value, (∀ w2, (Builtin.lenOf v).run P w2 = .ok n w2) ∧ (∀ w2 : World, w2.heap = w.heap → (Builtin.firstCells sz n v).run P w2 = .ok vs.toArray w2) ∧ RvL E w ys vs ∧ vs.length = n * sz := by
  have mem : ∀ (a : Addr) (c : Nat) (ds : List AV), v = .slice (some a) n c → RvMem E w a 0 ds → ds.length = n * sz → ds = ys →
      ∃ vs : List Value, (∀ w2, (Builtin.lenOf v).run P w2 = .ok n w2) ∧ (∀ w2 : World, w2.heap = w.heap → (Builtin.firstCells sz n v).run P w2 = .ok vs.toArray w2) ∧ RvL E w ys vs ∧ vs.length = n * sz := fun a c ds hv hm hl he => by
    subst hv; subst he
    obtain ⟨vs, h1, h2⟩ := hm.vals
    have hlen : vs.length = n * sz := by rw [← h1.length]; exact hl
    refine ⟨vs, fun w2 => rfl, fun w2 hh => ?_, h1, hlen⟩
    have := loadCells_heap (P := P) hh h2
    rw [hlen] at this
    simpa [Builtin.firstCells] using this
  cases x <;> simp only [contentA, reduceCtorEq] at hc
  · obtain ⟨s, rfl, hl⟩ := hx
    rename_i l
    cases h1 : sz.beq 1
    · simp [h1] at hc
    · simp only [h1, cond_true, Option.some.injEq, Prod.mk.injEq] at hc
      obtain ⟨rfl, rfl⟩ := hc
      have hsz := Nat.eq_of_beq_eq_true h1
      have hlen : l.length = s.size := by rw [← hl]; simp
      refine ⟨s.data.toList.map fun b => .int .u8 b.toNat, fun w2 => by simp [Builtin.lenOf, hlen], fun w2 _ => ?_, ?_, by simp [hsz, hlen]⟩
      · have : s.extract 0 l.length = s := by rw [hlen]; apply ByteArray.ext; simp
        simp only [Builtin.firstCells, this, Sem.run_pure]
        congr 1
        apply Array.ext'; simp
      · rw [← hl, List.map_map]
        exact RvL.of_get (by simp) fun j c v h1 h2 => by
          simp only [List.getElem?_map] at h1 h2
          cases hj : s.data.toList[j]? with
          | none => simp [hj] at h1
          | some b =>
            simp only [hj, Option.map_some, Option.some.injEq, Function.comp] at h1 h2
            subst h1; subst h2; rfl
  · have hx : v = .slice none 0 0 := hx
    subst hx
    simp only [Option.some.injEq, Prod.mk.injEq] at hc
    obtain ⟨rfl, rfl⟩ := hc
    exact ⟨[], fun w2 => rfl, fun w2 _ => by simp [Builtin.firstCells], rfl, by simp⟩
  · rename_i m cs ex
    obtain ⟨a, cap, rfl, h1, h2, h3, h4⟩ := hx
    cases hb : (m * sz).ble cs.length
    · simp [hb] at hc
    · simp only [hb, cond_true, Option.some.injEq, Prod.mk.injEq] at hc
      obtain ⟨rfl, rfl⟩ := hc
      have := Nat.le_of_ble_eq_true hb
      exact mem a cap _ rfl (h4.take _) (by simp; omega) rfl
  · rename_i id off m s cap lo
    obtain ⟨b, c, e', mm, h0, rfl, h1, h2, h3, h4⟩ := hx
    cases ho : st.get id with
    | none => simp [ho] at hc
    | some o =>
      have key : ∀ cs, st.get id = some (.row cs) ∨ st.get id = some (.fro cs) → (bif s.beq sz && (off + m * sz).ble cs.length then some (m, (cs.drop off).take (m * sz)) else none) = some (n, ys) →
          ∃ vs : List Value, (∀ w2, (Builtin.lenOf (.slice (some ⟨b, off, none⟩) m c)).run P w2 = .ok n w2) ∧ (∀ w2 : World, w2.heap = w.heap → (Builtin.firstCells sz n (.slice (some ⟨b, off, none⟩) m c)).run P w2 = .ok vs.toArray w2) ∧ RvL E w ys vs ∧ vs.length = n * sz := fun cs hg hc => by
        cases hb : s.beq sz && (off + m * sz).ble cs.length
        · simp [hb] at hc
        · simp only [hb, cond_true, Option.some.injEq, Prod.mk.injEq] at hc
          obtain ⟨rfl, rfl⟩ := hc
          simp only [Bool.and_eq_true] at hb
          have := Nat.le_of_ble_eq_true hb.2
          exact mem ⟨b, off, none⟩ c _ rfl ((row_at hs h0 hg).take _) (by simp; omega) rfl
      cases o with
      | loop s => simp [ho] at hc
      | row cs => simp only [ho] at hc; exact key cs (.inl ho) hc
      | fro cs => simp only [ho] at hc; exact key cs (.inr ho) hc
      | map es => simp [ho] at hc

end
end Go.AM
/- The abstract machine, part 9: append, make, copy. No program in sight. -/
namespace Go.AM

section
variable {E : Env} {st : St} {w : World} {P : Program}

/-- What may be appended. -/
def sliceOrString : TypeDesc → Prop := fun d => (∃ e, d = .slice e) ∨ d = .string

set_option maxHeartbeats 1000000 in
theorem append_fit {ts : Array TypeId} {t u ty e : TypeId} {du : TypeDesc} {i : TypeInfo} {base : Option Addr} {m n c : Nat} {vy : Value} {new : Array Value} {w' : World}
    (ht0 : ts[0]? = some t) (ht : P.underlying t = some (.slice e)) (hi : P.info? e = some i) (hu0 : ts[1]? = some u) (hu : P.underlying u = some du) (hni : sliceOrString du)
    (hl : ∀ w2, (Builtin.lenOf vy).run P w2 = .ok n w2) (hf : (Builtin.firstCells i.size n vy).run P w = .ok new w) (hfit : m + n ≤ c)
    (hst : (match base with | some a => storeCells (a.add (m * i.size)) new.toList | none => pure () : Sem Unit).run P w = .ok () w') :
    (Builtin.append_ ts ty #[.slice base m c, vy]).run P w = .ok (.slice base (m + n) c) w' := by
  rcases hni with ⟨e0, rfl⟩ | rfl <;>
    (cases base with
      | none =>
        simp only [Sem.run_pure, Result.ok.injEq, true_and] at hst; subst hst
        simp [Builtin.append_, ht0, hu0, underlying, ht, hu, sizeOf, typeInfo, hi, hl, hf, hfit]
      | some a =>
        simp only at hst
        simp [Builtin.append_, ht0, hu0, underlying, ht, hu, sizeOf, typeInfo, hi, hl, hf, hfit, hst])

set_option maxHeartbeats 1000000 in
theorem append_grow {ts : Array TypeId} {t u ty e : TypeId} {du : TypeDesc} {i : TypeInfo} {z : Value} {base : Option Addr} {m n c : Nat} {vy : Value} {old new : Array Value}
    (ht0 : ts[0]? = some t) (ht : P.underlying t = some (.slice e)) (hi : P.info? e = some i) (hz : i.zero = some z) (hu0 : ts[1]? = some u) (hu : P.underlying u = some du) (hni : sliceOrString du)
    (hl : ∀ w2, (Builtin.lenOf vy).run P w2 = .ok n w2) (hf : (Builtin.firstCells i.size n vy).run P w.drew = .ok new w.drew) (hfo : (Builtin.firstCells i.size m (.slice base m c)).run P w.drew = .ok old w.drew)
    (hfit : ¬ (m + n ≤ c)) (h63 : ((m + n : Nat) : Int) ≤ 9223372036854775807) (h48 : Builtin.nextslicecap (m + n) c * i.bytes ≤ 281474976710656) :
    (Builtin.append_ ts ty #[.slice base m c, vy]).run P w = .ok (.slice (some ⟨w.heap.size, 0, none⟩) (m + n) (grownCap w (m + n) c e))
      (w.drew.alloc (.cells (old ++ new ++ Builtin.zeroCells z.cells (grownCap w (m + n) c e - (m + n))) e)) := by
  have h63' : ¬ (9223372036854775807 < ((m : Int) + (n : Int))) := by omega
  have h48' : ¬ (281474976710656 < Builtin.nextslicecap (m + n) c * i.bytes) := by omega
  have e63 : IntKind.i64.max = 9223372036854775807 := by decide
  have hf' : (Builtin.firstCells i.size n vy).run P { w with drawn := w.drawn + 1 } = .ok new { w with drawn := w.drawn + 1 } := hf
  have hfo' : (Builtin.firstCells i.size m (.slice base m c)).run P { w with drawn := w.drawn + 1 } = .ok old { w with drawn := w.drawn + 1 } := hfo
  rcases hni with ⟨e0, rfl⟩ | rfl <;>
    simp [Builtin.append_, ht0, hu0, underlying, ht, hu, sizeOf, typeInfo, zeroValue, hi, hz, hl, hf, hfo, hfit, h63', h48', e63, Question.forced, newRow, grownCap]


theorem Sat.congr {E : Env} {st st2 : St} {w : World} (h : Sat E st w) (hg : ∀ i, st2.get i = st.get i) (hn : st2.next = st.next) (hbt : st2.bt = st.bt) : Sat E st2 w :=
  ⟨fun i b hb => by rw [hn]; exact h.dom i b hb, h.fz, fun i o b h1 h2 => h.obj i o b (by rw [← hg]; exact h1) h2,
    fun i i' o o' b h1 h2 => h.sep i i' o o' b (by rw [← hg]; exact h1) (by rw [← hg]; exact h2), fun i o b h1 => h.lv i o b (by rw [← hg]; exact h1), fun i hi => ⟨(h.rs i hi).1, by rw [hn]; exact (h.rs i hi).2⟩, h.dz, fun id t ht => h.bt id t (by rw [← hbt]; exact ht)⟩

/-- An object gets another number. -/
theorem Sat.rename {E : Env} {st : St} {w : World} (h : Sat E st w) {id b : Nat} {o : AO} (hg : st.get id = some o) (hl : o.live = true) (hb : E.β id = some b) :
    Sat (E.link st.next b) ((st.del id).new o) w ∧ Ext E w (E.link st.next b) w := by
  have hβ : E.β st.next = none := by
    cases hc : E.β st.next with
    | none => rfl
    | some c => have := (h.dom _ _ hc).1; omega
  have hx : Ext E w (E.link st.next b) w := ⟨⟨fun i c hc => by
    show (if i = st.next then _ else _) = _
    rw [if_neg (by rintro rfl; rw [hβ] at hc; simp at hc)]; exact hc, fun _ h => h, fun _ _ => rfl, Nat.le_refl _, fun _ _ h => h, rfl, rfl, rfl, fun _ _ => rfl⟩, fun _ h => h, fun _ h => h⟩
  have hlink : ∀ i c, (E.link st.next b).β i = some c → (i = st.next ∧ c = b) ∨ (i ≠ st.next ∧ E.β i = some c) := fun i c hc => by
    have : (if i = st.next then some b else E.β i) = some c := hc
    by_cases hi : i = st.next
    · rw [if_pos hi] at this; injection this with this; exact .inl ⟨hi, this.symm⟩
    · rw [if_neg hi] at this; exact .inr ⟨hi, this⟩
  have hget : ∀ i o', ((st.del id).new o).get i = some o' → (i = st.next ∧ o' = o) ∨ (i ≠ st.next ∧ i ≠ id ∧ st.get i = some o') := fun i o' ho => by
    rw [St.get_new] at ho
    by_cases hi : i = st.next
    · rw [if_pos (by simpa using hi)] at ho; injection ho with ho; exact .inl ⟨hi, ho.symm⟩
    · rw [if_neg (by simpa using hi), St.get_del] at ho
      by_cases hi' : i = id
      · rw [if_pos hi'] at ho; simp at ho
      · rw [if_neg hi'] at ho; exact .inr ⟨hi, hi', ho⟩
  have hobj := h.obj id o b hg hb
  refine ⟨⟨fun i c hc => ?_, h.fz, fun i o' c h1 h2 => ?_, fun i i' o1 o2 c h1 h2 l1 l2 b1 b2 => ?_, fun i o' c h1 h2 h3 => ?_, fun i hi => ⟨by
    show (if i = st.next then _ else _) = _
    rw [if_neg (by rintro rfl; have := (h.rs _ hi).2; omega)]; exact (h.rs i hi).1, by have := (h.rs i hi).2; simp; omega⟩, h.dz, BtOk.mono h.bt hx.toExt0 rfl⟩, hx⟩
  · rcases hlink i c hc with ⟨rfl, rfl⟩ | ⟨_, hc⟩
    · exact ⟨by simp, (h.dom id _ hb).2⟩
    · have := h.dom i c hc; exact ⟨by simp; omega, this.2⟩
  · rcases hget i o' h1 with ⟨rfl, rfl⟩ | ⟨n1, n2, h1⟩ <;> rcases hlink _ c h2 with ⟨e1, e2⟩ | ⟨e1, h2⟩
    · subst e2; exact ObjR.mono hx rfl hobj
    · exact absurd rfl e1
    · exact absurd e1 n1
    · exact ObjR.mono hx rfl (h.obj i o' c h1 h2)
  · rcases hget i o1 h1 with ⟨e1, f1⟩ | ⟨n1, m1, h1⟩ <;> rcases hget i' o2 h2 with ⟨e2, f2⟩ | ⟨n2, m2, h2⟩
    · rw [e1, e2]
    · rcases hlink i c b1 with ⟨_, e3⟩ | ⟨n3, _⟩
      · rcases hlink i' c b2 with ⟨e4, _⟩ | ⟨_, d2⟩
        · exact absurd e4 n2
        · subst e3; exact absurd (h.sep i' id o2 o _ h2 hg l2 hl d2 hb) m2
      · exact absurd e1 n3
    · rcases hlink i' c b2 with ⟨_, e3⟩ | ⟨n3, _⟩
      · rcases hlink i c b1 with ⟨e4, _⟩ | ⟨_, d1⟩
        · exact absurd e4 n1
        · subst e3; exact absurd (h.sep i id o1 o _ h1 hg l1 hl d1 hb) m1
      · exact absurd e2 n3
    · rcases hlink i c b1 with ⟨e3, _⟩ | ⟨_, b1⟩
      · exact absurd e3 n1
      · rcases hlink i' c b2 with ⟨e4, _⟩ | ⟨_, b2⟩
        · exact absurd e4 n2
        · exact h.sep i i' o1 o2 c h1 h2 l1 l2 b1 b2
  · rcases hget i o' h1 with ⟨e1, f1⟩ | ⟨n1, m1, h1⟩ <;> rcases hlink i c h3 with ⟨e2, e3⟩ | ⟨n2, h3⟩
    · subst e3; exact h.lv id o c hg hl hb
    · exact absurd e1 n2
    · exact absurd e2 n1
    · exact h.lv i o' c h1 h2 h3

/-- Of what type the cells of an append's result are: of the slice's elements (e), or of the cells that were there. -/
def TagR (E' : Env) (w' : World) (e : TypeId) (w : World) (vx : Value) (r : AV) : Prop := ∀ id off n sz cap lo, r = .own id off n sz cap lo → ∀ b, E'.β id = some b →
  ∃ t m, w'.shape? b = some (t, m) ∧ (t = e ∨ ∃ (a : Addr) (n0 c0 m0 : Nat), vx = .slice (some a) n0 c0 ∧ w.shape? a.block = some (t, m0))

/-- What an append does that finds room. -/
def FitRun (P : Program) (w : World) (sz n : Nat) (vs : List Value) (S : Value → Sem Value) : Prop := ∀ (base : Option Addr) (m c : Nat) (w' : World), m + n ≤ c →
  (match base with | some a => storeCells (a.add (m * sz)) vs | none => pure () : Sem Unit).run P w = .ok () w' → (S (.slice base m c)).run P w = .ok (.slice base (m + n) c) w'
/-- What an append does that finds none. -/
def GrowRun (P : Program) (w : World) (i : TypeInfo) (z : Value) (e : TypeId) (n : Nat) (vs : List Value) (S : Value → Sem Value) : Prop := ∀ (base : Option Addr) (m c : Nat) (ovs : List Value), ¬ (m + n ≤ c) →
  ((m + n : Nat) : Int) ≤ 9223372036854775807 → Builtin.nextslicecap (m + n) c * i.bytes ≤ 281474976710656 → (Builtin.firstCells i.size m (.slice base m c)).run P w.drew = .ok ovs.toArray w.drew →
  (S (.slice base m c)).run P w = .ok (.slice (some ⟨w.heap.size, 0, none⟩) (m + n) (grownCap w (m + n) c e)) (w.drew.alloc (.cells (ovs.toArray ++ vs.toArray ++ Builtin.zeroCells z.cells (grownCap w (m + n) c e - (m + n))) e))

theorem grow_sound {e : TypeId} {i : TypeInfo} {z : Value} {base : Option Addr} {m n c : Nat} {os ys : List AV} {ovs vs : List Value} {S : Value → Sem Value}
    (hzs : z.cells.size = i.size) (hs : Sat E st w) (hG : GrowRun P w i z e n vs S)
    (hfo : ∀ w2 : World, w2.heap = w.heap → (Builtin.firstCells i.size m (.slice base m c)).run P w2 = .ok ovs.toArray w2)
    (ho : RvL E w os ovs) (hol : ovs.length = m * i.size) (hy : RvL E w ys vs) (hyl : vs.length = n * i.size)
    (hfit : ¬ (m + n ≤ c)) (h48 : (m + n) * i.bytes ≤ 140737488355328) (h63 : m + n ≤ 140737488355328) :
    ∃ q w' E', (S (.slice base m c)).run P w = .ok q w' ∧ Ext E w E' w' ∧ Sat E' (st.new (.row (os ++ ys))) w' ∧ Rv E' w' (.own st.next 0 (m + n) i.size none (m + n)) q ∧ TagR E' w' e w (.slice base m c) (.own st.next 0 (m + n) i.size none (m + n)) := by
  obtain ⟨hs1, hx1⟩ := hs.drew
  have hcap := grownCap_ge w (m + n) c e
  have harr : (ovs.toArray ++ vs.toArray ++ Builtin.zeroCells z.cells (grownCap w (m + n) c e - (m + n))).size = grownCap w (m + n) c e * i.size := by
    simp only [Array.size_append, size_zeroCells, List.size_toArray, hol, hyl, hzs]
    rw [← Nat.add_mul, ← Nat.add_mul]; congr 1; omega
  have hrun := hG base m c ovs hfit (by omega) (growslice_fits (by omega) h48) (hfo w.drew rfl)
  have hbig : RvL E w (os ++ ys) (ovs ++ vs) := ho.append hy
  obtain ⟨hs2, hx2⟩ := hs1.alloc (.cells (ovs.toArray ++ vs.toArray ++ Builtin.zeroCells z.cells (grownCap w (m + n) c e - (m + n))) e) (.row (os ++ ys)) fun E' hx' =>
    ⟨⟨_, e, (0, 0), heap_alloc_at w.drew _, by
      rw [harr, hbig.length, List.length_append, hol, hyl, ← Nat.add_mul]
      exact Nat.mul_le_mul_right _ hcap, .inl rfl⟩,
    RvMem.new_prefix (vs := ovs ++ vs) (RvL.mono (hx1.trans hx') _ _ hbig) (heap_alloc_at w.drew _) fun j v hj => by
      have e0 : ovs.toArray ++ vs.toArray = (ovs ++ vs).toArray := by simp
      rw [e0]
      have hlt := (List.getElem?_eq_some_iff.1 hj).1
      rw [Array.getElem?_append_left (by simpa using hlt)]
      simpa using hj⟩
  refine ⟨_, _, _, hrun, hx1.trans hx2, hs2, ⟨w.heap.size, grownCap w (m + n) c e, e, _, by simp [Env.link], rfl, hcap, by simp, shape_alloc w.drew _ e (0, 0), ?_, hcap⟩, fun id off n' sz cap lo heq b hb => ?_⟩
  · rw [harr]; simp
  · injection heq with h1 _ _ _ _ _
    subst h1
    have : some w.drew.heap.size = some b := by rw [← hb]; simp [Env.link]
    injection this with this
    subst this
    exact ⟨e, _, shape_alloc w.drew _ e (0, 0), .inl rfl⟩

theorem appendA_core {e : TypeId} {i : TypeInfo} {z : Value} {x r : AV} {n : Nat} {vx : Value} {ys : List AV} {vs : List Value} {st' : St} {S : Value → Sem Value}
    (hzs : z.cells.size = i.size) (hs : Sat E st w) (hx : Rv E w x vx) (hF : FitRun P w i.size n vs S) (hG : GrowRun P w i z e n vs S)
    (hy : RvL E w ys vs) (hyl : vs.length = n * i.size) (hr : appendA i.bytes i.size st x n ys = some (r, st')) :
    ∃ q w' E', (S vx).run P w = .ok q w' ∧ Ext E w E' w' ∧ Sat E' st' w' ∧ Rv E' w' r q ∧ TagR E' w' e w vx r := by
  unfold appendA at hr
  cases hn0 : n.beq 0
  · -- something is appended
    have hn : 0 < n := by
      rcases Nat.eq_zero_or_pos n with h | h
      · subst h; simp at hn0
      · exact h
    simp only [hn0, cond_false] at hr
    cases x <;> try (simp only [reduceCtorEq] at hr; done)
    · -- to nil
      have hx : vx = .slice none 0 0 := hx
      subst hx
      cases hc : ((n * i.bytes).ble 140737488355328 && n.ble 140737488355328)
      · simp [hc] at hr
      · simp only [hc, cond_true, Option.some.injEq, Prod.mk.injEq] at hr
        obtain ⟨rfl, rfl⟩ := hr
        simp only [Bool.and_eq_true] at hc
        have c1 := Nat.le_of_ble_eq_true hc.1
        have c2 := Nat.le_of_ble_eq_true hc.2
        have := grow_sound (E := E) (w := w) (st := st) (base := none) (m := 0) (c := 0) (os := []) (ovs := []) hzs hs hG (fun w2 _ => by simp [Builtin.firstCells]) rfl (by simp) hy hyl (by omega) (by simpa using c1) (by omega)
        simpa using this
    · -- to a slice in line
      rename_i m cs ex
      cases ex with
      | false => simp at hr
      | true =>
        simp only at hr
        obtain ⟨a, cap, rfl, h1, h2, h3, h4⟩ := hx
        have := h2 rfl
        subst this
        cases hc : (((cap + n) * i.bytes).ble 140737488355328 && (cap + n).ble 140737488355328 && (cap * i.size).ble cs.length)
        · simp [hc] at hr
        · simp only [hc, cond_true, Option.some.injEq, Prod.mk.injEq] at hr
          obtain ⟨rfl, rfl⟩ := hr
          simp only [Bool.and_eq_true] at hc
          have c1 := Nat.le_of_ble_eq_true hc.1.1
          have c2 := Nat.le_of_ble_eq_true hc.1.2
          have c3 := Nat.le_of_ble_eq_true hc.2
          obtain ⟨ovs, k1, k2⟩ := (h4.take (cap * i.size)).vals
          have hol : ovs.length = cap * i.size := by rw [← k1.length]; simp; omega
          exact grow_sound (E := E) (w := w) (st := st) (base := some a) (m := cap) (c := cap) hzs hs hG (fun w2 hh => by
            have := loadCells_heap (P := P) hh k2
            rw [hol] at this
            simpa [Builtin.firstCells] using this) k1 hol hy hyl (by omega) c1 c2
    · -- to a slice of an object
      rename_i id off m s cap lo
      obtain ⟨b, c, e', mm, h0, rfl, h1, h2, h3, h4, h5⟩ := hx
      cases ho : st.get id with
      | none => simp [ho] at hr
      | some o =>
        cases o with
        | loop s => simp [ho] at hr
        | fro cs => simp [ho] at hr
        | map es => simp [ho] at hr
        | row cs =>
          simp only [ho] at hr
          cases hc : (s.beq i.size && ((m + n) * i.bytes).ble 140737488355328 && (m + n).ble 140737488355328 && (off + m * i.size).ble cs.length && ys.all AV.one)
          · simp [hc] at hr
          · simp only [hc, cond_true] at hr
            simp only [Bool.and_eq_true] at hc
            have es := Nat.eq_of_beq_eq_true hc.1.1.1.1
            have c1 := Nat.le_of_ble_eq_true hc.1.1.1.2
            have c2 := Nat.le_of_ble_eq_true hc.1.1.2
            have c3 := Nat.le_of_ble_eq_true hc.1.2
            have c4 := hc.2
            subst es
            have hone := hy.one c4
            have hmem := (row_at (off := off) hs h0 (.inl ho)).take (m * i.size)
            obtain ⟨ovs, k1, k2⟩ := hmem.vals
            have hol : ovs.length = m * i.size := by rw [← k1.length]; simp; omega
            have hfo : ∀ w2 : World, w2.heap = w.heap → (Builtin.firstCells i.size m (.slice (some ⟨b, off, none⟩) m c)).run P w2 = .ok ovs.toArray w2 := fun w2 hh => by
              have := loadCells_heap (P := P) hh k2
              rw [hol] at this
              simpa [Builtin.firstCells] using this
            have hylen : ys.length = n * i.size := by rw [hy.length]; exact hyl
            have grow : ¬ (m + n ≤ c) → r = .own st.next 0 (m + n) i.size none (m + n) → st' = st.new (.row ((cs.drop off).take (m * i.size) ++ ys)) →
                ∃ q w' E', (S (.slice (some ⟨b, off, none⟩) m c)).run P w = .ok q w' ∧ Ext E w E' w' ∧ Sat E' st' w' ∧ Rv E' w' r q ∧ TagR E' w' e w (.slice (some ⟨b, off, none⟩) m c) r := fun hnf e1 e2 => by
              subst e1; subst e2
              exact grow_sound (E := E) (w := w) (st := st) hzs hs hG hfo k1 hol hy hyl hnf c1 c2
            have place : m + n ≤ c → off + (m + n) * i.size ≤ cs.length → r = .own id off (m + n) i.size cap lo → st' = st.put id (.row (setCells cs (off + m * i.size) ys)) →
                ∃ q w' E', (S (.slice (some ⟨b, off, none⟩) m c)).run P w = .ok q w' ∧ Ext E w E' w' ∧ Sat E' st' w' ∧ Rv E' w' r q ∧ TagR E' w' e w (.slice (some ⟨b, off, none⟩) m c) r := fun hfit hroom e1 e2 => by
              subst e1; subst e2
              rw [Nat.add_mul] at hroom
              obtain ⟨w', r1, r2, r3⟩ := write_row (P := P) (off := off + m * i.size) hs ho h0 hy (by omega) hone
              exact ⟨_, w', E, hF _ _ _ _ hfit (by simpa [add_at] using r1), r3, r2, ⟨b, c, e', mm, h0, rfl, hfit, h2, r3.shape _ _ h3, h4, h5⟩, fun id' off' n' sz' cap' lo' heq b' hb' => by
                injection heq with g1 _ _ _ _ _
                subst g1
                rw [h0] at hb'; injection hb' with hb'; subst hb'
                exact ⟨e', mm, r3.shape _ _ h3, .inr ⟨_, _, _, mm, rfl, h3⟩⟩⟩
            generalize hfits : fitsA (m + n) lo cap = fits at hr
            unfold fitsA at hfits
            have hfits1 : fits = some true → m + n ≤ c := fun h => by
              subst h
              cases cap with
              | some c' => have := h2 c' rfl; subst this; simp only [Option.some.injEq] at hfits; exact Nat.le_of_ble_eq_true hfits
              | none =>
                cases hb : (m + n).ble lo
                · simp [hb] at hfits
                · exact Nat.le_trans (Nat.le_of_ble_eq_true hb) h5
            have hfits2 : fits = some false → ¬ (m + n ≤ c) := fun h hle => by
              subst h
              cases cap with
              | some c' => have := h2 c' rfl; subst this; simp only [Option.some.injEq] at hfits; rw [Nat.ble_eq_true_of_le hle] at hfits; simp at hfits
              | none => cases hb : (m + n).ble lo <;> simp [hb] at hfits
            cases fits with
            | some ft =>
              cases ft with
              | true =>
                simp only at hr
                cases hroom : (off + (m + n) * i.size).ble cs.length
                · simp [hroom] at hr
                · simp only [hroom, cond_true, Option.some.injEq, Prod.mk.injEq] at hr
                  exact place (hfits1 rfl) (Nat.le_of_ble_eq_true hroom) hr.1.symm hr.2.symm
              | false =>
                simp only [Option.some.injEq, Prod.mk.injEq] at hr
                exact grow (hfits2 rfl) hr.1.symm hr.2.symm
            | none =>
              simp only at hr
              cases hend : (off.beq 0 && (m * i.size).beq cs.length)
              · simp [hend] at hr
              · simp only [hend, cond_true, Option.some.injEq, Prod.mk.injEq] at hr
                obtain ⟨rfl, rfl⟩ := hr
                simp only [Bool.and_eq_true] at hend
                have e0 := Nat.eq_of_beq_eq_true hend.1
                have e1 := Nat.eq_of_beq_eq_true hend.2
                subst e0
                by_cases hfit : m + n ≤ c
                · -- in place
                  obtain ⟨⟨cur, e2, f2, hbk, hcs, hfz⟩, hm⟩ := hs.obj id _ b ho h0
                  have hshape : w.shape? b = some (e2, cur.size) := by unfold World.shape?; rw [hbk]
                  rw [hshape] at h3
                  injection h3 with h3
                  injection h3 with h3a h3b
                  subst h3a; subst h3b
                  have hle : (m + n) * i.size ≤ c * i.size := Nat.mul_le_mul_right _ hfit
                  rw [Nat.add_mul] at hle
                  obtain ⟨w', cur', r1, r2, r3, r4, r5, r6, r7, r8, r9⟩ := run_storeCells (P := P) b (m * i.size) e2 f2 vs 0 cur w hbk hfz (by omega) hone
                  have hsh : ∀ s, w.shape? b = some s → w'.shape? b = some s := fun s h => by
                    unfold World.shape? at h ⊢; rw [hbk] at h; rw [r2]; simpa [r3] using h
                  obtain ⟨q1, q2⟩ := Sat.write hs id b (.row cs) (.row (cs ++ ys)) ho rfl h0 r5 r6 hsh r7 r8 r9 rfl fun hext => ⟨⟨cur', e2, f2, r2, by
                      rw [List.length_append, hylen, r3]; omega, by rw [r3]; exact hfz⟩, by
                    refine RvMem.of_get fun j d hd => ?_
                    have hcell : w'.cell? ((⟨b, 0, none⟩ : Addr).add (0 + j)) = cur'[j]? := by
                      rw [add_at]; simpa using cell_of_row w' b j cur' e2 f2 r2
                    rw [hcell, r4 j]
                    by_cases hj : j < cs.length
                    · rw [List.getElem?_append_left hj] at hd
                      rw [if_neg (by omega)]
                      obtain ⟨v, k3, k4⟩ := hm.get j hd
                      refine ⟨v, ?_, Rv.mono hext _ _ k4⟩
                      rw [add_at] at k3
                      have := cell_of_row w b j cur e2 f2 hbk
                      simp only [Nat.zero_add] at k3
                      rw [this] at k3; exact k3
                    · rw [List.getElem?_append_right (by omega)] at hd
                      obtain ⟨v, k3, k4⟩ := hy.get _ hd
                      have hlt := (List.getElem?_eq_some_iff.1 k3).1
                      rw [if_pos (by omega)]
                      refine ⟨v, ?_, Rv.mono hext _ _ k4⟩
                      rw [← k3]; congr 1; omega⟩
                  obtain ⟨q3, q4⟩ := q1.rename (id := id) (b := b) (o := .row (cs ++ ys)) (by simp) rfl h0
                  refine ⟨_, w', E.link st.next b, hF _ _ _ _ hfit (by simpa [add_at] using r1), q2.trans q4, ?_, ⟨b, c, e2, cur.size, by simp [Env.link], rfl, hfit, by simp, hsh _ hshape, by omega, hfit⟩, fun id' off' n' sz' cap' lo' heq b' hb' => by
                    injection heq with g1 _ _ _ _ _
                    subst g1
                    have : some b = some b' := by rw [← hb']; simp [Env.link]
                    injection this with this
                    subst this
                    exact ⟨e2, cur.size, hsh _ hshape, .inr ⟨_, _, _, _, rfl, hshape⟩⟩⟩
                  refine q3.congr (fun j => ?_) (by simp) rfl
                  simp only [St.get_new, St.get_del, St.get_put, St.next_del, St.next_put]
                  by_cases hj : j = st.next
                  · simp [hj]
                  · by_cases hj2 : j = id <;> simp [hj, hj2]
                · -- elsewhere
                  have hcut : (List.drop 0 cs).take (m * i.size) = cs := by rw [List.drop_zero, e1, List.take_length]
                  rw [hcut] at k1
                  exact grow_sound (E := E) (w := w) (st := st.del id) hzs (hs.del id) hG hfo k1 hol hy hyl hfit c1 c2
  · -- nothing is appended
    have hn := Nat.eq_of_beq_eq_true hn0
    subst hn
    simp only [hn0, cond_true] at hr
    have hvs : vs = [] := by
      cases vs with
      | nil => rfl
      | cons v vs => simp at hyl
    subst hvs
    have fin : ∀ (base : Option Addr) (m c : Nat), vx = .slice base m c → m ≤ c → r = x → st' = st →
        ∃ q w' E', (S vx).run P w = .ok q w' ∧ Ext E w E' w' ∧ Sat E' st' w' ∧ Rv E' w' r q ∧ TagR E' w' e w vx r := fun base m c hv hmc e1 e2 => by
      subst hv; subst e1; subst e2
      refine ⟨_, w, E, hF _ _ _ w (by omega) ?_, Ext.refl _ _, hs, by simpa using hx, fun id' off' n' sz' cap' lo' heq b' hb' => ?_⟩
      · cases base <;> simp [storeCells]
      · subst heq
        obtain ⟨b, c', e', mm, h0, hv', h1, h2, h3, _⟩ := hx
        rw [h0] at hb'; injection hb' with hb'; subst hb'
        exact ⟨e', mm, h3, .inr ⟨_, _, _, mm, hv', h3⟩⟩
    cases x <;> simp only [Option.some.injEq, Prod.mk.injEq, reduceCtorEq] at hr <;> obtain ⟨rfl, rfl⟩ := hr
    · exact fin none 0 0 hx (Nat.le_refl _) rfl rfl
    · obtain ⟨a, cap, hv, h1, _⟩ := id hx
      exact fin _ _ _ hv h1 rfl rfl
    · obtain ⟨b, c, e', mm, h0, hv, h1, _⟩ := id hx
      exact fin _ _ _ hv h1 rfl rfl


theorem appendA_sound {ts : Array TypeId} {t u ty e : TypeId} {du : TypeDesc} {i : TypeInfo} {z : Value} {x r : AV} {n : Nat} {vx vy : Value} {ys : List AV} {vs : List Value} {st' : St}
    (ht0 : ts[0]? = some t) (ht : P.underlying t = some (.slice e)) (hi : P.info? e = some i) (hz : i.zero = some z) (hu0 : ts[1]? = some u) (hu : P.underlying u = some du) (hni : sliceOrString du)
    (hzs : z.cells.size = i.size) (hs : Sat E st w) (hx : Rv E w x vx)
    (hl : ∀ w2, (Builtin.lenOf vy).run P w2 = .ok n w2) (hf : ∀ w2 : World, w2.heap = w.heap → (Builtin.firstCells i.size n vy).run P w2 = .ok vs.toArray w2)
    (hy : RvL E w ys vs) (hyl : vs.length = n * i.size) (hr : appendA i.bytes i.size st x n ys = some (r, st')) :
    ∃ q w' E', (Builtin.append_ ts ty #[vx, vy]).run P w = .ok q w' ∧ Ext E w E' w' ∧ Sat E' st' w' ∧ Rv E' w' r q ∧ TagR E' w' e w vx r :=
  appendA_core (S := fun v => Builtin.append_ ts ty #[v, vy]) hzs hs hx
    (fun base m c w' hfit hst => append_fit (P := P) (ty := ty) ht0 ht hi hu0 hu hni hl (hf w rfl) hfit (by simpa using hst))
    (fun base m c ovs hfit h63 h48 hfo => append_grow (P := P) (w := w) (ty := ty) ht0 ht hi hz hu0 hu hni hl (hf w.drew rfl) hfo hfit h63 h48)
    hy hyl hr

end
end Go.AM
/- The abstract machine, part 10: maps, interface values, checks. No program in sight. -/
namespace Go.AM

section
variable {E : Env} {st : St} {w : World} {P : Program}

theorem nilchkA_sound {x r : AV} {v : Value} {o : Oper} {X : Operand} {ρ : Operand → Value} (ho : o.op = .nilCheck X) (hv : ρ X = v) (hx : Rv E w x v) (hr : nilchkA x = some r) :
    (execOp ρ o).run P w = .ok (.value v) w ∧ Rv E w r v := by
  unfold nilchkA at hr
  split at hr <;> simp only [Option.some.injEq, reduceCtorEq] at hr <;> subst hr
  · have h0 := hx; obtain ⟨b, hb, rfl⟩ := hx
    exact ⟨by simp [execOp, ho, hv], h0⟩
  · have h0 := hx; obtain ⟨a, rfl, _⟩ := hx
    exact ⟨by simp [execOp, ho, hv], h0⟩
  · have h0 := hx; obtain ⟨xs, ys, rfl, _⟩ := hx
    exact ⟨by simp [execOp, ho, hv], h0⟩
  · have h0 := hx; obtain ⟨y, rfl, _⟩ := hx
    exact ⟨by simp [execOp, ho, hv], h0⟩

def notIface : TypeDesc → Bool
  | .interface _ => false
  | _ => true

theorem makeIface_sound {t : TypeId} {d : TypeDesc} {x : AV} {v : Value} (ht : P.underlying t = some d) (hd : notIface d = true) (hx : Rv E w x v) :
    (Instr.makeInterface t v).run P w = .ok (.iface t v) w ∧ Rv E w (.iface t x) (.iface t v) := by
  refine ⟨?_, v, rfl, hx⟩
  cases d <;> simp [notIface] at hd <;> simp [Instr.makeInterface, underlying, ht]

theorem tassertA_sound {t xt : TypeId} {d : TypeDesc} {i : TypeInfo} {z : Value} {zero x r : AV} {ok : Bool} {v : Value} (ht : P.underlying t = some d) (hd : notIface d = true) (hi : P.info? t = some i) (hz : i.zero = some z)
    (hzero : Rv E w zero z) (hx : Rv E w x v) (hr : tassertA t zero ok x = some r) : ∃ u, (Instr.typeAssert v xt t ok).run P w = .ok u w ∧ Rv E w r u := by
  have two : ∀ (a b : AV) (va vb : Value), Rv E w a va → Rv E w b vb → Rv E w (.tuple [a, b]) (.tuple #[va, vb]) := fun a b va vb h1 h2 => ⟨#[va, vb], rfl, va, [vb], rfl, h1, vb, [], rfl, h2, rfl⟩
  cases x <;> simp only [tassertA, reduceCtorEq] at hr
  · have hx : v = .nilIface := hx
    subst hx
    cases ok <;> simp only [cond_true, cond_false, Option.some.injEq, reduceCtorEq] at hr
    subst hr
    refine ⟨.tuple #[z, .bool false], ?_, two _ _ _ _ hzero rfl⟩
    cases d <;> simp [notIface] at hd <;> simp [Instr.typeAssert, underlying, ht, run_zeroValue' hi hz]
  · obtain ⟨y, rfl, hy⟩ := hx
    rename_i u x
    cases hu : u.beq t
    · simp only [hu, cond_false] at hr
      cases ok <;> simp only [cond_true, cond_false, Option.some.injEq, reduceCtorEq] at hr
      subst hr
      have hne : u ≠ t := fun h => by subst h; simp at hu
      refine ⟨.tuple #[z, .bool false], ?_, two _ _ _ _ hzero rfl⟩
      cases d <;> simp [notIface] at hd <;> simp [Instr.typeAssert, underlying, ht, run_zeroValue' hi hz, hne]
    · simp only [hu, cond_true] at hr
      have := Nat.eq_of_beq_eq_true hu
      subst this
      cases ok <;> simp only [cond_true, cond_false, Option.some.injEq] at hr <;> subst hr
      · refine ⟨y, ?_, hy⟩
        cases d <;> simp [notIface] at hd <;> simp [Instr.typeAssert, underlying, ht]
      · refine ⟨.tuple #[y, .bool true], ?_, two _ _ _ _ hy rfl⟩
        cases d <;> simp [notIface] at hd <;> simp [Instr.typeAssert, underlying, ht]

/-! ### Maps -/
theorem bytes_beq (s s' : ByteArray) : (s.data.toList == s'.data.toList) = (s == s') := by
  have : (s == s') = (s.data == s'.data) := by cases s; cases s'; rfl
  rw [this]; simp

def keyDesc (str : Bool) : TypeDesc → Prop := fun d => (str = true ∧ d = .string) ∨ (str = false ∧ ∃ k, d = .int k)

theorem keyEq_sound {str : Bool} {d : TypeDesc} {x y : AV} {v u : Value} {b : Bool} (hd : keyDesc str d) (hx : Rv E w x v) (hy : Rv E w y u) (h : keyEq str x y = some b) : Instr.sameNow d v u = some b := by
  cases x <;> cases y <;> simp only [keyEq, reduceCtorEq] at h
  · have hx : v = _ := hx
    have hy : u = _ := hy
    subst hx; subst hy
    rcases hd with ⟨rfl, rfl⟩ | ⟨rfl, k, rfl⟩
    · simp at h
    · simp only [cond_false] at h
      simp only [Instr.sameNow]
      exact h
  · obtain ⟨s, rfl, hs⟩ := hx
    obtain ⟨s', rfl, hs'⟩ := hy
    rcases hd with ⟨rfl, rfl⟩ | ⟨rfl, k, rfl⟩
    · simp only [cond_true, Option.some.injEq] at h
      rw [← hs, ← hs', natsEq_iff] at h
      simp only [Instr.sameNow, Option.some.injEq]
      rw [← h]
      exact (bytes_beq s s').symm
    · simp at h

theorem sameBits_of {str : Bool} {x y : AV} {v u : Value} (hx : Rv E w x v) (hy : Rv E w y u) (h : keyEq str x y = some true) (n : Nat) : Instr.sameBits n u v = true := by
  cases x <;> cases y <;> simp only [keyEq, reduceCtorEq] at h
  · have hx : v = _ := hx
    have hy : u = _ := hy
    subst hx; subst hy
    cases str
    · simp only [cond_false, Option.ite_none_right_eq_some, Option.some.injEq, beq_iff_eq] at h
      obtain ⟨rfl, rfl⟩ := h
      simp [Instr.sameBits]
    · simp at h
  · obtain ⟨s, rfl, hs⟩ := hx
    obtain ⟨s', rfl, hs'⟩ := hy
    cases str
    · simp at h
    · simp only [cond_true, Option.some.injEq] at h
      rw [← hs, ← hs', natsEq_iff] at h
      rw [bytes_beq] at h
      have h' : (s' == s) = true := by
        rw [← bytes_beq] at h ⊢
        rw [eq_of_beq h]; simp
      simp [Instr.sameBits, h']

theorem findA_sound {str : Bool} {d : TypeDesc} {k : AV} {vk : Value} (hd : keyDesc str d) (hk : Rv E w k vk) : ∀ (es : List (AV × AV)) (l : List MapEntry) (r : Option AV) (i : Nat), RvEs E w es l → findA str k es = some r →
    ∃ q, Instr.findNow d vk l i = some q ∧ (match r, q with | none, none => True | some v, some (_, u) => Rv E w v u | _, _ => False)
  | [], l, r, i, hl, h => by
    cases hl; simp only [findA, Option.some.injEq] at h; subst h
    exact ⟨none, rfl, trivial⟩
  | (x, v) :: es, _, r, i, ⟨e, l, rfl, h1, h2, h3⟩, h => by
    simp only [findA] at h
    cases hq : keyEq str k x with
    | none => simp [hq] at h
    | some b =>
      have hs := keyEq_sound hd hk h1 hq
      cases b with
      | true =>
        simp only [hq, Option.some.injEq] at h; subst h
        exact ⟨some (i, e.val), by simp [Instr.findNow, hs], h2⟩
      | false =>
        simp only [hq] at h
        obtain ⟨q, h4, h5⟩ := findA_sound hd hk es l r (i + 1) h3 h
        exact ⟨q, by simp [Instr.findNow, hs, h4], h5⟩

theorem run_checkKey {str : Bool} {d : TypeDesc} {kt : TypeId} {b : Bool} {v : Value} (hk : P.underlying kt = some d) (hd : keyDesc str d) : (Instr.checkKey b 10000 kt v).run P w = .ok () w := by
  have : ∀ n, (Instr.checkKey b (n + 1) kt v).run P w = .ok () w := fun n => by
    rcases hd with ⟨_, rfl⟩ | ⟨_, k, rfl⟩ <;> simp [Instr.checkKey, underlying, hk]
  exact this 9999

theorem lookupA_sound {t kt et : TypeId} {d : TypeDesc} {i : TypeInfo} {z : Value} {zero m k r : AV} {str ok : Bool} {vm vk : Value} (ht : P.underlying t = some (.map kt et)) (hk : P.underlying kt = some d) (hd : keyDesc str d)
    (hi : P.info? et = some i) (hz : i.zero = some z) (hzero : Rv E w zero z) (hs : Sat E st w) (hm : Rv E w m vm) (hkv : Rv E w k vk) (hr : lookupA str zero ok st m k = some r) :
    ∃ u, (Instr.lookup t vm vk ok).run P w = .ok u w ∧ Rv E w r u := by
  have two : ∀ (a b : AV) (va vb : Value), Rv E w a va → Rv E w b vb → Rv E w (.tuple [a, b]) (.tuple #[va, vb]) := fun a b va vb h1 h2 => ⟨#[va, vb], rfl, va, [vb], rfl, h1, vb, [], rfl, h2, rfl⟩
  cases m <;> simp only [lookupA, reduceCtorEq] at hr
  · have hm : vm = .map none := hm
    subst hm
    simp only [Option.some.injEq] at hr; subst hr
    refine ⟨if ok then .tuple #[z, .bool false] else z, ?_, ?_⟩
    · simp [Instr.lookup, underlying, ht, run_checkKey hk hd, Instr.findKey, hk, Instr.findNow, run_zeroValue' hi hz]
    · cases ok
      · exact hzero
      · exact two _ _ _ _ hzero rfl
  · obtain ⟨b, hb, rfl⟩ := hm
    rename_i id
    cases ho : st.get id with
    | none => simp [ho] at hr
    | some o =>
      cases o with
      | loop s => simp [ho] at hr
      | row _ => simp [ho] at hr
      | fro _ => simp [ho] at hr
      | map es =>
        simp only [ho] at hr
        obtain ⟨l, clock, h1, h2⟩ := hs.obj id _ b ho hb
        have hg : (getObj b).run P w = .ok (.map l clock) w := by simp [getObj, Sem.run, h1]
        cases hf : findA str k es with
        | none => simp [hf] at hr
        | some q =>
          simp only [hf, Option.map_some, Option.some.injEq] at hr; subst hr
          obtain ⟨q', h3, h4⟩ := findA_sound hd hkv es l.toList q 0 h2 hf
          cases q with
          | none =>
            cases q' with
            | some p => exact h4.elim
            | none =>
              refine ⟨if ok then .tuple #[z, .bool false] else z, ?_, ?_⟩
              · simp [Instr.lookup, underlying, ht, run_checkKey hk hd, Instr.findKey, hk, hg, h3, run_zeroValue' hi hz]
              · cases ok
                · exact hzero
                · exact two _ _ _ _ hzero rfl
          | some v =>
            cases q' with
            | none => exact h4.elim
            | some p =>
              obtain ⟨j, u⟩ := p
              refine ⟨if ok then .tuple #[u, .bool true] else u, ?_, ?_⟩
              · simp [Instr.lookup, underlying, ht, run_checkKey hk hd, Instr.findKey, hk, hg, h3]
              · cases ok
                · exact h4
                · exact two _ _ _ _ h4 rfl

theorem putA_sound {str : Bool} {d : TypeDesc} {k v : AV} {vk vv : Value} (hd : keyDesc str d) (hk : Rv E w k vk) (hv : Rv E w v vv) : ∀ (es es' : List (AV × AV)) (l : List MapEntry) (i : Nat), RvEs E w es l → putA str k v es = some es' →
    (Instr.findNow d vk l i = some none ∧ ∀ clock, RvEs E w es' (l ++ [{ key := vk, val := vv, born := clock }])) ∨
    (∃ j u old, Instr.findNow d vk l i = some (some (i + j, u)) ∧ l[j]? = some old ∧ Instr.sameBits 10000 old.key vk = true ∧ RvEs E w es' (l.set j { old with key := vk, val := vv }))
  | [], es', l, i, hl, h => by
    cases hl; simp only [putA, Option.some.injEq] at h; subst h
    exact .inl ⟨rfl, fun clock => ⟨_, _, rfl, hk, hv, rfl⟩⟩
  | (x, u) :: es, es', _, i, ⟨e, l, rfl, h1, h2, h3⟩, h => by
    simp only [putA] at h
    cases hq : keyEq str k x with
    | none => simp [hq] at h
    | some b =>
      have hs := keyEq_sound hd hk h1 hq
      cases b with
      | true =>
        simp only [hq, Option.some.injEq] at h; subst h
        exact .inr ⟨0, e.val, e, by simp [Instr.findNow, hs], rfl, sameBits_of hk h1 hq 10000, ⟨_, _, rfl, hk, hv, h3⟩⟩
      | false =>
        simp only [hq] at h
        cases hp : putA str k v es with
        | none => simp [hp] at h
        | some es1 =>
          simp only [hp, Option.map_some, Option.some.injEq] at h; subst h
          rcases putA_sound hd hk hv es es1 l (i + 1) h3 hp with ⟨h4, h5⟩ | ⟨j, u', old, h4, h5, h6, h7⟩
          · exact .inl ⟨by simp [Instr.findNow, hs, h4], fun clock => ⟨_, _, rfl, h1, h2, h5 clock⟩⟩
          · refine .inr ⟨j + 1, u', old, ?_, by simpa using h5, h6, ⟨_, _, rfl, h1, h2, h7⟩⟩
            simp only [Instr.findNow, hs, h4]
            rw [show i + 1 + j = i + (j + 1) by omega]

theorem mapupA_sound {t kt et : TypeId} {d : TypeDesc} {m k v : AV} {str : Bool} {vm vk vv : Value} {st' : St} (ht : P.underlying t = some (.map kt et)) (hk : P.underlying kt = some d) (hd : keyDesc str d)
    (hs : Sat E st w) (hm : Rv E w m vm) (hkv : Rv E w k vk) (hv : Rv E w v vv) (hr : mapupA str st m k v = some st') :
    ∃ w', (Instr.mapUpdate t vm vk vv).run P w = .ok () w' ∧ Sat E st' w' ∧ Ext E w E w' := by
  cases m <;> simp only [mapupA, reduceCtorEq] at hr
  obtain ⟨b, hb, rfl⟩ := hm
  rename_i id
  cases ho : st.get id with
  | none => simp [ho] at hr
  | some o =>
    cases o with
    | loop s => simp [ho] at hr
    | row _ => simp [ho] at hr
    | fro _ => simp [ho] at hr
    | map es =>
      simp only [ho] at hr
      obtain ⟨l, clock, h1, h2⟩ := hs.obj id _ b ho hb
      have hlt : b < w.heap.size := (Array.getElem?_eq_some_iff.1 h1).1
      have hg : (getObj b).run P w = .ok (.map l clock) w := by simp [getObj, Sem.run, h1]
      have hset : ∀ (l' : Array MapEntry) (c' : Nat), (setObj b (.map l' c')).run P w = .ok () { w with heap := w.heap.setIfInBounds b (.map l' c') } := fun l' c' => by simp [setObj, Sem.run, h1]
      have hsat : ∀ (l' : Array MapEntry) (c' : Nat) (es' : List (AV × AV)), RvEs E w es' l'.toList →
          Sat E (st.put id (.map es')) { w with heap := w.heap.setIfInBounds b (.map l' c') } ∧ Ext E w E { w with heap := w.heap.setIfInBounds b (.map l' c') } := fun l' c' es' he => by
        refine Sat.write hs id b (.map es) (.map es') ho rfl hb (fun j hj => ?_) (by simp) (fun s hs' => ?_) rfl rfl rfl rfl fun hx => ⟨l', c', by simp [hlt], RvEs.mono hx.toExt0 _ _ he⟩
        · show (w.heap.setIfInBounds b _)[j]? = _
          rw [Array.getElem?_setIfInBounds_ne (by omega)]
        · unfold World.shape? at hs'; rw [h1] at hs'; simp at hs'
      cases hp : putA str k v es with
      | none => simp [hp] at hr
      | some es' =>
        simp only [hp, Option.map_some, Option.some.injEq] at hr; subst hr
        rcases putA_sound hd hkv hv es es' l.toList 0 h2 hp with ⟨h4, h5⟩ | ⟨j, u, old, h4, h5, h6, h7⟩
        · obtain ⟨q1, q2⟩ := hsat (l.push { key := vk, val := vv, born := clock }) (clock + 1) es' (by simpa using h5 clock)
          refine ⟨_, ?_, q1, q2⟩
          simp [Instr.mapUpdate, underlying, ht, hg, run_checkKey hk hd, Instr.findKey, hk, h4, hset]
        · have h5' : l[j]? = some old := by simpa using h5
          have hj : j < l.size := (Array.getElem?_eq_some_iff.1 h5').1
          have hmod : (l.modify j fun e => { e with key := vk, val := vv }).toList = l.toList.set j { old with key := vk, val := vv } := by
            rw [Array.toList_modify]
            apply List.ext_getElem?
            intro q
            rw [List.getElem?_modify, List.getElem?_set]
            by_cases hq : j = q
            · subst hq; simp only [if_pos, h5, hj, Array.length_toList]; rfl
            · simp [hq]
          obtain ⟨q1, q2⟩ := hsat (l.modify j fun e => { e with key := vk, val := vv }) clock es' (by rw [hmod]; exact h7)
          refine ⟨_, ?_, q1, q2⟩
          simp [Instr.mapUpdate, underlying, ht, hg, run_checkKey hk hd, Instr.findKey, hk, h4, hset, h5', Instr.keyThatStays, h6]

end
end Go.AM
