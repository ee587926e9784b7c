import Derived.Test.YtphmjdnljmhipaaGreatDoorAmOp8
import Derived.Laws.MakeOwn
import Derived.Laws.IdiomStrings
import Derived.Laws.BytesString
import Derived.Lib.UnsafeStr
namespace Go.AM
section
variable {E : Env} {st : St} {w : World} {P : Program}
theorem zrep_length (zs : List AV) : ∀ n, (zrep zs n).length = n * zs.length
  | 0 => by simp [zrep]
  | n + 1 => by simp [zrep, zrep_length zs n, Nat.add_mul]; omega
theorem zrep_get (zs : List AV) : ∀ (n j : Nat), j < n * zs.length → (zrep zs n)[j]? = zs[j % zs.length]?
  | 0, j, h => by simp at h
  | n + 1, j, h => by
    simp only [zrep]
    by_cases hj : j < zs.length
    · rw [List.getElem?_append_left hj, Nat.mod_eq_of_lt hj]
    · rw [List.getElem?_append_right (by omega)]
      rw [Nat.add_mul, Nat.one_mul] at h
      rw [zrep_get zs n (j - zs.length) (by omega)]
      rw [show j % zs.length = (j - zs.length) % zs.length from Nat.mod_eq_sub_mod (by omega)]
theorem zrep_sound {zs : List AV} {z : Array Value} (hz : RvL E w zs z.toList) (n : Nat) : RvL E w (zrep zs n) (madeCells z (n * z.size)).toList := by
  have hl := hz.length
  simp only [Array.length_toList] at hl
  refine RvL.of_get (by rw [zrep_length, hl]; simp [madeCells]) fun j c v h1 h2 => ?_
  have hj : j < n * zs.length := by rw [← zrep_length]; exact (List.getElem?_eq_some_iff.1 h1).1
  rw [zrep_get zs n j hj] at h1
  obtain ⟨u, h3, h4⟩ := hz.get _ h1
  have hlt : j % zs.length < z.size := by rw [← hl]; exact (List.getElem?_eq_some_iff.1 h1).1
  have : v = u := by
    have hj' : j < n * z.size := by rw [← hl]; exact hj
    simp only [madeCells, Array.toList_map, Array.toList_range, List.getElem?_map, List.getElem?_range hj', Option.map_some, Option.some.injEq] at h2
    rw [← h2, ← hl, getElem!_pos z _ hlt]
    have h3' : z[j % zs.length]? = some u := by simpa using h3
    rw [Array.getElem?_eq_getElem hlt] at h3'
    injection h3'
  rw [this]; exact h4
theorem msliceA_sound {t e : TypeId} {i : TypeInfo} {z : Value} {zs : List AV} {l c r : AV} {vl vc : Value} {st' : St} (ht : P.underlying t = some (.slice e)) (hi : P.info? e = some i) (hz : i.zero = some z)
    (hzs : ∀ E w, RvL E w zs z.cells.toList) (hs : Sat E st w) (hl : Rv E w l vl) (hc : Rv E w c vc) (hr : msliceA i.bytes i.size zs st l c = some (r, st')) :
    ∃ q w' E', (Instr.makeSlice t vl vc).run P w = .ok q w' ∧ Ext E w E' w' ∧ Sat E' st' w' ∧ Rv E' w' r q := by
  unfold msliceA at hr
  split at hr <;> try (simp only [reduceCtorEq] at hr; done)
  rename_i kl nl kc nc
  have hl : vl = .int kl (nl : Int) := hl
  have hc : vc = .int kc (nc : Int) := hc
  subst hl; subst hc
  cases hcond : (nl.ble nc && (i.bytes * nc).ble 140737488355328 && nc.ble 140737488355328 && zs.length.beq i.size)
  · simp [hcond] at hr
  · simp only [hcond, cond_true, Option.some.injEq, Prod.mk.injEq] at hr
    obtain ⟨rfl, rfl⟩ := hr
    simp only [Bool.and_eq_true] at hcond
    have c1 := Nat.le_of_ble_eq_true hcond.1.1.1
    have c2 := Nat.le_of_ble_eq_true hcond.1.1.2
    have c3 := Nat.le_of_ble_eq_true hcond.1.2
    have c4 := Nat.eq_of_beq_eq_true hcond.2
    have hzl := (hzs E w).length
    simp only [Array.length_toList] at hzl
    have hb : (i.bytes : Int) * (nc : Int) ≤ 281474976710656 := by
      have h : ((i.bytes * nc : Nat) : Int) ≤ 281474976710656 := by omega
      rwa [Int.natCast_mul] at h
    have hrun := run_make (P := P) w t e i z ht hi hz kl kc nl nc (by omega) (by omega) hb (by omega)
    simp only [Int.toNat_natCast] at hrun
    have hsz : i.size = z.cells.size := by omega
    obtain ⟨h1, h2⟩ := hs.alloc (.cells (madeCells z.cells (nc * i.size)) e) (.row (zrep zs nc)) fun E' hx => ⟨⟨_, e, (0, 0), heap_alloc_at w _, by
        rw [zrep_length, size_madeCells, c4]; exact Nat.le_refl _, .inl rfl⟩,
      RvMem.new (by rw [hsz]; exact zrep_sound (hzs _ _) nc) (heap_alloc_at w _)⟩
    refine ⟨_, _, _, hrun, h2, h1, w.heap.size, nc, e, _, by simp [Env.link], rfl, c1, by simp, shape_alloc w _ e (0, 0), ?_, Nat.zero_le _⟩
    rw [size_madeCells]; simp
set_option maxHeartbeats 1000000 in
theorem appendz_fit {ts : Array TypeId} {t u ty e : TypeId} {ki k : IntKind} {i : TypeInfo} {z : Value} {base : Option Addr} {m n c : Nat} {w' : World}
    (ht0 : ts[0]? = some t) (ht : P.underlying t = some (.slice e)) (hi : P.info? e = some i) (hz : i.zero = some z) (hu0 : ts[1]? = some u) (hu : P.underlying u = some (.int ki))
    (hzs : z.cells.size = i.size) (hb : n * i.bytes ≤ 140737488355328) (hn : n ≤ 140737488355328) (hfit : m + n ≤ c)
    (hst : (match base with | some a => storeCells (a.add (m * i.size)) (madeCells z.cells (n * i.size)).toList | none => pure () : Sem Unit).run P w = .ok () w') :
    (Builtin.append_ ts ty #[.slice base m c, .int k (n : Int)]).run P w = .ok (.slice base (m + n) c) w' := by
  have wn : IntKind.i64.wrap (n : Int) = n := wrap_i64 (by omega) (by omega)
  have n1 : ¬ ((n : Int) < 0) := by omega
  have n2 : ¬ (281474976710656 < (n : Int) * (i.bytes : Int)) := by
    have h : ((n * i.bytes : Nat) : Int) ≤ 281474976710656 := by omega
    rw [Int.natCast_mul] at h; omega
  have hmade : Builtin.zeroCells z.cells n = madeCells z.cells (n * i.size) := by unfold Builtin.zeroCells madeCells; rw [hzs]
  by_cases h0 : n * i.size = 0
  · have hm0 : madeCells z.cells (n * i.size) = #[] := by rw [h0]; simp [madeCells]
    rw [hm0] at hst
    cases base with
    | none =>
      simp only [Sem.run_pure, Result.ok.injEq, true_and] at hst; subst hst
      simp [Builtin.append_, ht0, hu0, underlying, ht, hu, sizeOf, typeInfo, hi, asInt, asIntOf, wn, n1, n2, h0, hfit]
    | some a =>
      simp only at hst
      simp [Builtin.append_, ht0, hu0, underlying, ht, hu, sizeOf, typeInfo, hi, asInt, asIntOf, wn, n1, n2, h0, hfit, hst]
  · cases base with
    | none =>
      simp only [Sem.run_pure, Result.ok.injEq, true_and] at hst; subst hst
      simp [Builtin.append_, ht0, hu0, underlying, ht, hu, sizeOf, typeInfo, zeroValue, hz, hi, asInt, asIntOf, wn, n1, n2, h0, hfit]
    | some a =>
      simp only at hst
      simp [Builtin.append_, ht0, hu0, underlying, ht, hu, sizeOf, typeInfo, zeroValue, hz, hi, asInt, asIntOf, wn, n1, n2, h0, hfit, hmade, hst]
set_option maxHeartbeats 1000000 in
theorem appendz_grow {ts : Array TypeId} {t u ty e : TypeId} {ki k : IntKind} {i : TypeInfo} {z : Value} {base : Option Addr} {m n c : Nat} {old : Array Value}
    (ht0 : ts[0]? = some t) (ht : P.underlying t = some (.slice e)) (hi : P.info? e = some i) (hz : i.zero = some z) (hu0 : ts[1]? = some u) (hu : P.underlying u = some (.int ki))
    (hzs : z.cells.size = i.size) (hb : n * i.bytes ≤ 140737488355328) (hn : n ≤ 140737488355328) (hfo : (Builtin.firstCells i.size m (.slice base m c)).run P w.drew = .ok old w.drew)
    (hfit : ¬ (m + n ≤ c)) (h63 : ((m + n : Nat) : Int) ≤ 9223372036854775807) (h48 : Builtin.nextslicecap (m + n) c * i.bytes ≤ 281474976710656) :
    (Builtin.append_ ts ty #[.slice base m c, .int k (n : Int)]).run P w = .ok (.slice (some ⟨w.heap.size, 0, none⟩) (m + n) (grownCap w (m + n) c e))
      (w.drew.alloc (.cells (old ++ madeCells z.cells (n * i.size) ++ Builtin.zeroCells z.cells (grownCap w (m + n) c e - (m + n))) e)) := by
  have wn : IntKind.i64.wrap (n : Int) = n := wrap_i64 (by omega) (by omega)
  have n1 : ¬ ((n : Int) < 0) := by omega
  have n2 : ¬ (281474976710656 < (n : Int) * (i.bytes : Int)) := by
    have h : ((n * i.bytes : Nat) : Int) ≤ 281474976710656 := by omega
    rw [Int.natCast_mul] at h; omega
  have hmade : Builtin.zeroCells z.cells n = madeCells z.cells (n * i.size) := by unfold Builtin.zeroCells madeCells; rw [hzs]
  have h63' : ¬ (9223372036854775807 < ((m : Int) + (n : Int))) := by omega
  have h48' : ¬ (281474976710656 < Builtin.nextslicecap (m + n) c * i.bytes) := by omega
  have e63 : IntKind.i64.max = 9223372036854775807 := by decide
  by_cases h0 : n * i.size = 0
  · have hm0 : madeCells z.cells (n * i.size) = #[] := by rw [h0]; simp [madeCells]
    rw [hm0]
    simp [Builtin.append_, ht0, hu0, underlying, ht, hu, sizeOf, typeInfo, zeroValue, hz, hi, asInt, asIntOf, wn, n1, n2, h0, hfo, hfit, h63', h48', e63, Question.forced, newRow, grownCap]
  · simp [Builtin.append_, ht0, hu0, underlying, ht, hu, sizeOf, typeInfo, zeroValue, hz, hi, asInt, asIntOf, wn, n1, n2, h0, hmade, hfo, hfit, h63', h48', e63, Question.forced, newRow, grownCap]
theorem appendzA_sound {ts : Array TypeId} {t u ty e : TypeId} {ki : IntKind} {i : TypeInfo} {z : Value} {x k r : AV} {zs : List AV} {vx vk : Value} {st' : St}
    (ht0 : ts[0]? = some t) (ht : P.underlying t = some (.slice e)) (hi : P.info? e = some i) (hz : i.zero = some z) (hu0 : ts[1]? = some u) (hu : P.underlying u = some (.int ki))
    (hzs : ∀ E w, RvL E w zs z.cells.toList) (hs : Sat E st w) (hx : Rv E w x vx) (hk : Rv E w k vk) (hr : appendzA i.bytes i.size zs st x k = some (r, st')) :
    ∃ q w' E', (Builtin.append_ ts ty #[vx, vk]).run P w = .ok q w' ∧ Ext E w E' w' ∧ Sat E' st' w' ∧ Rv E' w' r q := by
  unfold appendzA at hr
  split at hr <;> try (simp only [reduceCtorEq] at hr; done)
  rename_i kk n
  have hk : vk = .int kk (n : Int) := hk
  subst hk
  cases hcond : ((n * i.bytes).ble 140737488355328 && n.ble 140737488355328 && zs.length.beq i.size)
  · simp [hcond] at hr
  · simp only [hcond, cond_true] at hr
    simp only [Bool.and_eq_true] at hcond
    have c1 := Nat.le_of_ble_eq_true hcond.1.1
    have c2 := Nat.le_of_ble_eq_true hcond.1.2
    have c3 := Nat.eq_of_beq_eq_true hcond.2
    have hzl := (hzs E w).length
    simp only [Array.length_toList] at hzl
    have hsz : z.cells.size = i.size := by omega
    obtain ⟨q, w', E', k1, k2, k3, k4, _⟩ := appendA_core (S := fun v => Builtin.append_ ts ty #[v, .int kk (n : Int)]) hsz hs hx
      (fun base m c w' hfit hst => appendz_fit (P := P) (ty := ty) ht0 ht hi hz hu0 hu hsz c1 c2 hfit hst)
      (fun base m c ovs hfit h63 h48 hfo => by
        have := appendz_grow (P := P) (w := w) (ty := ty) (k := kk) ht0 ht hi hz hu0 hu hsz c1 c2 hfo hfit h63 h48
        simpa using this)
      (by have := zrep_sound (E := E) (w := w) (hzs E w) n; rw [hsz] at this; exact this) (by simp [madeCells]) hr
    exact ⟨q, w', E', k1, k2, k3, k4⟩
theorem content_take {sz n : Nat} {x : AV} {ys : List AV} {v : Value} (hs : Sat E st w) (hx : Rv E w x v) (hns : isStr x = false) (hc : contentA sz st x = some (n, ys)) (k : Nat) (hk : k ≤ n) :
    ∃ vs : List Value, (Builtin.lenOf v).run P w = .ok n w ∧ (Builtin.firstCells sz k v).run P w = .ok vs.toArray w ∧ RvL E w (ys.take (k * sz)) vs ∧ vs.length = k * sz := by
  have hkn : k * sz ≤ n * sz := Nat.mul_le_mul_right _ hk
  have mem : ∀ (a : Addr) (c : Nat) (ds : List AV), v = .slice (some a) n c → RvMem E w a 0 ds → ds.length = n * sz → ds = ys →
      ∃ vs : List Value, (Builtin.lenOf v).run P w = .ok n w ∧ (Builtin.firstCells sz k v).run P w = .ok vs.toArray w ∧ RvL E w (ys.take (k * sz)) vs ∧ vs.length = k * sz := fun a c ds hv hm hl he => by
    subst hv; subst he
    obtain ⟨vs, h1, h2⟩ := (hm.take (k * sz)).vals
    have hlen : vs.length = k * sz := by rw [← h1.length, List.length_take]; omega
    refine ⟨vs, rfl, ?_, h1, hlen⟩
    have := loadCells_heap (P := P) (w := w) rfl h2
    rw [hlen] at this
    simpa [Builtin.firstCells] using this
  cases x <;> simp only [contentA, reduceCtorEq] at hc
  · simp [isStr] at hns
  · have hx : v = .slice none 0 0 := hx
    subst hx
    simp only [Option.some.injEq, Prod.mk.injEq] at hc
    obtain ⟨rfl, rfl⟩ := hc
    obtain rfl : k = 0 := by omega
    exact ⟨[], rfl, by simp [Builtin.firstCells], by simp [RvL], by simp⟩
  · rename_i m cs ex
    obtain ⟨a, cap, rfl, h1, h2, h3, h4⟩ := hx
    cases hb : (m * sz).ble cs.length
    · simp [hb] at hc
    · simp only [hb, cond_true, Option.some.injEq, Prod.mk.injEq] at hc
      obtain ⟨rfl, rfl⟩ := hc
      have := Nat.le_of_ble_eq_true hb
      exact mem a cap _ rfl (h4.take _) (by simp; omega) rfl
  · rename_i id off m s cap lo
    obtain ⟨b, c, e', mm, h0, rfl, h1, h2, h3, h4⟩ := hx
    cases ho : st.get id with
    | none => simp [ho] at hc
    | some o =>
      have key : ∀ cs, st.get id = some (.row cs) ∨ st.get id = some (.fro cs) → (bif s.beq sz && (off + m * sz).ble cs.length then some (m, (cs.drop off).take (m * sz)) else none) = some (n, ys) →
          ∃ vs : List Value, (Builtin.lenOf (.slice (some ⟨b, off, none⟩) m c)).run P w = .ok n w ∧ (Builtin.firstCells sz k (.slice (some ⟨b, off, none⟩) m c)).run P w = .ok vs.toArray w ∧ RvL E w (ys.take (k * sz)) vs ∧ vs.length = k * sz := fun cs hg hc => by
        cases hb : s.beq sz && (off + m * sz).ble cs.length
        · simp [hb] at hc
        · simp only [hb, cond_true, Option.some.injEq, Prod.mk.injEq] at hc
          obtain ⟨rfl, rfl⟩ := hc
          simp only [Bool.and_eq_true] at hb
          have := Nat.le_of_ble_eq_true hb.2
          exact mem ⟨b, off, none⟩ c _ rfl ((row_at hs h0 hg).take _) (by simp; omega) rfl
      cases o with
      | loop s => simp [ho] at hc
      | row cs => simp only [ho] at hc; exact key cs (.inl ho) hc
      | fro cs => simp only [ho] at hc; exact key cs (.inr ho) hc
      | map es => simp [ho] at hc
theorem copyA_sound {ts : Array TypeId} {t ty e : TypeId} {i : TypeInfo} {x y r : AV} {vx vy : Value} {st' : St} (ht0 : ts[0]? = some t) (ht : P.underlying t = some (.slice e)) (hi : P.info? e = some i)
    (hs : Sat E st w) (hx : Rv E w x vx) (hy : Rv E w y vy) (hr : copyA i.size st x y = some (r, st')) :
    ∃ q w' E', (Builtin.copy_ ts ty #[vx, vy]).run P w = .ok q w' ∧ Ext E w E' w' ∧ Sat E' st' w' ∧ Rv E' w' r q := by
  unfold copyA at hr
  cases hstr : isStr y
  · simp only [hstr, cond_false, Option.bind_eq_some_iff] at hr
    obtain ⟨⟨n, ys⟩, hcont, hr⟩ := hr
    cases x <;> try (simp only [reduceCtorEq] at hr; done)
    rename_i id off m s cap lo
    obtain ⟨b, c, e', mm, h0, rfl, h1, h2, h3, h4⟩ := hx
    simp only at hr
    cases ho : st.get id with
    | none => simp [ho] at hr
    | some o =>
      cases o with
      | loop s => simp [ho] at hr
      | fro cs => simp [ho] at hr
      | map es => simp [ho] at hr
      | row cs =>
        simp only [ho] at hr
        cases hcond : (s.beq i.size && (off + Nat.min n m * i.size).ble cs.length && (ys.take (Nat.min n m * i.size)).all AV.one)
        · simp [hcond] at hr
        · simp only [hcond, cond_true, Option.some.injEq, Prod.mk.injEq] at hr
          obtain ⟨rfl, rfl⟩ := hr
          simp only [Bool.and_eq_true] at hcond
          have c2 := Nat.le_of_ble_eq_true hcond.1.2
          obtain ⟨vs, k1, k2, k3, k4⟩ := content_take (P := P) hs hy hstr hcont (Nat.min n m) (Nat.min_le_left _ _)
          have hlen : (ys.take (Nat.min n m * i.size)).length = Nat.min n m * i.size := by rw [k3.length]; exact k4
          obtain ⟨w', r1, r2, r3⟩ := write_row (P := P) (off := off) hs ho h0 k3 (by omega) (k3.one hcond.2)
          refine ⟨goInt (Nat.min n m : Nat), w', E, ?_, r3, r2, rfl⟩
          simp only [Builtin.copy_, ht0, List.getElem?_toArray, List.getElem?_cons_zero, List.getElem?_cons_succ, Sem.run_bind, underlying, run_program, Result.andThen, ht, Sem.run_pure, run_sizeOf' hi, k1, k2, r1]
  · simp [hstr] at hr
end
end Go.AM
namespace Go.AM
section
variable {E : Env} {st : St} {w : World} {P : Program}
theorem s2bA_sound {s t e : TypeId} {x r : AV} {v : Value} {st' : St} (hs' : P.underlying s = some .string) (ht : P.underlying t = some (.slice e)) (he : P.underlying e = some (.int .u8))
    (hs : Sat E st w) (hx : Rv E w x v) (hr : s2bA st x = some (r, st')) : ∃ q w' E', (convert s t v).run P w = .ok q w' ∧ Ext E w E' w' ∧ Sat E' st' w' ∧ Rv E' w' r q := by
  cases x <;> simp only [s2bA, reduceCtorEq] at hr
  rename_i l
  obtain ⟨b, rfl, hl⟩ := hx
  simp only [Option.some.injEq, Prod.mk.injEq] at hr
  obtain ⟨rfl, rfl⟩ := hr
  have hrun := run_bytes_of_string (P := P) w s t e b hs' ht he
  have hlen : l.length = b.size := by rw [← hl]; simp
  have hcap := grownCap_ge w b.size 0 e
  have hsz : (bytesRow b (grownCap w b.size 0 e)).size = grownCap w b.size 0 e := by
    have : b.data.size = b.size := rfl
    simp [bytesRow, this]; omega
  obtain ⟨hs1, hx1⟩ := hs.drew
  have hv : RvL E w (l.map fun b => AV.int .u8 (.ofNat b)) (b.data.toList.map fun c => Value.int .u8 c.toNat) := by
    rw [← hl, List.map_map]
    exact RvL.of_get (by simp) fun j c v h1 h2 => by
      simp only [List.getElem?_map] at h1 h2
      cases hj : b.data.toList[j]? with
      | none => simp [hj] at h1
      | some q =>
        simp only [hj, Option.map_some, Option.some.injEq, Function.comp] at h1 h2
        subst h1; subst h2; rfl
  obtain ⟨hs2, hx2⟩ := hs1.alloc (.cells (bytesRow b (grownCap w b.size 0 e)) e ((bytesRow b (grownCap w b.size 0 e)).size, (bytesRow b (grownCap w b.size 0 e)).size + 1)) (.row (l.map fun b => .int .u8 (.ofNat b)))
    fun E' hx' => ⟨⟨_, e, _, heap_alloc_at w.drew _, by rw [hsz, List.length_map, hlen]; exact hcap, .inr (Nat.le_refl _)⟩,
      RvMem.new_prefix (RvL.mono (hx1.trans hx') _ _ hv) (heap_alloc_at w.drew _) fun j v hj => by
        have hlt := (List.getElem?_eq_some_iff.1 hj).1
        simp only [List.length_map, Array.length_toList] at hlt
        unfold bytesRow
        rw [Array.getElem?_append_left (by simpa using hlt)]
        simpa using hj⟩
  refine ⟨_, _, _, hrun, hx1.trans hx2, hs2, w.heap.size, grownCap w b.size 0 e, e, _, by simp [Env.link], by rw [hlen], by rw [hlen]; exact hcap, by simp, shape_alloc w.drew _ e _, ?_, by rw [hlen]; exact hcap⟩
  rw [hsz]; simp
theorem foldl_push (ns : List Int) : ∀ (s : ByteArray), (ns.foldl (fun r n => r.push (UInt8.ofNat n.toNat)) s).data.toList = s.data.toList ++ ns.map fun n => UInt8.ofNat n.toNat := by
  induction ns with
  | nil => intro s; simp
  | cons n ns ih =>
    intro s
    rw [List.foldl_cons, ih]
    have : (s.push (UInt8.ofNat n.toNat)).data.toList = s.data.toList ++ [UInt8.ofNat n.toNat] := by
      cases s; simp [ByteArray.push]
    rw [this]; simp
theorem bytesA_sound : ∀ {ys : List AV} {vs : List Value} {l : List Nat}, RvL E w ys vs → bytesA ys = some l → vs = (l.map fun (b : Nat) => (b : Int)).map (Value.int .u8) ∧ ∀ b ∈ l, b < 256
  | [], vs, l, hv, h => by
    cases hv; simp only [bytesA, Option.some.injEq] at h; subst h; simp
  | y :: ys, _, l, ⟨x, xs, rfl, h1, h2⟩, h => by
    simp only [bytesA, Option.bind_eq_some_iff, Option.map_eq_some_iff] at h
    obtain ⟨b, hb, l', hl, rfl⟩ := h
    obtain ⟨h3, h4⟩ := bytesA_sound h2 hl
    unfold byteA at hb
    split at hb <;> try (simp only [reduceCtorEq] at hb; done)
    rename_i c
    cases hc : (c + 1).ble 256
    · simp [hc] at hb
    · simp only [hc, cond_true, Option.some.injEq] at hb; subst hb
      have h1 : x = .int .u8 (c : Int) := h1
      subst h1; subst h3
      have := Nat.le_of_ble_eq_true hc
      refine ⟨rfl, fun b hb => ?_⟩
      rcases List.mem_cons.1 hb with rfl | hb
      · omega
      · exact h4 b hb
theorem b2sA_sound {s t e : TypeId} {x r : AV} {v : Value} (hs' : P.underlying s = some (.slice e)) (ht : P.underlying t = some .string) (he : P.underlying e = some (.int .u8))
    (hs : Sat E st w) (hx : Rv E w x v) (hr : b2sA st x = some r) : ∃ u, (convert s t v).run P w = .ok u w ∧ Rv E w r u := by
  unfold b2sA at hr
  cases hstr : isStr x
  · simp only [hstr, cond_false, Option.bind_eq_some_iff, Option.map_eq_some_iff] at hr
    obtain ⟨⟨n, ys⟩, hc, l, hl, rfl⟩ := hr
    obtain ⟨vs, k1, k2, k3, k4⟩ := contentA_sound (P := P) hs hx hc
    obtain ⟨h3, h4⟩ := bytesA_sound k3 hl
    have fin : ∀ (b : ByteArray), b.data.toList = l.map (fun (n : Nat) => UInt8.ofNat n) → Rv E w (.str l) (.string b) := fun b hb => by
      refine ⟨b, rfl, ?_⟩
      rw [hb, List.map_map]
      have : ∀ q ∈ l, ((fun x : UInt8 => x.toNat) ∘ fun n => UInt8.ofNat n) q = q := fun q hq => by
        simp [Nat.mod_eq_of_lt (h4 q hq)]
      rw [List.map_congr_left this]; simp
    have slice : ∀ (a : Option Addr) (m c : Nat), v = .slice a m c → m = n → ∃ u, (convert s t v).run P w = .ok u w ∧ Rv E w (.str l) u := fun a m c hv hm => by
      subst hv; subst hm
      rw [run_convert_bytes_string (P := P) w s t e a m c hs' he ht]
      cases a with
      | none =>
        have := k2 w rfl
        simp [Builtin.firstCells] at this
        have hnil : vs = [] := by simpa using this.symm
        subst hnil
        have : l = [] := by
          cases l with
          | nil => rfl
          | cons _ _ => simp at h3
        subst this
        exact ⟨.string .empty, by simp [Conv.bytesToString], fin _ (by simp)⟩
      | some a =>
        have h5 := k2 w rfl
        simp only [Builtin.firstCells, Nat.mul_one] at h5
        rw [h3] at h5
        refine ⟨_, run_bytesToString (P := P) w a m c _ h5, fin _ ?_⟩
        rw [foldl_push]
        simp [List.map_map, Function.comp]
    have k1' := k1 w
    cases x <;> simp only [contentA, reduceCtorEq] at hc
    · simp [isStr] at hstr
    · have hx : v = .slice none 0 0 := hx
      simp only [Option.some.injEq, Prod.mk.injEq] at hc
      exact slice _ _ _ hx hc.1
    · obtain ⟨a, cap, hv, _⟩ := hx
      subst hv
      simp only [Builtin.lenOf, Sem.run_pure, Result.ok.injEq] at k1'
      exact slice _ _ _ rfl k1'.1
    · obtain ⟨b, c, e', mm, h0, hv, _⟩ := hx
      subst hv
      simp only [Builtin.lenOf, Sem.run_pure, Result.ok.injEq] at k1'
      exact slice _ _ _ rfl k1'.1
  · simp [hstr] at hr
end
end Go.AM
namespace Go.AM
section
variable {E : Env} {st : St} {w : World} {P : Program}
theorem eqPtrA_sound {op : BinOp} {x y r : AV} {vx vy : Value} {t : TypeId} {d : TypeDesc} {c : Nat} {X Y : Operand} (hd : P.underlying t = some d) (hc : nilClass d = some c)
    (hop : op = .eql ∨ op = .neq) (hz : ∀ q, d = .pointer q → ∃ i, P.info? q = some i ∧ i.size ≠ 0) (hx : Rv E w x vx) (hy : Rv E w y vy) (hr : eqPtrA c op x y = some r) : ∃ u, (do eqGuard op t X Y vx vy; binOp op t vx vy : Sem Value).run P w = .ok u w ∧ Rv E w r u := by
  unfold eqPtrA at hr
  split at hr <;> try (simp only [reduceCtorEq] at hr; done)
  rename_i i n j m
  cases hcond : (c.beq 0 && i.beq j)
  · simp [hcond] at hr
  · simp only [hcond, cond_true] at hr
    simp only [Bool.and_eq_true] at hcond
    have h0 := Nat.eq_of_beq_eq_true hcond.1
    have hij := Nat.eq_of_beq_eq_true hcond.2
    subst h0; subst hij
    obtain ⟨b, hb, rfl⟩ := hx
    obtain ⟨b', hb', rfl⟩ := hy
    rw [hb] at hb'; injection hb' with hb'; subst hb'
    have hg : (eqGuard op t X Y (.pointer (some ⟨b, n, none⟩)) (.pointer (some ⟨b, m, none⟩))).run P w = .ok () w := by
      unfold eqGuard
      rcases hop with rfl | rfl <;> simp
    have hq' : ∀ k, (Op.equalIn (k + 1) t (.pointer (some ⟨b, n, none⟩)) (.pointer (some ⟨b, m, none⟩))).run P w = .ok (n.beq m == true) w := fun k => by
      simp only [Op.equalIn, underlying, Sem.run_bind, run_program, Result.andThen, hd]
      cases d <;> simp [nilClass] at hc
      rename_i q
      obtain ⟨i', hi, h0⟩ := hz q rfl
      have hsz : (sizeOf q).run P w = .ok i'.size w := run_sizeOf' hi
      by_cases hnm : n = m
      · subst hnm; simp [hsz, h0, sameAddr]
      · have hb : n.beq m = false := by
          cases h : n.beq m
          · rfl
          · exact absurd (Nat.eq_of_beq_eq_true h) hnm
        have ha : ((⟨b, n, none⟩ : Addr) == ⟨b, m, none⟩) = false := by
          rw [beq_eq_false_iff_ne]
          intro h; injection h with _ h; exact hnm h
        rw [hb]
        simp [hsz, h0, sameAddr, ha]
    have hq : (Op.equal t (.pointer (some ⟨b, n, none⟩)) (.pointer (some ⟨b, m, none⟩))).run P w = .ok (n.beq m == true) w := hq' 9999
    simp only [Sem.run_bind, hg, Result.andThen]
    exact boolBin_sound hr hq (fun h => by subst h; rfl) (fun h => by subst h; rfl)
theorem row_shape (hs : Sat E st w) {id b : Nat} {cs : List AV} (hb : E.β id = some b) (hg : st.get id = some (.row cs)) : ∃ c e f, w.heap[b]? = some (.cells c e f) ∧ w.shape? b = some (e, c.size) ∧ cs.length ≤ c.size := by
  obtain ⟨⟨c, e, f, h1, h2, _⟩, _⟩ := hs.obj id _ b hg hb
  exact ⟨c, e, f, h1, by unfold World.shape?; rw [h1], h2⟩
theorem run_seenAt {b off : Nat} {s : TypeId × Nat} (h : w.shape? b = some s) : (Conv.seenAt ⟨b, off, none⟩).run P w = .ok ⟨b, off, none⟩ w := by
  simp [Conv.seenAt, viewAt, shape, Sem.run, h]
theorem run_variablesAt {b off n s m : Nat} {u : TypeId} (h : w.shape? b = some (u, m)) (hs : P.cellsOf u = s) (h0 : s ≠ 0) (h1 : off % s = 0) (h2 : off / s + n ≤ m / s) : (variablesAt ⟨b, off, none⟩ u n).run P w = .ok true w := by
  have hl : liesAt P P.depth u (m / P.cellsOf u) off u n = true := by
    have hdep : ∃ d, P.depth = d + 1 := ⟨2 * (P.types.size + Made.depth) + 1, rfl⟩
    obtain ⟨d, hd⟩ := hdep
    have hsame : sameLayout P P.depth u u = true := by rw [hd]; simp [sameLayout]
    rw [hd, liesAt, hd, rowAt]
    rw [hd] at hsame
    simp [hs, h0, h1, h2, hsame]
  simp [variablesAt, shape, Sem.run, h, hl]
theorem ptouA_sound {s t q : TypeId} {x r : AV} {v : Value} {i : TypeInfo} (hs' : P.underlying s = some (.pointer q)) (ht : P.underlying t = some .unsafePointer) (hi : P.info? q = some i) (h0 : i.size ≠ 0)
    (hs : Sat E st w) (hx : Rv E w x v) (hr : ptouA st x = some r) : ∃ u, (convert s t v).run P w = .ok u w ∧ Rv E w r u := by
  unfold ptouA at hr
  split at hr <;> try (simp only [reduceCtorEq] at hr; done)
  · simp only [Option.some.injEq] at hr; subst hr
    have hx : v = .pointer none := hx
    subst hx
    exact ⟨_, by simp [convert, underlying, hs', ht, Conv.unsafePointer], rfl⟩
  · rename_i id off
    split at hr <;> try (simp only [reduceCtorEq] at hr; done)
    rename_i cs hg
    cases hc : (off + 1).ble cs.length
    · simp [hc] at hr
    · simp only [hc, cond_true, Option.some.injEq] at hr; subst hr
      have hc := Nat.le_of_ble_eq_true hc
      have hx0 := hx
      obtain ⟨b, hb, rfl⟩ := hx
      obtain ⟨c, e, f, h1, h2, h3⟩ := row_shape hs hb hg
      have hcell : (cellsIn b).run P w = .ok (some c.size) w := by simp [cellsIn, shape, Sem.run, h2]
      have hsz : (sizeOf q).run P w = .ok i.size w := run_sizeOf' hi
      have hlt : ¬ (c.size ≤ off) := by omega
      refine ⟨.pointer (some ⟨b, off, none⟩), ?_, hx0⟩
      simp [convert, underlying, hs', ht, Conv.unsafePointer, run_seenAt h2, hcell, hsz, h0, hlt]
theorem utopA_sound {s t u : TypeId} {x r : AV} {v : Value} {i : TypeInfo} (hs' : P.underlying s = some .unsafePointer) (ht : P.underlying t = some (.pointer u)) (hi : P.info? u = some i) (h0 : i.size ≠ 0)
    (hs : Sat E st w) (hx : Rv E w x v) (hr : utopA u i.size st x = some r) : ∃ q, (convert s t v).run P w = .ok q w ∧ Rv E w r q := by
  unfold utopA at hr
  split at hr <;> try (simp only [reduceCtorEq] at hr; done)
  · simp only [Option.some.injEq] at hr; subst hr
    have hx : v = .pointer none := hx
    subst hx
    exact ⟨_, by simp [convert, underlying, hs', ht, Conv.unsafePointer], rfl⟩
  · rename_i id off
    split at hr <;> try (simp only [reduceCtorEq] at hr; done)
    rename_i cs t' hg hbt
    cases hc : (t'.beq u && (off.mod i.size).beq 0 && (off.div i.size + 1).ble (cs.length.div i.size))
    · simp [hc] at hr
    · simp only [hc, cond_true, Option.some.injEq] at hr; subst hr
      simp only [Bool.and_eq_true] at hc
      have e1 := Nat.eq_of_beq_eq_true hc.1.1
      have e2 : off % i.size = 0 := Nat.eq_of_beq_eq_true hc.1.2
      have e3 : off / i.size + 1 ≤ cs.length / i.size := Nat.le_of_ble_eq_true hc.2
      subst e1
      have hx0 := hx
      obtain ⟨b, hb, rfl⟩ := hx
      obtain ⟨c, e, f, h1, h2, h3⟩ := row_shape hs hb hg
      obtain ⟨b', m, h4, h5⟩ := hs.bt id _ hbt
      rw [hb] at h4; injection h4 with h4; subst h4
      rw [h2] at h5; injection h5 with h5; injection h5 with h5 h6; subst h5
      have hcells : P.cellsOf e = i.size := by simp [Program.cellsOf, hi]
      have hle : cs.length / i.size ≤ c.size / i.size := Nat.div_le_div_right h3
      have hv := run_variablesAt (P := P) (n := 1) h2 hcells h0 e2 (by omega)
      have hsz : (sizeOf e).run P w = .ok i.size w := run_sizeOf' hi
      refine ⟨.pointer (some ⟨b, off, none⟩), ?_, hx0⟩
      simp [convert, underlying, hs', ht, Conv.unsafePointer, run_seenAt h2, hsz, h0, hv]
theorem sdatA_sound {ts : Array TypeId} {ty : TypeId} {x r : AV} {v : Value} (hx : Rv E w x v) (hr : sdatA x = some r) : ∃ q, (Builtin.unsafeSliceData_ ts ty #[v]).run P w = .ok q w ∧ Rv E w r q := by
  unfold sdatA at hr
  split at hr <;> try (simp only [reduceCtorEq] at hr; done)
  · simp only [Option.some.injEq] at hr; subst hr
    have hx : v = .slice none 0 0 := hx
    subst hx
    exact ⟨_, Lib.run_unsafeSliceData_nil w ts ty 0 0, rfl⟩
  · rename_i id off n sz cap lo
    cases hn : n.beq 0
    · simp only [hn, cond_false, Option.some.injEq] at hr; subst hr
      obtain ⟨b, c, e, m, hb, rfl, h1, _⟩ := hx
      have hc : c ≠ 0 := by
        rintro rfl
        have : n = 0 := by omega
        subst this; simp at hn
      exact ⟨.pointer (some ⟨b, off, none⟩), Lib.run_unsafeSliceData_row w ts ty _ n c hc, b, hb, rfl⟩
    · simp [hn] at hr
theorem Sat.forget {w' : World} (h : Sat E st w) {id b : Nat} {o : AO} (hg : st.get id = some o) (hl : o.live = true) (hb : E.β id = some b) (hoth : ∀ k, k ≠ b → w'.heap[k]? = w.heap[k]?) (hsize : w'.heap.size = w.heap.size)
    (hshape : ∀ s, w.shape? b = some s → w'.shape? b = some s) (hos : w'.os = w.os) (htape : w'.tape = w.tape) (hout : w'.output = w.output) : Sat E (st.del id) w' ∧ Ext E w E w' := by
  have hx : Ext E w E w' := ⟨⟨fun _ _ h => h, fun _ h => h, fun k hk => hoth k (by rintro rfl; exact h.lv id o _ hg hl hb hk), by omega, fun k s hs => by
    by_cases hk : k = b
    · subst hk; exact hshape s hs
    · rw [shape_of_heap (hoth k hk)]; exact hs, hos, htape, hout, fun _ _ => rfl⟩, fun _ h => h, fun _ h => h⟩
  have key : ∀ i o, (st.del id).get i = some o → i ≠ id ∧ st.get i = some o := fun i o h1 => by
    rw [St.get_del] at h1
    by_cases hi : i = id
    · rw [if_pos hi] at h1; cases h1
    · rw [if_neg hi] at h1; exact ⟨hi, h1⟩
  refine ⟨⟨fun i c hc => ?_, fun c hc => ?_, fun i o1 c h1 h2 => ?_, fun i i' o1 o2 c h1 h2 => h.sep i i' o1 o2 c (key _ _ h1).2 (key _ _ h2).2, fun i o1 c h1 => h.lv i o1 c (key _ _ h1).2, h.rs, fun c hc => ?_, BtOk.mono h.bt hx.toExt0 rfl⟩, hx⟩
  · have := h.dom i c hc; rw [hsize]; exact this
  · have := h.fz c hc; omega
  · obtain ⟨hi, h1⟩ := key _ _ h1
    have h3 := h.obj i o1 c h1 h2
    refine ObjR.mono hx (hoth c ?_) h3
    rintro rfl
    cases o1 with
    | fro cs => exact h.lv id o c hg hl hb h3.1
    | row cs => exact hi (h.sep i id _ _ _ h1 hg rfl hl h2 hb)
    | map es => exact hi (h.sep i id _ _ _ h1 hg rfl hl h2 hb)
    | loop s => exact hi (h.sep i id _ _ _ h1 hg rfl hl h2 hb)
  · obtain ⟨h1, h2⟩ := h.dz c hc
    refine ⟨?_, h2⟩
    rw [hoth c]
    · exact h1
    · rintro rfl
      have h3 := h.obj id o c hg hb
      cases o with
      | fro cs => cases hl
      | row cs => obtain ⟨⟨_, _, _, h4, _⟩, _⟩ := h3; rw [h1] at h4; cases h4
      | map es => obtain ⟨_, _, h4, _⟩ := h3; rw [h1] at h4; cases h4
      | loop s => obtain ⟨_, h4, _⟩ := h3; rw [h1] at h4; cases h4
theorem run_loadBytes : ∀ (ys : List AV) (l : List Nat) (a : Addr) (acc : ByteArray), RvMem E w a 0 ys → bytesA ys = some l → ∃ b : ByteArray, (loadBytes a acc ys.length).run P w = .ok b w ∧ b.data.toList.map (·.toNat) = acc.data.toList.map (·.toNat) ++ l
  | [], l, a, acc, _, h => by
    simp only [bytesA, Option.some.injEq] at h; subst h
    exact ⟨acc, by simp [loadBytes], by simp⟩
  | y :: ys, l, a, acc, ⟨⟨x, h1, h2⟩, h3⟩, h => by
    simp only [bytesA, Option.bind_eq_some_iff, Option.map_eq_some_iff] at h
    obtain ⟨b, hb, l', hl, rfl⟩ := h
    unfold byteA at hb
    split at hb <;> try (simp only [reduceCtorEq] at hb; done)
    rename_i c
    cases hc : (c + 1).ble 256
    · simp [hc] at hb
    · simp only [hc, cond_true, Option.some.injEq] at hb; subst hb
      have hx : x = .int .u8 (c : Int) := h2
      subst hx
      have hc := Nat.le_of_ble_eq_true hc
      have ha0 : a.add 0 = a := by unfold Addr.add; simp
      rw [ha0] at h1
      have hmem : RvMem E w (a.add 1) 0 ys := RvMem.of_get fun j d hd => by
        obtain ⟨v, h4, h5⟩ := h3.get j hd
        exact ⟨v, by rw [add_add]; rw [show 1 + (0 + j) = 0 + 1 + j by omega]; exact h4, h5⟩
      obtain ⟨bs, h4, h5⟩ := run_loadBytes ys l' (a.add 1) (acc.push (UInt8.ofNat c)) hmem hl
      refine ⟨bs, ?_, ?_⟩
      · simp only [List.length_cons, loadBytes, Sem.run_bind]
        have hload : (load a).run P w = .ok (.int .u8 (c : Int)) w := by simp [load, Sem.run, h1]
        rw [hload]
        simp only [Result.andThen]
        simpa [Nat.toUInt8] using h4
      · rw [h5]
        have : (acc.push (UInt8.ofNat c)).data.toList = acc.data.toList ++ [UInt8.ofNat c] := by cases acc; simp [ByteArray.push]
        rw [this]
        simp [Nat.mod_eq_of_lt (show c < 256 by omega)]
theorem unsafeString_def (ts : Array TypeId) (ty : TypeId) (p : Option Addr) (vn : Value) : Builtin.unsafeString_ ts ty #[.pointer p, vn] = (do
    let n ← asInt vn
    let some pt := ts[0]? | stuck "unsafe.String: no argument types"
    if n < 0 then runtimePanic (.error "unsafe.String: len out of range")
    if n > IntKind.i64.max then unsupported (.unsafePointer "String: a length above the largest int")
    match p with
    | none =>
      if n = 0 then pure (.string .empty)
      else runtimePanic (.error "unsafe.String: ptr is nil and len is not zero")
    | some a =>
      if n = 0 then pure (.string .empty)
      else if ← variablesAt a (← elemOf pt) n.toNat then do
        let s ← loadBytes a .empty n.toNat
        freeze a n.toNat
        pure (.string s)
      else unsupported (.unsafePointer "String: not so many bytes at ptr")) := by
  cases p <;> rfl
theorem ustrA_sound {ts : Array TypeId} {pt ty u : TypeId} {x n r : AV} {vx vn : Value} {st' : St} {i : TypeInfo} (ht0 : ts[0]? = some pt) (hpt : P.underlying pt = some (.pointer u)) (hi : P.info? u = some i) (h1 : i.size = 1)
    (hs : Sat E st w) (hx : Rv E w x vx) (hn : Rv E w n vn) (hr : ustrA u st x n = some (r, st')) : ∃ q w' E', (Builtin.unsafeString_ ts ty #[vx, vn]).run P w = .ok q w' ∧ Ext E w E' w' ∧ Sat E' st' w' ∧ Rv E' w' r q := by
  unfold ustrA at hr
  split at hr <;> try (simp only [reduceCtorEq] at hr; done)
  · rename_i k
    simp only [Option.some.injEq, Prod.mk.injEq] at hr
    obtain ⟨rfl, rfl⟩ := hr
    have hx : vx = .pointer none := hx
    have hn : vn = .int k (Int.ofNat 0) := hn
    subst hx; subst hn
    refine ⟨.string .empty, w, E, ?_, Ext.refl _ _, hs, .empty, rfl, rfl⟩
    rw [unsafeString_def]
    have hmax : IntKind.i64.max = 9223372036854775807 := rfl
    simp [ht0, asInt, asIntOf, hmax]
  · rename_i id off k n
    split at hr <;> try (simp only [reduceCtorEq] at hr; done)
    rename_i cs t hg hbt
    cases hc : (t.beq u && (off + n).ble cs.length && !n.beq 0 && n.ble 9223372036854775807)
    · simp [hc] at hr
    · simp only [hc, cond_true, Option.map_eq_some_iff, Prod.mk.injEq] at hr
      obtain ⟨l, hl, rfl, rfl⟩ := hr
      simp only [Bool.and_eq_true, Bool.not_eq_true'] at hc
      have e1 := Nat.eq_of_beq_eq_true hc.1.1.1
      have e2 := Nat.le_of_ble_eq_true hc.1.1.2
      have e3 : n ≠ 0 := fun e => by have := hc.1.2; rw [e] at this; simp at this
      have e4 := Nat.le_of_ble_eq_true hc.2
      subst e1
      obtain ⟨b, hb, rfl⟩ := hx
      have hn : vn = .int k (n : Int) := hn
      subst hn
      obtain ⟨c, e, f, q1, q2, q3⟩ := row_shape hs hb hg
      obtain ⟨b', m, h4, h5⟩ := hs.bt id _ hbt
      rw [hb] at h4; injection h4 with h4; subst h4
      rw [q2] at h5; injection h5 with h5; injection h5 with h5 h6; subst h5
      have hcells : P.cellsOf e = 1 := by simp [Program.cellsOf, hi, h1]
      have hv := run_variablesAt (P := P) (off := off) (n := n) q2 hcells (by omega) (Nat.mod_one _) (by simp; omega)
      have hobj := (hs.obj id _ b hg hb).2
      have hmem : RvMem E w ⟨b, off, none⟩ 0 ((cs.drop off).take n) := by
        have e0 : (⟨b, off, none⟩ : Addr) = (⟨b, 0, none⟩ : Addr).add off := by rw [add_at]; simp
        rw [e0]; exact (hobj.at off).take n
      obtain ⟨bs, k1, k2⟩ := run_loadBytes (P := P) _ l _ .empty hmem hl
      have hlen : ((cs.drop off).take n).length = n := by simp; omega
      rw [hlen] at k1
      have hlt := (Array.getElem?_eq_some_iff.1 q1).1
      have hfz : (w.freeze ⟨b, off, none⟩ n).heap[b]? = some (.cells c e (match f with | (lo, hi) => if lo == hi then (off, off + n) else (min lo off, max hi (off + n)))) := by
        unfold World.freeze
        rw [if_neg e3]
        simp only [Array.getElem?_modify, if_true, q1, Option.map_some]
      have hoth : ∀ j, j ≠ b → (w.freeze ⟨b, off, none⟩ n).heap[j]? = w.heap[j]? := fun j hj => by
        unfold World.freeze
        rw [if_neg e3]
        simp only [Array.getElem?_modify]
        rw [if_neg (Ne.symm hj)]
      have hsz : (w.freeze ⟨b, off, none⟩ n).heap.size = w.heap.size := by unfold World.freeze; rw [if_neg e3]; simp
      have hwo : (w.freeze ⟨b, off, none⟩ n).os = w.os ∧ (w.freeze ⟨b, off, none⟩ n).tape = w.tape ∧ (w.freeze ⟨b, off, none⟩ n).output = w.output := by unfold World.freeze; rw [if_neg e3]; exact ⟨rfl, rfl, rfl⟩
      obtain ⟨r1, r2⟩ := hs.forget (w' := w.freeze ⟨b, off, none⟩ n) hg rfl hb hoth hsz (fun s h => by
        rw [q2] at h; injection h with h; subst h
        unfold World.shape?; rw [hfz]) hwo.1 hwo.2.1 hwo.2.2
      refine ⟨.string bs, w.freeze ⟨b, off, none⟩ n, E, ?_, r2, r1, bs, rfl, by simpa using k2⟩
      have hel : (elemOf pt).run P w = .ok e w := by simp [elemOf, underlying, hpt]
      have hn0 : ¬ ((n : Int) < 0) := by omega
      have hmax : IntKind.i64.max = 9223372036854775807 := rfl
      have hn1 : ¬ ((9223372036854775807 : Int) < (n : Int)) := by omega
      have hn2 : ¬ ((n : Int) = 0) := by omega
      rw [unsafeString_def]
      simp [ht0, asInt, asIntOf, hmax, hn0, hn1, e3, hel, hv, k1, freeze, Sem.run]
theorem appendA_bt {bytes sz n : Nat} {x r : AV} {ys : List AV} {st' : St} (h : appendA bytes sz st x n ys = some (r, st')) : st'.bt = st.bt := by
  unfold appendA at h
  cases hn : n.beq 0
  · simp only [hn, cond_false] at h
    split at h <;> try (simp only [reduceCtorEq] at h; done)
    · simp only [cond_eq_ite, Option.ite_none_right_eq_some, Option.some.injEq, Prod.mk.injEq] at h
      rw [← h.2.2]; rfl
    · simp only [cond_eq_ite, Option.ite_none_right_eq_some, Option.some.injEq, Prod.mk.injEq] at h
      rw [← h.2.2]; rfl
    · split at h <;> try (simp only [reduceCtorEq] at h; done)
      simp only [cond_eq_ite, Option.ite_none_right_eq_some] at h
      replace h := h.2
      split at h
      · simp only [Option.ite_none_right_eq_some, Option.some.injEq, Prod.mk.injEq] at h
        rw [← h.2.2]; rfl
      · simp only [Option.some.injEq, Prod.mk.injEq] at h
        rw [← h.2]; rfl
      · simp only [Option.ite_none_right_eq_some, Option.some.injEq, Prod.mk.injEq] at h
        rw [← h.2.2]; rfl
  · simp only [hn, cond_true] at h
    split at h <;> simp only [Option.some.injEq, Prod.mk.injEq, reduceCtorEq] at h <;> rw [← h.2]
theorem tagA_sound {q : Value} {E' : Env} {w' : World} {e : TypeId} {x r : AV} {vx : Value} {st' : St} {tg : Option Nat} (hs : Sat E' st' w') (hbt : st'.bt = st.bt) (hs0 : Sat E st w) (hx : Rv E w x vx) (hr : Rv E' w' r q) (ht : TagR E' w' e w vx r) (hte : ∀ t, tg = some t → t = e) : Sat E' (tagA tg x r st') w' := by
  unfold tagA
  split
  · rename_i t id off n sz cap lo
    have := hte t rfl
    subst this
    obtain ⟨b, c, e', m, hb, _, _, _, h3, _⟩ := hr
    obtain ⟨t', m', h4, h5⟩ := ht id off n sz cap lo rfl b hb
    split
    · have hx : vx = .slice none 0 0 := hx
      rcases h5 with rfl | ⟨a, n0, c0, m0, h5, _⟩
      · exact hs.tag hb h4
      · rw [hx] at h5; cases h5
    · rename_i id0 _ _ _ _ _
      split
      · rename_i t0 ht0
        cases hc : Nat.beq t0 t
        · exact hs
        · have := Nat.eq_of_beq_eq_true hc
          subst this
          simp only [cond_true]
          rcases h5 with rfl | ⟨a, n0, c0, m0, h5, h6⟩
          · exact hs.tag hb h4
          · obtain ⟨b0, c1, e1, m1, hb0, hv, _⟩ := hx
            rw [hv] at h5
            injection h5 with h5 _ _
            injection h5 with h5
            subst h5
            rw [hbt] at ht0
            obtain ⟨b2, m2, h7, h8⟩ := hs0.bt id0 _ ht0
            rw [hb0] at h7; injection h7 with h7; subst h7
            simp only at h6
            rw [h6] at h8; injection h8 with h8; injection h8 with h8 _
            subst h8
            exact hs.tag hb h4
      · exact hs
    · exact hs
  · exact hs
end
end Go.AM
