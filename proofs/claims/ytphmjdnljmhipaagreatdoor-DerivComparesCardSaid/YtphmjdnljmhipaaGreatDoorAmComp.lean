import Derived.Test.YtphmjdnljmhipaaGreatDoorAmOp9
import Derived.Laws.IdiomStrings
import Derived.Laws.BytesString
import Derived.Lib.UnsafeStr
import Derived.Laws.Tables
namespace Go.AM
section
variable {E : Env} {st : St} {w : World} {P : Program}
theorem s2bA_sound {s t e : TypeId} {x r : AV} {v : Value} {st' : St} (hs' : P.underlying s = some .string) (ht : P.underlying t = some (.slice e)) (he : P.underlying e = some (.int .u8))
  (hs : Sat E st w) (hx : Rv E w x v) (hr : s2bA st x = some (r, st')) : ∃ q w' E', (convert s t v).run P w = .ok q w' /\ Ext E w E' w' /\ Sat E' st' w' /\ Rv E' w' r q := by
 cases x <;> simp only [s2bA, reduceCtorEq] at hr
 rename_i l
 obtain ⟨b, rfl, hl⟩ := hx
 simp only [Option.some.injEq, Prod.mk.injEq] at hr
 obtain ⟨rfl, rfl⟩ := hr
 have hrun := run_bytes_of_string (P := P) w s t e b hs' ht he
 have hlen : l.length = b.size := by rw [<- hl]; simp
 have hcap := grownCap_ge w b.size 0 e
 have hsz : (bytesRow b (grownCap w b.size 0 e)).size = grownCap w b.size 0 e := by
  have : b.data.size = b.size := rfl
  simp [bytesRow, this]; omega
 obtain ⟨hs1, hx1⟩ := hs.drew
 have hv : RvL E w (l.map fun b => AV.int .u8 (.ofNat b)) (b.data.toList.map fun c => Value.int .u8 c.toNat) := by
  rw [<- hl, List.map_map]
  exact RvL.of_get (by simp) fun j c v h1 h2 => by
   simp only [List.getElem?_map] at h1 h2
   cases hj : b.data.toList[j]? with
   | none => simp [hj] at h1
   | some q =>
    simp only [hj, Option.map_some, Option.some.injEq, Function.comp] at h1 h2
    subst h1; subst h2; rfl
 obtain ⟨hs2, hx2⟩ := hs1.alloc (.cells (bytesRow b (grownCap w b.size 0 e)) e ((bytesRow b (grownCap w b.size 0 e)).size, (bytesRow b (grownCap w b.size 0 e)).size + 1)) (.row (l.map fun b => .int .u8 (.ofNat b)))
  fun E' hx' => ⟨⟨_, e, _, heap_alloc_at w.drew _, by rw [hsz, List.length_map, hlen]; exact hcap, .inr (Nat.le_refl _)⟩,
   RvMem.new_prefix (RvL.mono (hx1.trans hx') _ _ hv) (heap_alloc_at w.drew _) fun j v hj => by
    have hlt := (List.getElem?_eq_some_iff.1 hj).1
    simp only [List.length_map, Array.length_toList] at hlt
    unfold bytesRow
    rw [Array.getElem?_append_left (by simpa using hlt)]
    simpa using hj⟩
 refine ⟨_, _, _, hrun, hx1.trans hx2, hs2, w.heap.size, grownCap w b.size 0 e, e, _, by simp [Env.link], by rw [hlen], by rw [hlen]; exact hcap, by simp, shape_alloc w.drew _ e _, ?_, by rw [hlen]; exact hcap⟩
 rw [hsz]; simp
theorem foldl_push (ns : List Int) : ∀ (s : ByteArray), (ns.foldl (fun r n => r.push (UInt8.ofNat n.toNat)) s).data.toList = s.data.toList ++ ns.map fun n => UInt8.ofNat n.toNat := by
 induction ns with
 | nil => intro s; simp
 | cons n ns ih =>
  intro s
  rw [List.foldl_cons, ih]
  have : (s.push (UInt8.ofNat n.toNat)).data.toList = s.data.toList ++ [UInt8.ofNat n.toNat] := by
   cases s; simp [ByteArray.push]
  rw [this]; simp
theorem bytesA_sound : ∀ {ys : List AV} {vs : List Value} {l : List Nat}, RvL E w ys vs -> bytesA ys = some l -> vs = (l.map fun (b : Nat) => (b : Int)).map (Value.int .u8) /\ ∀ b ∈ l, b < 256
 | [], vs, l, hv, h => by
  cases hv; simp only [bytesA, Option.some.injEq] at h; subst h; simp
 | y :: ys, _, l, ⟨x, xs, rfl, h1, h2⟩, h => by
  simp only [bytesA, Option.bind_eq_some_iff, Option.map_eq_some_iff] at h
  obtain ⟨b, hb, l', hl, rfl⟩ := h
  obtain ⟨h3, h4⟩ := bytesA_sound h2 hl
  unfold byteA at hb
  split at hb <;> try (simp only [reduceCtorEq] at hb; done)
  rename_i c
  cases hc : (c + 1).ble 256
  ·simp [hc] at hb
  ·simp only [hc, cond_true, Option.some.injEq] at hb; subst hb
   have h1 : x = .int .u8 (c : Int) := h1
   subst h1; subst h3
   have := Nat.le_of_ble_eq_true hc
   refine ⟨rfl, fun b hb => ?_⟩
   rcases List.mem_cons.1 hb with rfl | hb
   ·omega
   ·exact h4 b hb
theorem b2sA_sound {s t e : TypeId} {x r : AV} {v : Value} (hs' : P.underlying s = some (.slice e)) (ht : P.underlying t = some .string) (he : P.underlying e = some (.int .u8))
  (hs : Sat E st w) (hx : Rv E w x v) (hr : b2sA st x = some r) : ∃ u, (convert s t v).run P w = .ok u w /\ Rv E w r u := by
 unfold b2sA at hr
 cases hstr : isStr x
 ·simp only [hstr, cond_false, Option.bind_eq_some_iff, Option.map_eq_some_iff] at hr
  obtain ⟨⟨n, ys⟩, hc, l, hl, rfl⟩ := hr
  obtain ⟨vs, k1, k2, k3, k4⟩ := contentA_sound (P := P) hs hx hc
  obtain ⟨h3, h4⟩ := bytesA_sound k3 hl
  have fin : ∀ (b : ByteArray), b.data.toList = l.map (fun (n : Nat) => UInt8.ofNat n) -> Rv E w (.str l) (.string b) := fun b hb => by
   refine ⟨b, rfl, ?_⟩
   rw [hb, List.map_map]
   have : ∀ q ∈ l, ((fun x : UInt8 => x.toNat) ∘ fun n => UInt8.ofNat n) q = q := fun q hq => by
    simp [Nat.mod_eq_of_lt (h4 q hq)]
   rw [List.map_congr_left this]; simp
  have slice : ∀ (a : Option Addr) (m c : Nat), v = .slice a m c -> m = n -> ∃ u, (convert s t v).run P w = .ok u w /\ Rv E w (.str l) u := fun a m c hv hm => by
   subst hv; subst hm
   rw [run_convert_bytes_string (P := P) w s t e a m c hs' he ht]
   cases a with
   | none =>
    have := k2 w rfl
    simp [Builtin.firstCells] at this
    have hnil : vs = [] := by simpa using this.symm
    subst hnil
    have : l = [] := by
     cases l with
     | nil => rfl
     | cons _ _ => simp at h3
    subst this
    exact ⟨.string .empty, by simp [Conv.bytesToString], fin _ (by simp)⟩
   | some a =>
    have h5 := k2 w rfl
    simp only [Builtin.firstCells, Nat.mul_one] at h5
    rw [h3] at h5
    refine ⟨_, run_bytesToString (P := P) w a m c _ h5, fin _ ?_⟩
    rw [foldl_push]
    simp [List.map_map, Function.comp]
  have k1' := k1 w
  cases x <;> simp only [contentA, reduceCtorEq] at hc
  ·simp [isStr] at hstr
  ·have hx : v = .slice none 0 0 := hx
   simp only [Option.some.injEq, Prod.mk.injEq] at hc
   exact slice _ _ _ hx hc.1
  ·obtain ⟨a, cap, hv, _⟩ := hx
   subst hv
   simp only [Builtin.lenOf, Sem.run_pure, Result.ok.injEq] at k1'
   exact slice _ _ _ rfl k1'.1
  ·obtain ⟨b, c, e', mm, h0, hv, _⟩ := hx
   subst hv
   simp only [Builtin.lenOf, Sem.run_pure, Result.ok.injEq] at k1'
   exact slice _ _ _ rfl k1'.1
 ·simp [hstr] at hr
end
end Go.AM
namespace Go.AM
section
variable {E : Env} {st : St} {w : World} {P : Program}
theorem eqPtrA_sound {op : BinOp} {x y r : AV} {vx vy : Value} {t : TypeId} {d : TypeDesc} {c : Nat} {X Y : Operand} (hd : P.underlying t = some d) (hc : nilClass d = some c)
  (hop : op = .eql \/ op = .neq) (hz : ∀ q, d = .pointer q -> ∃ i, P.info? q = some i /\ i.size ≠ 0) (hx : Rv E w x vx) (hy : Rv E w y vy) (hr : eqPtrA c op x y = some r) : ∃ u, (do eqGuard op t X Y vx vy; binOp op t vx vy : Sem Value).run P w = .ok u w /\ Rv E w r u := by
 unfold eqPtrA at hr
 split at hr <;> try (simp only [reduceCtorEq] at hr; done)
 rename_i i n j m
 cases hcond : (c.beq 0 && i.beq j)
 ·simp [hcond] at hr
 ·simp only [hcond, cond_true] at hr
  simp only [Bool.and_eq_true] at hcond
  have h0 := Nat.eq_of_beq_eq_true hcond.1
  have hij := Nat.eq_of_beq_eq_true hcond.2
  subst h0; subst hij
  obtain ⟨b, hb, rfl⟩ := hx
  obtain ⟨b', hb', rfl⟩ := hy
  rw [hb] at hb'; injection hb' with hb'; subst hb'
  have hg : (eqGuard op t X Y (.pointer (some ⟨b, n, none⟩)) (.pointer (some ⟨b, m, none⟩))).run P w = .ok () w := by
   unfold eqGuard
   rcases hop with rfl | rfl <;> simp
  have hq' : ∀ k, (Op.equalIn (k + 1) t (.pointer (some ⟨b, n, none⟩)) (.pointer (some ⟨b, m, none⟩))).run P w = .ok (n.beq m == true) w := fun k => by
   simp only [Op.equalIn, underlying, Sem.run_bind, run_program, Result.andThen, hd]
   cases d <;> simp [nilClass] at hc
   rename_i q
   obtain ⟨i', hi, h0⟩ := hz q rfl
   have hsz : (sizeOf q).run P w = .ok i'.size w := run_sizeOf' hi
   by_cases hnm : n = m
   ·subst hnm; simp [hsz, h0, sameAddr]
   ·have hb : n.beq m = false := by
     cases h : n.beq m
     ·rfl
     ·exact absurd (Nat.eq_of_beq_eq_true h) hnm
    have ha : ((⟨b, n, none⟩ : Addr) == ⟨b, m, none⟩) = false := by
     rw [beq_eq_false_iff_ne]
     intro h; injection h with _ h; exact hnm h
    rw [hb]
    simp [hsz, h0, sameAddr, ha]
  have hq : (Op.equal t (.pointer (some ⟨b, n, none⟩)) (.pointer (some ⟨b, m, none⟩))).run P w = .ok (n.beq m == true) w := hq' 9999
  simp only [Sem.run_bind, hg, Result.andThen]
  exact boolBin_sound hr hq (fun h => by subst h; rfl) (fun h => by subst h; rfl)
theorem row_shape (hs : Sat E st w) {id b : Nat} {cs : List AV} (hb : E.β id = some b) (hg : st.get id = some (.row cs)) : ∃ c e f, w.heap[b]? = some (.cells c e f) /\ w.shape? b = some (e, c.size) /\ cs.length <= c.size := by
 obtain ⟨⟨c, e, f, h1, h2, _⟩, _⟩ := hs.obj id _ b hg hb
 exact ⟨c, e, f, h1, by unfold World.shape?; rw [h1], h2⟩
theorem run_seenAt {b off : Nat} {s : TypeId × Nat} (h : w.shape? b = some s) : (Conv.seenAt ⟨b, off, none⟩).run P w = .ok ⟨b, off, none⟩ w := by
 simp [Conv.seenAt, viewAt, shape, Sem.run, h]
theorem run_variablesAt {b off n s m : Nat} {u : TypeId} (h : w.shape? b = some (u, m)) (hs : P.cellsOf u = s) (h0 : s ≠ 0) (h1 : off % s = 0) (h2 : off / s + n <= m / s) : (variablesAt ⟨b, off, none⟩ u n).run P w = .ok true w := by
 have hl : liesAt P P.depth u (m / P.cellsOf u) off u n = true := by
  have hdep : ∃ d, P.depth = d + 1 := ⟨2 * (P.types.size + Made.depth) + 1, rfl⟩
  obtain ⟨d, hd⟩ := hdep
  have hsame : sameLayout P P.depth u u = true := by rw [hd]; simp [sameLayout]
  rw [hd, liesAt, hd, rowAt]
  rw [hd] at hsame
  simp [hs, h0, h1, h2, hsame]
 simp [variablesAt, shape, Sem.run, h, hl]
theorem ptouA_sound {s t q : TypeId} {x r : AV} {v : Value} {i : TypeInfo} (hs' : P.underlying s = some (.pointer q)) (ht : P.underlying t = some .unsafePointer) (hi : P.info? q = some i) (h0 : i.size ≠ 0)
  (hs : Sat E st w) (hx : Rv E w x v) (hr : ptouA st x = some r) : ∃ u, (convert s t v).run P w = .ok u w /\ Rv E w r u := by
 unfold ptouA at hr
 split at hr <;> try (simp only [reduceCtorEq] at hr; done)
 ·simp only [Option.some.injEq] at hr; subst hr
  have hx : v = .pointer none := hx
  subst hx
  exact ⟨_, by simp [convert, underlying, hs', ht, Conv.unsafePointer], rfl⟩
 ·rename_i id off
  split at hr <;> try (simp only [reduceCtorEq] at hr; done)
  rename_i cs hg
  cases hc : (off + 1).ble cs.length
  ·simp [hc] at hr
  ·simp only [hc, cond_true, Option.some.injEq] at hr; subst hr
   have hc := Nat.le_of_ble_eq_true hc
   have hx0 := hx
   obtain ⟨b, hb, rfl⟩ := hx
   obtain ⟨c, e, f, h1, h2, h3⟩ := row_shape hs hb hg
   have hcell : (cellsIn b).run P w = .ok (some c.size) w := by simp [cellsIn, shape, Sem.run, h2]
   have hsz : (sizeOf q).run P w = .ok i.size w := run_sizeOf' hi
   have hlt : ¬ (c.size <= off) := by omega
   refine ⟨.pointer (some ⟨b, off, none⟩), ?_, hx0⟩
   simp [convert, underlying, hs', ht, Conv.unsafePointer, run_seenAt h2, hcell, hsz, h0, hlt]
theorem utopA_sound {s t u : TypeId} {x r : AV} {v : Value} {i : TypeInfo} (hs' : P.underlying s = some .unsafePointer) (ht : P.underlying t = some (.pointer u)) (hi : P.info? u = some i) (h0 : i.size ≠ 0)
  (hs : Sat E st w) (hx : Rv E w x v) (hr : utopA u i.size st x = some r) : ∃ q, (convert s t v).run P w = .ok q w /\ Rv E w r q := by
 unfold utopA at hr
 split at hr <;> try (simp only [reduceCtorEq] at hr; done)
 ·simp only [Option.some.injEq] at hr; subst hr
  have hx : v = .pointer none := hx
  subst hx
  exact ⟨_, by simp [convert, underlying, hs', ht, Conv.unsafePointer], rfl⟩
 ·rename_i id off
  split at hr <;> try (simp only [reduceCtorEq] at hr; done)
  rename_i cs t' hg hbt
  cases hc : (t'.beq u && (off.mod i.size).beq 0 && (off.div i.size + 1).ble (cs.length.div i.size))
  ·simp [hc] at hr
  ·simp only [hc, cond_true, Option.some.injEq] at hr; subst hr
   simp only [Bool.and_eq_true] at hc
   have e1 := Nat.eq_of_beq_eq_true hc.1.1
   have e2 : off % i.size = 0 := Nat.eq_of_beq_eq_true hc.1.2
   have e3 : off / i.size + 1 <= cs.length / i.size := Nat.le_of_ble_eq_true hc.2
   subst e1
   have hx0 := hx
   obtain ⟨b, hb, rfl⟩ := hx
   obtain ⟨c, e, f, h1, h2, h3⟩ := row_shape hs hb hg
   obtain ⟨b', m, h4, h5⟩ := hs.bt id _ hbt
   rw [hb] at h4; injection h4 with h4; subst h4
   rw [h2] at h5; injection h5 with h5; injection h5 with h5 h6; subst h5
   have hcells : P.cellsOf e = i.size := by simp [Program.cellsOf, hi]
   have hle : cs.length / i.size <= c.size / i.size := Nat.div_le_div_right h3
   have hv := run_variablesAt (P := P) (n := 1) h2 hcells h0 e2 (by omega)
   have hsz : (sizeOf e).run P w = .ok i.size w := run_sizeOf' hi
   refine ⟨.pointer (some ⟨b, off, none⟩), ?_, hx0⟩
   simp [convert, underlying, hs', ht, Conv.unsafePointer, run_seenAt h2, hsz, h0, hv]
theorem sdatA_sound {ts : Array TypeId} {ty : TypeId} {x r : AV} {v : Value} (hx : Rv E w x v) (hr : sdatA x = some r) : ∃ q, (Builtin.unsafeSliceData_ ts ty #[v]).run P w = .ok q w /\ Rv E w r q := by
 unfold sdatA at hr
 split at hr <;> try (simp only [reduceCtorEq] at hr; done)
 ·simp only [Option.some.injEq] at hr; subst hr
  have hx : v = .slice none 0 0 := hx
  subst hx
  exact ⟨_, Lib.run_unsafeSliceData_nil w ts ty 0 0, rfl⟩
 ·rename_i id off n sz cap lo
  cases hn : n.beq 0
  ·simp only [hn, cond_false, Option.some.injEq] at hr; subst hr
   obtain ⟨b, c, e, m, hb, rfl, h1, _⟩ := hx
   have hc : c ≠ 0 := by
    rintro rfl
    have : n = 0 := by omega
    subst this; simp at hn
   exact ⟨.pointer (some ⟨b, off, none⟩), Lib.run_unsafeSliceData_row w ts ty _ n c hc, b, hb, rfl⟩
  ·simp [hn] at hr
theorem Sat.forget {w' : World} (h : Sat E st w) {id b : Nat} {o : AO} (hg : st.get id = some o) (hl : o.live = true) (hb : E.β id = some b) (hoth : ∀ k, k ≠ b -> w'.heap[k]? = w.heap[k]?) (hsize : w'.heap.size = w.heap.size)
  (hshape : ∀ s, w.shape? b = some s -> w'.shape? b = some s) (hos : w'.os = w.os) (htape : w'.tape = w.tape) (hout : w'.output = w.output) : Sat E (st.del id) w' /\ Ext E w E w' := by
 have hx : Ext E w E w' := ⟨⟨fun _ _ h => h, fun _ h => h, fun k hk => hoth k (by rintro rfl; exact h.lv id o _ hg hl hb hk), by omega, fun k s hs => by
  by_cases hk : k = b
  ·subst hk; exact hshape s hs
  ·rw [shape_of_heap (hoth k hk)]; exact hs, hos, htape, hout, fun _ _ => rfl⟩, fun _ h => h, fun _ h => h⟩
 have key : ∀ i o, (st.del id).get i = some o -> i ≠ id /\ st.get i = some o := fun i o h1 => by
  rw [St.get_del] at h1
  by_cases hi : i = id
  ·rw [if_pos hi] at h1; cases h1
  ·rw [if_neg hi] at h1; exact ⟨hi, h1⟩
 refine ⟨⟨fun i c hc => ?_, fun c hc => ?_, fun i o1 c h1 h2 => ?_, fun i i' o1 o2 c h1 h2 => h.sep i i' o1 o2 c (key _ _ h1).2 (key _ _ h2).2, fun i o1 c h1 => h.lv i o1 c (key _ _ h1).2, h.rs, fun c hc => ?_, BtOk.mono h.bt hx.toExt0 rfl⟩, hx⟩
 ·have := h.dom i c hc; rw [hsize]; exact this
 ·have := h.fz c hc; omega
 ·obtain ⟨hi, h1⟩ := key _ _ h1
  have h3 := h.obj i o1 c h1 h2
  refine ObjR.mono hx (hoth c ?_) h3
  rintro rfl
  cases o1 with
  | fro cs => exact h.lv id o c hg hl hb h3.1
  | row cs => exact hi (h.sep i id _ _ _ h1 hg rfl hl h2 hb)
  | map es => exact hi (h.sep i id _ _ _ h1 hg rfl hl h2 hb)
  | loop s => exact hi (h.sep i id _ _ _ h1 hg rfl hl h2 hb)
 ·obtain ⟨h1, h2⟩ := h.dz c hc
  refine ⟨?_, h2⟩
  rw [hoth c]
  ·exact h1
  ·rintro rfl
   have h3 := h.obj id o c hg hb
   cases o with
   | fro cs => cases hl
   | row cs => obtain ⟨⟨_, _, _, h4, _⟩, _⟩ := h3; rw [h1] at h4; cases h4
   | map es => obtain ⟨_, _, h4, _⟩ := h3; rw [h1] at h4; cases h4
   | loop s => obtain ⟨_, h4, _⟩ := h3; rw [h1] at h4; cases h4
theorem run_loadBytes : ∀ (ys : List AV) (l : List Nat) (a : Addr) (acc : ByteArray), RvMem E w a 0 ys -> bytesA ys = some l -> ∃ b : ByteArray, (loadBytes a acc ys.length).run P w = .ok b w /\ b.data.toList.map (·.toNat) = acc.data.toList.map (·.toNat) ++ l
 | [], l, a, acc, _, h => by
  simp only [bytesA, Option.some.injEq] at h; subst h
  exact ⟨acc, by simp [loadBytes], by simp⟩
 | y :: ys, l, a, acc, ⟨⟨x, h1, h2⟩, h3⟩, h => by
  simp only [bytesA, Option.bind_eq_some_iff, Option.map_eq_some_iff] at h
  obtain ⟨b, hb, l', hl, rfl⟩ := h
  unfold byteA at hb
  split at hb <;> try (simp only [reduceCtorEq] at hb; done)
  rename_i c
  cases hc : (c + 1).ble 256
  ·simp [hc] at hb
  ·simp only [hc, cond_true, Option.some.injEq] at hb; subst hb
   have hx : x = .int .u8 (c : Int) := h2
   subst hx
   have hc := Nat.le_of_ble_eq_true hc
   have ha0 : a.add 0 = a := by unfold Addr.add; simp
   rw [ha0] at h1
   have hmem : RvMem E w (a.add 1) 0 ys := RvMem.of_get fun j d hd => by
    obtain ⟨v, h4, h5⟩ := h3.get j hd
    exact ⟨v, by rw [add_add]; rw [show 1 + (0 + j) = 0 + 1 + j by omega]; exact h4, h5⟩
   obtain ⟨bs, h4, h5⟩ := run_loadBytes ys l' (a.add 1) (acc.push (UInt8.ofNat c)) hmem hl
   refine ⟨bs, ?_, ?_⟩
   ·simp only [List.length_cons, loadBytes, Sem.run_bind]
    have hload : (load a).run P w = .ok (.int .u8 (c : Int)) w := by simp [load, Sem.run, h1]
    rw [hload]
    simp only [Result.andThen]
    simpa [Nat.toUInt8] using h4
   ·rw [h5]
    have : (acc.push (UInt8.ofNat c)).data.toList = acc.data.toList ++ [UInt8.ofNat c] := by cases acc; simp [ByteArray.push]
    rw [this]
    simp [Nat.mod_eq_of_lt (show c < 256 by omega)]
theorem unsafeString_def (ts : Array TypeId) (ty : TypeId) (p : Option Addr) (vn : Value) : Builtin.unsafeString_ ts ty #[.pointer p, vn] = (do
  let n <- asInt vn
  let some pt := ts[0]? | stuck "unsafe.String: no argument types"
  if n < 0 then runtimePanic (.error "unsafe.String: len out of range")
  if n > IntKind.i64.max then unsupported (.unsafePointer "String: a length above the largest int")
  match p with
  | none =>
   if n = 0 then pure (.string .empty)
   else runtimePanic (.error "unsafe.String: ptr is nil and len is not zero")
  | some a =>
   if n = 0 then pure (.string .empty)
   else if <- variablesAt a (<- elemOf pt) n.toNat then do
    let s <- loadBytes a .empty n.toNat
    freeze a n.toNat
    pure (.string s)
   else unsupported (.unsafePointer "String: not so many bytes at ptr")) := by
 cases p <;> rfl
theorem ustrA_sound {ts : Array TypeId} {pt ty u : TypeId} {x n r : AV} {vx vn : Value} {st' : St} {i : TypeInfo} (ht0 : ts[0]? = some pt) (hpt : P.underlying pt = some (.pointer u)) (hi : P.info? u = some i) (h1 : i.size = 1)
  (hs : Sat E st w) (hx : Rv E w x vx) (hn : Rv E w n vn) (hr : ustrA u st x n = some (r, st')) : ∃ q w' E', (Builtin.unsafeString_ ts ty #[vx, vn]).run P w = .ok q w' /\ Ext E w E' w' /\ Sat E' st' w' /\ Rv E' w' r q := by
 unfold ustrA at hr
 split at hr <;> try (simp only [reduceCtorEq] at hr; done)
 ·rename_i k
  simp only [Option.some.injEq, Prod.mk.injEq] at hr
  obtain ⟨rfl, rfl⟩ := hr
  have hx : vx = .pointer none := hx
  have hn : vn = .int k (Int.ofNat 0) := hn
  subst hx; subst hn
  refine ⟨.string .empty, w, E, ?_, Ext.refl _ _, hs, .empty, rfl, rfl⟩
  rw [unsafeString_def]
  have hmax : IntKind.i64.max = 9223372036854775807 := rfl
  simp [ht0, asInt, asIntOf, hmax]
 ·rename_i id off k n
  split at hr <;> try (simp only [reduceCtorEq] at hr; done)
  rename_i cs t hg hbt
  cases hc : (t.beq u && (off + n).ble cs.length && !n.beq 0 && n.ble 9223372036854775807)
  ·simp [hc] at hr
  ·simp only [hc, cond_true, Option.map_eq_some_iff, Prod.mk.injEq] at hr
   obtain ⟨l, hl, rfl, rfl⟩ := hr
   simp only [Bool.and_eq_true, Bool.not_eq_true'] at hc
   have e1 := Nat.eq_of_beq_eq_true hc.1.1.1
   have e2 := Nat.le_of_ble_eq_true hc.1.1.2
   have e3 : n ≠ 0 := fun e => by have := hc.1.2; rw [e] at this; simp at this
   have e4 := Nat.le_of_ble_eq_true hc.2
   subst e1
   obtain ⟨b, hb, rfl⟩ := hx
   have hn : vn = .int k (n : Int) := hn
   subst hn
   obtain ⟨c, e, f, q1, q2, q3⟩ := row_shape hs hb hg
   obtain ⟨b', m, h4, h5⟩ := hs.bt id _ hbt
   rw [hb] at h4; injection h4 with h4; subst h4
   rw [q2] at h5; injection h5 with h5; injection h5 with h5 h6; subst h5
   have hcells : P.cellsOf e = 1 := by simp [Program.cellsOf, hi, h1]
   have hv := run_variablesAt (P := P) (off := off) (n := n) q2 hcells (by omega) (Nat.mod_one _) (by simp; omega)
   have hobj := (hs.obj id _ b hg hb).2
   have hmem : RvMem E w ⟨b, off, none⟩ 0 ((cs.drop off).take n) := by
    have e0 : (⟨b, off, none⟩ : Addr) = (⟨b, 0, none⟩ : Addr).add off := by rw [add_at]; simp
    rw [e0]; exact (hobj.at off).take n
   obtain ⟨bs, k1, k2⟩ := run_loadBytes (P := P) _ l _ .empty hmem hl
   have hlen : ((cs.drop off).take n).length = n := by simp; omega
   rw [hlen] at k1
   have hlt := (Array.getElem?_eq_some_iff.1 q1).1
   have hfz : (w.freeze ⟨b, off, none⟩ n).heap[b]? = some (.cells c e (match f with | (lo, hi) => if lo == hi then (off, off + n) else (min lo off, max hi (off + n)))) := by
    unfold World.freeze
    rw [if_neg e3]
    simp only [Array.getElem?_modify, if_true, q1, Option.map_some]
   have hoth : ∀ j, j ≠ b -> (w.freeze ⟨b, off, none⟩ n).heap[j]? = w.heap[j]? := fun j hj => by
    unfold World.freeze
    rw [if_neg e3]
    simp only [Array.getElem?_modify]
    rw [if_neg (Ne.symm hj)]
   have hsz : (w.freeze ⟨b, off, none⟩ n).heap.size = w.heap.size := by unfold World.freeze; rw [if_neg e3]; simp
   have hwo : (w.freeze ⟨b, off, none⟩ n).os = w.os /\ (w.freeze ⟨b, off, none⟩ n).tape = w.tape /\ (w.freeze ⟨b, off, none⟩ n).output = w.output := by unfold World.freeze; rw [if_neg e3]; exact ⟨rfl, rfl, rfl⟩
   obtain ⟨r1, r2⟩ := hs.forget (w' := w.freeze ⟨b, off, none⟩ n) hg rfl hb hoth hsz (fun s h => by
    rw [q2] at h; injection h with h; subst h
    unfold World.shape?; rw [hfz]) hwo.1 hwo.2.1 hwo.2.2
   refine ⟨.string bs, w.freeze ⟨b, off, none⟩ n, E, ?_, r2, r1, bs, rfl, by simpa using k2⟩
   have hel : (elemOf pt).run P w = .ok e w := by simp [elemOf, underlying, hpt]
   have hn0 : ¬ ((n : Int) < 0) := by omega
   have hmax : IntKind.i64.max = 9223372036854775807 := rfl
   have hn1 : ¬ ((9223372036854775807 : Int) < (n : Int)) := by omega
   have hn2 : ¬ ((n : Int) = 0) := by omega
   rw [unsafeString_def]
   simp [ht0, asInt, asIntOf, hmax, hn0, hn1, e3, hel, hv, k1, freeze, Sem.run]
theorem appendA_bt {bytes sz n : Nat} {x r : AV} {ys : List AV} {st' : St} (h : appendA bytes sz st x n ys = some (r, st')) : st'.bt = st.bt := by
 unfold appendA at h
 cases hn : n.beq 0
 ·simp only [hn, cond_false] at h
  split at h <;> try (simp only [reduceCtorEq] at h; done)
  ·simp only [cond_eq_ite, Option.ite_none_right_eq_some, Option.some.injEq, Prod.mk.injEq] at h
   rw [<- h.2.2]; rfl
  ·simp only [cond_eq_ite, Option.ite_none_right_eq_some, Option.some.injEq, Prod.mk.injEq] at h
   rw [<- h.2.2]; rfl
  ·split at h <;> try (simp only [reduceCtorEq] at h; done)
   simp only [cond_eq_ite, Option.ite_none_right_eq_some] at h
   replace h := h.2
   split at h
   ·simp only [Option.ite_none_right_eq_some, Option.some.injEq, Prod.mk.injEq] at h
    rw [<- h.2.2]; rfl
   ·simp only [Option.some.injEq, Prod.mk.injEq] at h
    rw [<- h.2]; rfl
   ·simp only [Option.ite_none_right_eq_some, Option.some.injEq, Prod.mk.injEq] at h
    rw [<- h.2.2]; rfl
 ·simp only [hn, cond_true] at h
  split at h <;> simp only [Option.some.injEq, Prod.mk.injEq, reduceCtorEq] at h <;> rw [<- h.2]
theorem tagA_sound {q : Value} {E' : Env} {w' : World} {e : TypeId} {x r : AV} {vx : Value} {st' : St} {tg : Option Nat} (hs : Sat E' st' w') (hbt : st'.bt = st.bt) (hs0 : Sat E st w) (hx : Rv E w x vx) (hr : Rv E' w' r q) (ht : TagR E' w' e w vx r) (hte : ∀ t, tg = some t -> t = e) : Sat E' (tagA tg x r st') w' := by
 unfold tagA
 split
 ·rename_i t id off n sz cap lo
  have := hte t rfl
  subst this
  obtain ⟨b, c, e', m, hb, _, _, _, h3, _⟩ := hr
  obtain ⟨t', m', h4, h5⟩ := ht id off n sz cap lo rfl b hb
  split
  ·have hx : vx = .slice none 0 0 := hx
   rcases h5 with rfl | ⟨a, n0, c0, m0, h5, _⟩
   ·exact hs.tag hb h4
   ·rw [hx] at h5; cases h5
  ·rename_i id0 _ _ _ _ _
   split
   ·rename_i t0 ht0
    cases hc : Nat.beq t0 t
    ·exact hs
    ·have := Nat.eq_of_beq_eq_true hc
     subst this
     simp only [cond_true]
     rcases h5 with rfl | ⟨a, n0, c0, m0, h5, h6⟩
     ·exact hs.tag hb h4
     ·obtain ⟨b0, c1, e1, m1, hb0, hv, _⟩ := hx
      rw [hv] at h5
      injection h5 with h5 _ _
      injection h5 with h5
      subst h5
      rw [hbt] at ht0
      obtain ⟨b2, m2, h7, h8⟩ := hs0.bt id0 _ ht0
      rw [hb0] at h7; injection h7 with h7; subst h7
      simp only at h6
      rw [h6] at h8; injection h8 with h8; injection h8 with h8 _
      subst h8
      exact hs.tag hb h4
   ·exact hs
  ·exact hs
 ·exact hs
end
end Go.AM
namespace Go.AM
theorem Fr.get_set (fr : Fr) (n m : Nat) (o : Option AV) : (fr.set n o).get m = if m = n then o else fr.get m := Tr.get_set ..
theorem Fr.get_nil (n : Nat) : Fr.nil.get n = none := Tr.get_nil n
@[simp] theorem Fr.set_ds (fr : Fr) (n : Nat) (o : Option AV) : (fr.set n o).ds = fr.ds := rfl
section
variable {E : Env} {w : World}
mutual
theorem cv_sound : ∀ (f : Nat) (v : Value) (x : AV), cv f v = some x -> Rv E w x v
 | 0, _, _, h => by simp [cv] at h
 | f + 1, v, x, h => by
  unfold cv at h
  split at h <;> simp only [Option.some.injEq, Option.map_eq_some_iff, reduceCtorEq] at h
  ·subst h; rfl
  ·subst h; rfl
  ·subst h; exact ⟨_, rfl, rfl⟩
  ·subst h; rfl
  ·subst h; rfl
  ·subst h; rfl
  ·subst h; rfl
  ·subst h; rfl
  ·obtain ⟨y, h, rfl⟩ := h; exact ⟨_, rfl, cv_sound f _ _ h⟩
  ·obtain ⟨y, h, rfl⟩ := h; exact ⟨_, rfl, cvL_sound f _ _ h⟩
  ·obtain ⟨y, h, rfl⟩ := h; exact ⟨_, rfl, cvL_sound f _ _ h⟩
theorem cvL_sound : ∀ (f : Nat) (vs : List Value) (xs : List AV), cvL f vs = some xs -> RvL E w xs vs
 | 0, _, _, h => by simp [cvL] at h
 | f + 1, [], xs, h => by simp [cvL] at h; subst h; rfl
 | f + 1, v :: vs, xs, h => by
  simp only [cvL, Option.bind_eq_some_iff, Option.map_eq_some_iff] at h
  obtain ⟨x, h1, ys, h2, rfl⟩ := h
  exact ⟨v, vs, rfl, cv_sound f v x h1, cvL_sound f vs ys h2⟩
end
def RvF (E : Env) (w : World) (fr : Fr) (a : Act) : Prop := ∀ n, Rv E w ((fr.get n).getD .undef) (a.tmps.getD n undef)
variable {fr : Fr} {a : Act}
theorem cx_sound {o : Operand} {x : X} (hf : RvF E w fr a) (h : cx o = some x) : Rv E w (ev fr x) (a.eval o) := by
 cases o <;> simp only [cx, Option.some.injEq, Option.map_eq_some_iff, reduceCtorEq] at h
 ·subst h; exact hf _
 ·obtain ⟨y, h, rfl⟩ := h; exact cv_sound _ _ _ h
 ·subst h; exact ⟨#[], #[], rfl, rfl, rfl⟩
theorem cxs_sound : ∀ {os : List Operand} {xs : List X}, RvF E w fr a -> cxs os = some xs -> RvL E w (xs.map (ev fr)) (os.map a.eval)
 | [], xs, _, h => by simp [cxs] at h; subst h; rfl
 | o :: os, xs, hf, h => by
  simp only [cxs, Option.bind_eq_some_iff, Option.map_eq_some_iff] at h
  obtain ⟨x, h1, ys, h2, rfl⟩ := h
  exact ⟨_, _, rfl, cx_sound hf h1, cxs_sound hf h2⟩
theorem cxo_sound {o : Option Operand} {x : Option X} (hf : RvF E w fr a) (h : cxo o = some x) : RvO E w (x.map (ev fr)) (o.map a.eval) := by
 cases o with
 | none => simp [cxo] at h; subst h; rfl
 | some o =>
  simp only [cxo, Option.map_eq_some_iff] at h
  obtain ⟨y, h, rfl⟩ := h
  exact ⟨_, rfl, cx_sound hf h⟩
theorem cparts_sound {place : Nat -> Option (Nat × Nat)} : ∀ {ps : List (Nat × Operand)} {xs : List (Nat × Nat × X)}, RvF E w fr a -> cparts place ps = some xs ->
  RvParts E w (evParts fr xs) (ps.map fun p => (p.1, a.eval p.2)) place
 | [], xs, _, h => by simp [cparts] at h; subst h; rfl
 | (i, o) :: ps, xs, hf, h => by
  simp only [cparts, Option.bind_eq_some_iff, Option.map_eq_some_iff] at h
  obtain ⟨p, h0, x, h1, ys, h2, rfl⟩ := h
  exact ⟨i, a.eval o, _, rfl, h0, cx_sound hf h1, cparts_sound hf h2⟩
theorem zcells_sound {i : TypeInfo} {zs : List AV} (h : zcells i = some zs) : ∃ z, i.zero = some z /\ ∀ E w, RvL E w zs z.cells.toList := by
 simp only [zcells, Option.bind_eq_some_iff] at h
 obtain ⟨z, h1, h2⟩ := h
 exact ⟨z, h1, fun E w => cvL_sound _ _ _ h2⟩
def OpOk (E : Env) (w : World) (r : OpR) (res : Result Next) : Prop :=
 match r with
 | .val v st => ∃ u w' E', (res = .ok (.value u) w' \/ (res = .ok .skip w' /\ u = undef)) /\ Ext E w E' w' /\ Sat E' st w' /\ Rv E' w' v u
 | .pan v st => ∃ u w' E', res = .halt (.panic u) w' /\ Ext E w E' w' /\ Sat E' st w' /\ Rv E' w' v u
 | .stuck => True
theorem OpOk.of {st : St} {r : Option AV} {s : Sem Value} {P : Program} (hs : Sat E st w) (h : ∀ v, r = some v -> ∃ u, s.run P w = .ok u w /\ Rv E w v u) :
  OpOk E w (OpR.of st r) ((do pure (.value (<- s)) : Sem Next).run P w) := by
 cases r with
 | none => trivial
 | some v =>
  obtain ⟨u, h1, h2⟩ := h v rfl
  exact ⟨u, w, E, .inl (by simp [h1]), Ext.refl _ _, hs, h2⟩
theorem OpOk.of2 {r : Option (AV × St)} {s : Sem Value} {P : Program} (h : ∀ v st, r = some (v, st) -> ∃ u w' E', s.run P w = .ok u w' /\ Ext E w E' w' /\ Sat E' st w' /\ Rv E' w' v u) :
  OpOk E w (OpR.of2 r) ((do pure (.value (<- s)) : Sem Next).run P w) := by
 cases r with
 | none => trivial
 | some q =>
  obtain ⟨v, st⟩ := q
  obtain ⟨u, w', E', h1, h2, h3, h4⟩ := h v st rfl
  exact ⟨u, w', E', .inl (by simp [h1]), h2, h3, h4⟩
theorem OpOk.ofSt {r : Option St} {s : Sem Unit} {P : Program} (h : ∀ st, r = some st -> ∃ w', s.run P w = .ok () w' /\ Sat E st w' /\ Ext E w E w') :
  OpOk E w (OpR.ofSt r) ((do s; pure .skip : Sem Next).run P w) := by
 cases r with
 | none => trivial
 | some st =>
  obtain ⟨w', h1, h2, h3⟩ := h st rfl
  exact ⟨undef, w', E, .inr ⟨by simp [h1], rfl⟩, h3, h2, rfl⟩
end
end Go.AM
namespace Go.AM
section
variable {E : Env} {w : World} {P : Program} {fr : Fr} {a : Act} {st : St}
theorem keyStr_desc {d : TypeDesc} {str : Bool} (h : keyStr d = some str) : keyDesc str d := by
 cases d <;> simp [keyStr] at h <;> subst h
 ·exact .inr ⟨rfl, _, rfl⟩
 ·exact .inl ⟨rfl, rfl⟩
theorem panic_sound {x : AV} {v : Value} (hs : Sat E st w) (hx : Rv E w x v) :
  OpOk E w (panicR st x) ((do pure (.value (<- Instr.panic v)) : Sem Next).run P w) := by
 cases x <;> try exact trivial
 have h0 := hx
 obtain ⟨y, rfl, hy⟩ := hx
 exact ⟨_, w, E, by simp [Instr.panic], Ext.refl _ _, hs, h0⟩
theorem cbin_sound {op : BinOp} {t u : TypeId} {x y : Operand} {m : MOp} {o : Oper} (ho : o.op = .binOp op t x y u) (hf : RvF E w fr a) (hs : Sat E st w) (hc : cbin P op t x y = some m) :
  OpOk E w (aop fr st m) ((execOp a.eval o).run P w) := by
 simp only [cbin, Option.bind_eq_some_iff] at hc
 obtain ⟨d, hd, x', hx, y', hy, hc⟩ := hc
 have e1 : execOp a.eval o = (do pure (.value (<- (do eqGuard op t x y (a.eval x) (a.eval y); binOp op t (a.eval x) (a.eval y) : Sem Value))) : Sem Next) := by simp only [execOp, ho]
 rw [e1]
 cases hn : nilClass d with
 | none =>
  simp only [hn, Option.some.injEq] at hc; subst hc
  refine OpOk.of hs fun v hv => ?_
  have hv' : binA op (ev fr x') (ev fr y') = some v /\ ((∃ b, ev fr x' = .bool b) -> isBool d = true) := by
   unfold binB at hv
   split at hv
   ·cases hb : isBool d
    ·simp [hb] at hv
    ·rename_i he; simp only [hb, cond_true] at hv; exact ⟨hv, fun _ => rfl⟩
   ·rename_i hne; exact ⟨hv, fun ⟨b, hb⟩ => absurd hb (hne b)⟩
  exact binA_sound (cx_sound hf hx) (cx_sound hf hy) hv'.1 fun hb => by
   have := hv'.2 hb
   cases d <;> simp [isBool] at this
   exact hd
 | some c =>
  simp only [hn] at hc
  cases hcond : (isEq op && (!(c.beq 4) || isConst x || isConst y))
  ·simp [hcond] at hc
  ·simp only [hcond, cond_true, Option.some.injEq] at hc; subst hc
   simp only [Bool.and_eq_true] at hcond
   have hop : op = .eql \/ op = .neq := by
    cases op <;> first | exact .inl rfl | exact .inr rfl | (have := hcond.1; simp [isEq] at this; done)
   refine OpOk.of hs fun v hv => ?_
   cases hq : eqNilA c op (ev fr x') (ev fr y') with
   | none =>
    rw [hq] at hv
    simp only at hv
    cases hpz : ptrSized P d
    ·simp [hpz] at hv
    ·simp only [hpz, cond_true] at hv
     refine eqPtrA_sound hd hn hop (fun q hdq => ?_) (cx_sound hf hx) (cx_sound hf hy) hv
     subst hdq
     unfold ptrSized at hpz
     simp only at hpz
     split at hpz
     ·rename_i i hi
      exact ⟨i, hi, fun h => by rw [h] at hpz; simp at hpz⟩
     ·cases hpz
   | some v' =>
   rw [hq] at hv
   simp only [Option.some.injEq] at hv
   subst hv
   refine eqNilA_sound hd hn ?_ ?_ (cx_sound hf hx) (cx_sound hf hy) hq
   ·cases op <;> first | exact .inl rfl | exact .inr rfl | (have := hcond.1; simp [isEq] at this; done)
   ·intro h4; subst h4
    have := hcond.2
    simp at this
    rcases this with h | h
    ·left; cases x <;> simp [isConst] at h; exact ⟨_, rfl⟩
    ·right; cases y <;> simp [isConst] at h; exact ⟨_, rfl⟩
theorem cbuild_sound {t : TypeId} {ps : Array (Nat × Operand)} {m : MOp} {o : Oper} (ho : o.op = .build t ps) (hf : RvF E w fr a) (hs : Sat E st w) (hc : cbuild P t ps = some m) :
  OpOk E w (aop fr st m) ((execOp a.eval o).run P w) := by
 simp only [cbuild, Option.bind_eq_some_iff] at hc
 obtain ⟨i, hi, zs, hz, hc⟩ := hc
 obtain ⟨z, hz0, hzs⟩ := zcells_sound hz
 have e1 : execOp a.eval o = (do pure (.value (<- Instr.build t (ps.map fun (i, x) => (i, a.eval x)))) : Sem Next) := by simp only [execOp, ho]
 rw [e1]
 have hps : (ps.map fun (i, x) => (i, a.eval x)).toList = ps.toList.map fun p => (p.1, a.eval p.2) := by simp
 cases hd : P.underlying t with
 | none => simp [hd] at hc
 | some d =>
  cases d <;> try (simp only [hd, reduceCtorEq] at hc; done)
  case array n e =>
   simp only [hd, Option.bind_eq_some_iff, Option.map_eq_some_iff] at hc
   obtain ⟨ie, hie, xs, hxs, rfl⟩ := hc
   refine OpOk.of hs fun v hv => ?_
   simp only [Option.map_eq_some_iff] at hv
   obtain ⟨r, hr, rfl⟩ := hv
   obtain ⟨out, h1, h2⟩ := fillA_sound (evParts fr xs) (ps.map fun (i, x) => (i, a.eval x)).toList zs r z.cells (by rw [hps]; exact cparts_sound hf hxs) (hzs E w) hr
   exact ⟨.agg out, run_build (P := P) w t _ out (by simp only [Program.built, hi, hd, hz0, hie]; exact h1), out, rfl, h2⟩
  case struct fs =>
   simp only [hd, Option.bind_eq_some_iff, Option.map_eq_some_iff] at hc
   obtain ⟨places, hpl, xs, hxs, rfl⟩ := hc
   refine OpOk.of hs fun v hv => ?_
   simp only [Option.map_eq_some_iff] at hv
   obtain ⟨r, hr, rfl⟩ := hv
   obtain ⟨out, h1, h2⟩ := fillA_sound (evParts fr xs) (ps.map fun (i, x) => (i, a.eval x)).toList zs r z.cells (by rw [hps]; exact cparts_sound hf hxs) (hzs E w) hr
   exact ⟨.agg out, run_build (P := P) w t _ out (by simp only [Program.built, hi, hd, hz0, hpl]; exact h1), out, rfl, h2⟩
theorem cbslice_sound {t : TypeId} {n : Nat} {ps : Array (Nat × Operand)} {m : MOp} {o : Oper} (ho : o.op = .buildSlice t n ps) (hf : RvF E w fr a) (hs : Sat E st w) (hc : cbslice P t n ps = some m) :
  OpOk E w (aop fr st m) ((execOp a.eval o).run P w) := by
 unfold cbslice at hc
 cases hd : P.underlying t with
 | none => simp [hd] at hc
 | some d =>
  cases d <;> simp only [hd, reduceCtorEq] at hc
  rename_i e
  simp only [Option.bind_eq_some_iff] at hc
  obtain ⟨i, hi, z, hz, zs, hzs, hc⟩ := hc
  cases hb : (n * i.size).ble 16777216
  ·simp [hb] at hc
  ·simp only [hb, cond_true, Option.map_eq_some_iff] at hc
   obtain ⟨xs, hxs, rfl⟩ := hc
   have e1 : execOp a.eval o = (do pure (.value (<- Instr.buildSlice t n (ps.map fun (i, x) => (i, a.eval x)))) : Sem Next) := by simp only [execOp, ho]
   rw [e1]
   have hps : (ps.map fun (i, x) => (i, a.eval x)).toList = ps.toList.map fun p => (p.1, a.eval p.2) := by simp
   simp only [aop]
   cases hr : fillA zs (evParts fr xs) with
   | none => trivial
   | some r =>
    obtain ⟨w', E', h1, h2, h3, h4⟩ := bslice_sound (E := E) (w := w) (st := st) hd hi hz (Nat.le_of_ble_eq_true hb) (fun E w => cvL_sound _ _ _ hzs) (ps := evParts fr xs) (l := ps.map fun (i, x) => (i, a.eval x))
     (by rw [hps]; exact cparts_sound hf hxs) hr hs
    exact ⟨_, w', E', .inl (by simp [h1]), h2, h3, h4⟩
theorem cbuiltin_sound {b : Builtin} {ts : Array TypeId} {args : Array Operand} {m : MOp} {o : Oper} (ho : o.op = .call { callee := .builtin b, args, argTypes := ts }) (hf : RvF E w fr a) (hs : Sat E st w)
  (hc : cbuiltin P b ts args.toList = some m) : OpOk E w (aop fr st m) ((execOp a.eval o).run P w) := by
 have e1 : ∀ s : Sem Value, (∀ cs, builtin b ts o.type cs (args.map a.eval) = (do pure (.value (<- s)) : Sem Next)) -> execOp a.eval o = (do pure (.value (<- s)) : Sem Next) := fun s hs => by
  simp only [execOp, ho, resolve, invoke]
  simp only [pure_bind]
  exact hs _
 have hargs : ∀ l, args.toList = l -> args.map a.eval = (l.map a.eval).toArray := fun l hl => by
  apply Array.ext'; simp [hl]
 cases hl0 : args.toList with
 | nil => simp [hl0, cbuiltin] at hc
 | cons x xs =>
 rw [hl0] at hc
 cases b <;> simp only [cbuiltin] at hc <;> try (simp only [reduceCtorEq] at hc; done)
 case append =>
  cases xs with
  | nil => simp at hc
  | cons y ys =>
  cases ys with
  | cons _ _ => simp at hc
  | nil =>
  have hl := hl0
  simp only [cappend, Option.bind_eq_some_iff] at hc
  obtain ⟨t, ht0, u, hu0, hc⟩ := hc
  cases hd : P.underlying t with
  | none => simp [hd] at hc
  | some d =>
   cases d <;> try (simp only [hd, reduceCtorEq] at hc; done)
   rename_i e
   simp only [hd, Option.bind_eq_some_iff] at hc
   obtain ⟨i, hi, z, hz, hc⟩ := hc
   split at hc
   ·rename_i ki hu
    simp only [Option.bind_eq_some_iff, Option.map_eq_some_iff] at hc
    obtain ⟨zs, hzs, x', hx, y', hy, rfl⟩ := hc
    obtain ⟨z', hz', hzs'⟩ := zcells_sound hzs
    rw [hz] at hz'; injection hz' with hz'; subst hz'
    rw [e1 (Builtin.append_ ts o.type (args.map a.eval)) fun cs => rfl, hargs _ hl]
    exact OpOk.of2 fun v st' hv => appendzA_sound (ty := o.type) ht0 hd hi hz hu0 hu hzs' hs (cx_sound hf hx) (cx_sound hf hy) hv
   cases hcond : (z.cells.size.beq i.size && sliceStr P u)
   ·simp [hcond] at hc
   ·simp only [hcond, cond_true, Option.bind_eq_some_iff, Option.map_eq_some_iff] at hc
    obtain ⟨x', hx, y', hy, rfl⟩ := hc
    simp only [Bool.and_eq_true] at hcond
    have hzs := Nat.eq_of_beq_eq_true hcond.1
    obtain ⟨du, hu, hni⟩ : ∃ du, P.underlying u = some du /\ sliceOrString du := by
     have := hcond.2
     cases hu : P.underlying u with
     | none => simp [sliceStr, hu] at this
     | some du => cases du <;> simp [sliceStr, hu] at this <;> first | exact ⟨_, rfl, .inl ⟨_, rfl⟩⟩ | exact ⟨_, rfl, .inr rfl⟩
    rw [e1 (Builtin.append_ ts o.type (args.map a.eval)) fun cs => rfl, hargs _ hl]
    simp only [aop]
    cases hcont : contentA i.size st (ev fr y') with
    | none => trivial
    | some p =>
     obtain ⟨n, ys⟩ := p
     simp only []
     cases happ : appendA i.bytes i.size st (ev fr x') n ys with
     | none => trivial
     | some q =>
      obtain ⟨v, st'⟩ := q
      obtain ⟨vs, h1, h2, h3, h4⟩ := contentA_sound (P := P) hs (cx_sound hf hy) hcont
      obtain ⟨q, w', E', k1, k2, k3, k4, k5⟩ := appendA_sound (ty := o.type) ht0 hd hi hz hu0 hu hni hzs hs (cx_sound hf hx) h1 h2 h3 h4 happ
      exact ⟨q, w', E', .inl (by simpa using congrArg (fun r => Result.andThen r fun v w => Result.ok (Next.value v) w) k1), k2, tagA_sound k3 (appendA_bt happ) hs (cx_sound hf hx) k4 k5 (fun t ht => by
       cases h8 : isU8 P e
       ·simp [h8] at ht
       ·simp only [h8, cond_true, Option.some.injEq] at ht; exact ht.symm), k4⟩
 case copy =>
  cases xs with
  | nil => simp at hc
  | cons y ys =>
  cases ys with
  | cons _ _ => simp at hc
  | nil =>
  have hl := hl0
  simp only [Option.bind_eq_some_iff] at hc
  obtain ⟨t, ht0, hc⟩ := hc
  cases hd : P.underlying t with
  | none => simp [hd] at hc
  | some d =>
   cases d <;> try (simp only [hd, reduceCtorEq] at hc; done)
   simp only [hd, Option.bind_eq_some_iff, Option.map_eq_some_iff] at hc
   obtain ⟨i, hi, x', hx, y', hy, rfl⟩ := hc
   rw [e1 (Builtin.copy_ ts o.type (args.map a.eval)) fun cs => rfl, hargs _ hl]
   exact OpOk.of2 fun v st' hv => copyA_sound (ty := o.type) ht0 hd hi hs (cx_sound hf hx) (cx_sound hf hy) hv
 case unsafeSliceData =>
  cases xs with
  | cons _ _ => simp at hc
  | nil =>
  have hl := hl0
  simp only [Option.map_eq_some_iff] at hc
  obtain ⟨x', hx, rfl⟩ := hc
  rw [e1 (Builtin.unsafeSliceData_ ts o.type (args.map a.eval)) fun cs => rfl, hargs _ hl]
  exact OpOk.of hs fun v hv => sdatA_sound (cx_sound hf hx) hv
 case unsafeString =>
  cases xs with
  | nil => simp at hc
  | cons y ys =>
  cases ys with
  | cons _ _ => simp at hc
  | nil =>
  have hl := hl0
  simp only [Option.bind_eq_some_iff] at hc
  obtain ⟨pt, ht0, hc⟩ := hc
  split at hc <;> try (simp only [reduceCtorEq] at hc; done)
  rename_i u hpt
  simp only [Option.bind_eq_some_iff] at hc
  obtain ⟨i, hi, hc⟩ := hc
  cases h1 : i.size.beq 1
  ·simp [h1] at hc
  ·simp only [h1, cond_true, Option.bind_eq_some_iff, Option.map_eq_some_iff] at hc
   obtain ⟨x', hx, y', hy, rfl⟩ := hc
   rw [e1 (Builtin.unsafeString_ ts o.type (args.map a.eval)) fun cs => rfl, hargs _ hl]
   exact OpOk.of2 fun v st' hv => ustrA_sound (ty := o.type) ht0 hpt hi (Nat.eq_of_beq_eq_true h1) hs (cx_sound hf hx) (cx_sound hf hy) hv
 case cap =>
  cases xs with
  | cons _ _ => simp at hc
  | nil =>
  have hl := hl0
  simp only [Option.bind_eq_some_iff] at hc
  obtain ⟨t, ht0, hc⟩ := hc
  cases hd : P.underlying t with
  | none => simp [hd] at hc
  | some d =>
   cases d <;> try (simp only [hd, reduceCtorEq] at hc; done)
   simp only [hd, Option.map_eq_some_iff] at hc
   obtain ⟨x', hx, rfl⟩ := hc
   rw [e1 (Builtin.cap_ ts o.type (args.map a.eval)) fun cs => rfl, hargs _ hl]
   exact OpOk.of hs fun v hv => capA_sound ht0 hd (cx_sound hf hx) hv
 case len =>
  cases xs with
  | cons _ _ => simp at hc
  | nil =>
  have hl := hl0
  simp only [Option.bind_eq_some_iff, Option.map_eq_some_iff] at hc
  obtain ⟨t, ht0, d, hd, c, hk, x', hx, rfl⟩ := hc
  rw [e1 (Builtin.len_ ts o.type (args.map a.eval)) fun cs => rfl, hargs _ hl]
  refine OpOk.of hs fun v hv => ?_
  cases hfit : lenFits c (ev fr x')
  ·simp [hfit] at hv
  ·simp only [hfit, cond_true] at hv
   have hcl : lenOk (ev fr x') d := by
    cases d <;> simp [lenKind] at hk <;> subst hk <;> cases hx' : ev fr x' <;> simp [hx', lenFits] at hfit <;> simp [lenOk]
   exact lenA_sound ht0 hd hcl hs (cx_sound hf hx) hv
 case max =>
  have hl := hl0
  simp only [Option.bind_eq_some_iff, Option.map_eq_some_iff] at hc
  obtain ⟨x', hx, xs', hxs, rfl⟩ := hc
  rw [e1 (Builtin.max_ ts o.type (args.map a.eval)) fun cs => rfl, hargs _ hl]
  refine OpOk.of hs fun v hv => ?_
  obtain ⟨q, h1, h2⟩ := foldA_sound (P := P) (f := maxA) (g := Builtin.max2) (fun x y r v u h1 h2 h3 => maxA_sound h1 h2 h3) _ _ v _ _ (cx_sound hf hx) (cxs_sound hf hxs) hv
  exact ⟨q, by simpa [Builtin.max_] using h1, h2⟩
 case min =>
  have hl := hl0
  simp only [Option.bind_eq_some_iff, Option.map_eq_some_iff] at hc
  obtain ⟨x', hx, xs', hxs, rfl⟩ := hc
  rw [e1 (Builtin.min_ ts o.type (args.map a.eval)) fun cs => rfl, hargs _ hl]
  refine OpOk.of hs fun v hv => ?_
  obtain ⟨q, h1, h2⟩ := foldA_sound (P := P) (f := minA) (g := Builtin.min2) (fun x y r v u h1 h2 h3 => minA_sound h1 h2 h3) _ _ v _ _ (cx_sound hf hx) (cxs_sound hf hxs) hv
  exact ⟨q, by simpa [Builtin.min_] using h1, h2⟩
 case panic =>
  cases xs with
  | cons _ _ => simp at hc
  | nil =>
  have hl := hl0
  simp only [Option.map_eq_some_iff] at hc
  obtain ⟨x', hx, rfl⟩ := hc
  rw [e1 (Instr.panic (a.eval x)) fun cs => by rw [hargs _ hl]; rfl]
  exact panic_sound hs (cx_sound hf hx)
theorem allocT_sound {t : TypeId} {i : TypeInfo} {z : Value} {zs : List AV} (hi : P.info? t = some i) (hz : i.zero = some z) (hzs : ∀ E w, RvL E w zs z.cells.toList) (hs : Sat E st w) :
  ∃ w' E', (Instr.alloc t true (.tuple #[])).run P w = .ok (.pointer (some ⟨w.heap.size, 0, none⟩)) w' /\ Ext E w E' w' /\ Sat E' ((st.new (.row zs)).tag st.next t) w' ∧
   Rv E' w' (.ptr st.next 0) (.pointer (some ⟨w.heap.size, 0, none⟩)) /\ True := by
 obtain ⟨h1, h2⟩ := hs.alloc (.cells z.cells t) (.row zs) fun E' hx' => ⟨⟨z.cells, t, (0, 0), heap_alloc_at w _, by rw [(hzs E w).length]; simp, .inl rfl⟩,
  RvMem.new (vs := z.cells) (hzs _ _) (heap_alloc_at w _)⟩
 exact ⟨_, _, by simp [Instr.alloc, newVar, newRow, run_zeroValue' hi hz], h2, h1.tag (b := w.heap.size) (by simp [Env.link]) (shape_alloc w z.cells t (0, 0)), ⟨w.heap.size, by simp [Env.link], rfl⟩, trivial⟩
theorem cop1_sound {fz : Bool} {m : MOp} {o : Oper} (hf : RvF E w fr a) (hs : Sat E st w) (hc : cop1 P fz o = some m) :
  OpOk E w (aop fr st m) ((execOp a.eval o).run P w) := by
 unfold cop1 at hc
 split at hc <;> rename_i ho <;> try (simp only [reduceCtorEq] at hc; done)
 ·
  simp only [Option.map_eq_some_iff] at hc
  obtain ⟨x', hx, rfl⟩ := hc
  exact ⟨_, w, E, .inl (by simp [execOp, ho]), Ext.refl _ _, hs, cx_sound hf hx⟩
 ·simp only [Option.map_eq_some_iff] at hc
  obtain ⟨x', hx, rfl⟩ := hc
  exact ⟨_, w, E, .inl (by simp [execOp, ho]), Ext.refl _ _, hs, cx_sound hf hx⟩
 ·
  simp only [Option.bind_eq_some_iff, Option.map_eq_some_iff] at hc
  obtain ⟨c', hc', a', ha, b', hb, rfl⟩ := hc
  have h1 := cx_sound hf hc'
  simp only [aop]
  cases hcv : ev fr c' <;> try exact trivial
  rw [hcv] at h1
  rename_i cb
  have h1 : a.eval _ = .bool cb := h1
  refine ⟨_, w, E, .inl (by simp [execOp, ho, h1, asBool]; rfl), Ext.refl _ _, hs, ?_⟩
  cases cb
  ·exact cx_sound hf hb
  ·exact cx_sound hf ha
 ·
  simp only [Option.bind_eq_some_iff, Option.map_eq_some_iff] at hc
  obtain ⟨i, hi, zs, hz, rfl⟩ := hc
  obtain ⟨z, hz0, hzs⟩ := zcells_sound hz
  rename_i ta
  cases fz with
  | false =>
   obtain ⟨w', E', h1, h2, h3, h4⟩ := alloc_sound (E := E) (w := w) hi hz0 hzs hs
   exact ⟨_, w', E', .inl (by simp [execOp, ho, h1]), h2, h3, h4⟩
  | true =>
   obtain ⟨w', E', h1, h2, h3, h4, h5⟩ := allocT_sound (E := E) (w := w) hi hz0 hzs hs
   exact ⟨_, w', E', .inl (by simp [execOp, ho, h1]), h2, h3, h4⟩
 ·
  simp only [Option.map_eq_some_iff] at hc
  obtain ⟨x', hx, rfl⟩ := hc
  rename_i elem x0
  cases fz
  ·obtain ⟨w', E', h1, h2, h3, h4⟩ := box_sound (P := P) (e := elem) hs (cx_sound hf hx)
   exact ⟨_, w', E', .inl (by simp [execOp, ho, h1]), h2, h3, h4⟩
  ·obtain ⟨w', E', h1, h2, h3, h4⟩ := box_fz_sound (P := P) (e := elem) hs (cx_sound hf hx)
   exact ⟨_, w', E', .inl (by simp [execOp, ho, h1]), h2, h3, h4⟩
 ·exact cbuild_sound ho hf hs hc
 ·exact cbslice_sound ho hf hs hc
 ·
  simp only [Option.bind_eq_some_iff, Option.map_eq_some_iff] at hc
  obtain ⟨d, hd, i, hi, x', hx, rfl⟩ := hc
  simp only [execOp, ho]
  exact OpOk.of hs fun v hv => loadA_sound hd hi rfl hs (cx_sound hf hx) hv
 ·
  simp only [Option.bind_eq_some_iff, Option.map_eq_some_iff] at hc
  obtain ⟨i, hi, a', ha, x', hx, rfl⟩ := hc
  simp only [execOp, ho]
  exact OpOk.ofSt fun st' hv => storeA_sound hi rfl hs (cx_sound hf ha) (cx_sound hf hx) hv
 ·
  simp only [Option.map_eq_some_iff] at hc
  obtain ⟨x', hx, rfl⟩ := hc
  simp only [aop]
  cases hr : nilchkA (ev fr x') with
  | none => exact trivial
  | some r =>
   obtain ⟨h1, h2⟩ := nilchkA_sound (P := P) ho rfl (cx_sound hf hx) hr
   exact ⟨_, w, E, .inl h1, Ext.refl _ _, hs, h2⟩
 ·exact cbin_sound ho hf hs hc
 ·
  simp only [Option.map_eq_some_iff] at hc
  obtain ⟨x', hx, rfl⟩ := hc
  simp only [execOp, ho]
  exact OpOk.of hs fun v hv => unA_sound (cx_sound hf hx) hv
 ·
  simp only [Option.bind_eq_some_iff] at hc
  obtain ⟨ds, hds, hc⟩ := hc
  have hu8 : ∀ e, isU8 P e = true -> P.underlying e = some (.int .u8) := fun e he => by
   unfold isU8 at he
   split at he
   ·assumption
   ·simp at he
  unfold cconv at hc
  split at hc <;> try (simp only [reduceCtorEq] at hc; done)
  ·rename_i k hd
   simp only [Option.map_eq_some_iff] at hc
   obtain ⟨x', hx, rfl⟩ := hc
   simp only [execOp, ho]
   exact OpOk.of hs fun v hv => convA_sound hds hd (cx_sound hf hx) hv
  ·rename_i e hd
   split at hc <;> try (simp only [reduceCtorEq] at hc; done)
   cases h8 : isU8 P e
   ·simp [h8] at hc
   ·simp only [h8, cond_true, Option.map_eq_some_iff] at hc
    obtain ⟨x', hx, rfl⟩ := hc
    simp only [execOp, ho]
    exact OpOk.of2 fun v st' hv => s2bA_sound hds hd (hu8 e h8) hs (cx_sound hf hx) hv
  ·rename_i hd
   split at hc <;> try (simp only [reduceCtorEq] at hc; done)
   rename_i e
   cases h8 : isU8 P e
   ·simp [h8] at hc
   ·simp only [h8, cond_true, Option.map_eq_some_iff] at hc
    obtain ⟨x', hx, rfl⟩ := hc
    simp only [execOp, ho]
    exact OpOk.of hs fun v hv => b2sA_sound hds hd (hu8 e h8) hs (cx_sound hf hx) hv
  ·rename_i hd
   split at hc <;> try (simp only [reduceCtorEq] at hc; done)
   simp only [Option.bind_eq_some_iff] at hc
   obtain ⟨i, hi, hc⟩ := hc
   cases h0 : i.size.beq 0
   ·simp only [h0, cond_false, Option.map_eq_some_iff] at hc
    obtain ⟨x', hx, rfl⟩ := hc
    simp only [execOp, ho]
    exact OpOk.of hs fun v hv => ptouA_sound hds hd hi (fun h => by rw [h] at h0; simp at h0) hs (cx_sound hf hx) hv
   ·simp [h0] at hc
  ·rename_i u hd
   split at hc <;> try (simp only [reduceCtorEq] at hc; done)
   simp only [Option.bind_eq_some_iff] at hc
   obtain ⟨i, hi, hc⟩ := hc
   cases h0 : i.size.beq 0
   ·simp only [h0, cond_false, Option.map_eq_some_iff] at hc
    obtain ⟨x', hx, rfl⟩ := hc
    simp only [execOp, ho]
    exact OpOk.of hs fun v hv => utopA_sound hds hd hi (fun h => by rw [h] at h0; simp at h0) hs (cx_sound hf hx) hv
   ·simp [h0] at hc
 ·
  simp only [Option.bind_eq_some_iff] at hc
  obtain ⟨d, hd, hc⟩ := hc
  cases hni : notIface d
  ·simp [hni] at hc
  ·simp only [hni, cond_true, Option.map_eq_some_iff] at hc
   obtain ⟨x', hx, rfl⟩ := hc
   obtain ⟨h1, h2⟩ := makeIface_sound (P := P) hd hni (cx_sound hf hx)
   exact ⟨_, w, E, .inl (by simp [execOp, ho, h1]), Ext.refl _ _, hs, h2⟩
 ·
  simp only [Option.bind_eq_some_iff, Option.map_eq_some_iff] at hc
  obtain ⟨xs', hxs, ys', hys, rfl⟩ := hc
  rename_i f0 xs0 ys0
  refine ⟨.func (.func f0) (xs0.map a.eval) (ys0.map a.eval), w, E, .inl (by simp [execOp, ho, Instr.makeFunc]), Ext.refl _ _, hs, _, _, rfl, ?_, ?_⟩
  ·have := cxs_sound hf hxs; simpa using this
  ·have := cxs_sound hf hys; simpa using this
 ·
  split at hc <;> try (simp only [reduceCtorEq] at hc; done)
  rename_i hd
  simp only [Option.some.injEq] at hc; subst hc
  obtain ⟨w', E', h1, h2, h3, h4⟩ := makeMap_sound (r := none) hd (by simp) hs
  exact ⟨_, w', E', .inl (by simp [execOp, ho, h1]), h2, h3, h4⟩
 ·
  split at hc <;> try (simp only [reduceCtorEq] at hc; done)
  rename_i hd
  simp only [Option.bind_eq_some_iff, Option.map_eq_some_iff] at hc
  obtain ⟨i, hi, zs, hzs, l', hl, c', hc', rfl⟩ := hc
  obtain ⟨z, hz, hzs'⟩ := zcells_sound hzs
  simp only [execOp, ho]
  exact OpOk.of2 fun v st' hv => msliceA_sound hd hi hz hzs' hs (cx_sound hf hl) (cx_sound hf hc') hv
 ·
  simp only [Option.bind_eq_some_iff] at hc
  obtain ⟨x', hx, lo', hlo, hi', hhi, mx', hmx, hc⟩ := hc
  split at hc <;> try (simp only [reduceCtorEq] at hc; done)
  ·rename_i hd
   simp only [Option.map_eq_some_iff] at hc
   obtain ⟨i, hi, rfl⟩ := hc
   simp only [execOp, ho]
   exact OpOk.of hs fun v hv => sliceA_sound hd hi (cx_sound hf hx) (cxo_sound hf hlo) (cxo_sound hf hhi) (cxo_sound hf hmx) hv
  ·rename_i hd
   split at hc <;> try (simp only [reduceCtorEq] at hc; done)
   simp only [Option.some.injEq] at hc; subst hc
   have hm := cxo_sound hf hmx
   simp only [execOp, ho]
   refine OpOk.of hs fun v hv => ?_
   simp only [Option.map_none, RvO] at hm
   rw [hm]
   exact sliceSA_sound hd (cx_sound hf hx) (cxo_sound hf hlo) (cxo_sound hf hhi) hv
 ·
  split at hc <;> try (simp only [reduceCtorEq] at hc; done)
  rename_i fs hd
  simp only [Option.bind_eq_some_iff] at hc
  obtain ⟨fd, hfd, i, hi, hc⟩ := hc
  cases hz : i.size.beq 0
  ·simp only [hz, cond_false, Option.map_eq_some_iff] at hc
   obtain ⟨x', hx, rfl⟩ := hc
   simp only [execOp, ho]
   exact OpOk.of hs fun v hv => fieldAt_sound hd hfd hi (by rintro h; rw [h] at hz; simp at hz) (cx_sound hf hx) hv
  ·simp [hz] at hc
 ·
  split at hc <;> try (simp only [reduceCtorEq] at hc; done)
  rename_i fs hd
  simp only [Option.bind_eq_some_iff, Option.map_eq_some_iff] at hc
  obtain ⟨fd, hfd, i, hi, d, hd2, x', hx, rfl⟩ := hc
  simp only [execOp, ho]
  exact OpOk.of hs fun v hv => fieldA_sound hd hfd hd2 hi (cx_sound hf hx) hv
 ·
  simp only [Option.bind_eq_some_iff] at hc
  obtain ⟨x', hx, i', hi', hc⟩ := hc
  simp only [execOp, ho]
  split at hc <;> try (simp only [reduceCtorEq] at hc; done)
  ·rename_i hd
   simp only [Option.map_eq_some_iff] at hc
   obtain ⟨i, hi, rfl⟩ := hc
   exact OpOk.of hs fun v hv => iaddrA_sound hd hi (cx_sound hf hx) (cx_sound hf hi') hv
  ·rename_i hd
   simp only [Option.map_eq_some_iff] at hc
   obtain ⟨i, hi, rfl⟩ := hc
   exact OpOk.of hs fun v hv => aaddrA_sound hd hi (cx_sound hf hx) (cx_sound hf hi') hv
 ·
  simp only [Option.bind_eq_some_iff] at hc
  obtain ⟨x', hx, i', hi', hc⟩ := hc
  simp only [execOp, ho]
  split at hc <;> try (simp only [reduceCtorEq] at hc; done)
  ·rename_i hd
   simp only [Option.some.injEq] at hc; subst hc
   exact OpOk.of hs fun v hv => sindexA_sound hd (cx_sound hf hx) (cx_sound hf hi') hv
  ·rename_i hd
   simp only [Option.bind_eq_some_iff, Option.map_eq_some_iff] at hc
   obtain ⟨i, hi, d, hd2, rfl⟩ := hc
   exact OpOk.of hs fun v hv => aindexA_sound hd hd2 hi (cx_sound hf hx) (cx_sound hf hi') hv
 ·
  split at hc <;> try (simp only [reduceCtorEq] at hc; done)
  rename_i hd
  simp only [Option.bind_eq_some_iff, Option.map_eq_some_iff] at hc
  obtain ⟨d, hk, str, hstr, i, hi, z, hz, zero, hzero, m', hm, k', hk', rfl⟩ := hc
  simp only [execOp, ho]
  exact OpOk.of hs fun v hv => lookupA_sound hd hk (keyStr_desc hstr) hi hz (cv_sound _ _ _ hzero) hs (cx_sound hf hm) (cx_sound hf hk') hv
 ·
  split at hc <;> try (simp only [reduceCtorEq] at hc; done)
  rename_i hd
  simp only [Option.bind_eq_some_iff, Option.map_eq_some_iff] at hc
  obtain ⟨d, hk, str, hstr, m', hm, k', hk', v', hv', rfl⟩ := hc
  simp only [execOp, ho]
  exact OpOk.ofSt fun st' hv => mapupA_sound hd hk (keyStr_desc hstr) hs (cx_sound hf hm) (cx_sound hf hk') (cx_sound hf hv') hv
 ·
  simp only [Option.bind_eq_some_iff] at hc
  obtain ⟨d, hd, hc⟩ := hc
  cases hni : notIface d
  ·simp [hni] at hc
  ·simp only [hni, cond_true, Option.bind_eq_some_iff, Option.map_eq_some_iff] at hc
   obtain ⟨i, hi, z, hz, zero, hzero, x', hx, rfl⟩ := hc
   simp only [execOp, ho]
   exact OpOk.of hs fun v hv => tassertA_sound hd hni hi hz (cv_sound _ _ _ hzero) (cx_sound hf hx) hv
 ·
  simp only [Option.map_eq_some_iff] at hc
  obtain ⟨x', hx, rfl⟩ := hc
  simp only [execOp, ho]
  exact OpOk.of hs fun v hv => extractA_sound (cx_sound hf hx) hv
 ·
  simp only [Option.map_eq_some_iff] at hc
  obtain ⟨x', hx, rfl⟩ := hc
  simp only [execOp, ho]
  exact panic_sound hs (cx_sound hf hx)
 ·exact cbuiltin_sound ho hf hs hc
theorem cop_call {fz : Bool} {o : Oper} {f : X} {xs : List X} (hc : cop P fz o = some (.call f xs)) :
  ∃ fo args ts, o.op = .call { callee := .value fo, args, argTypes := ts } /\ cx fo = some f /\ cxs args.toList = some xs := by
 unfold cop at hc
 cases hcc : ccall o with
 | none =>
  simp only [hcc, Option.bind_eq_some_iff] at hc
  obtain ⟨m, _, hc⟩ := hc
  cases hm : m.isCall
  ·simp only [hm, Bool.false_or] at hc
   cases hm2 : m.special
   ·simp only [hm2, cond_false, Option.some.injEq] at hc; subst hc; simp [MOp.isCall] at hm
   ·simp [hm2] at hc
  ·simp [hm] at hc
 | some m =>
  simp only [hcc, Option.some.injEq] at hc; subst hc
  unfold ccall at hcc
  split at hcc <;> try (simp only [reduceCtorEq] at hcc; done)
  rename_i fo args ts ho
  simp only [Option.bind_eq_some_iff, Option.map_eq_some_iff] at hcc
  obtain ⟨f', h1, xs', h2, h3⟩ := hcc
  injection h3 with h3 h4
  subst h3; subst h4
  exact ⟨fo, args, ts, ho, h1, h2⟩
theorem cop_special {fz : Bool} {o : Oper} {m : MOp} (hc : cop P fz o = some m) : m.special = false := by
 unfold cop at hc
 cases hcc : ccall o with
 | none =>
  simp only [hcc, Option.bind_eq_some_iff] at hc
  obtain ⟨m', _, hc⟩ := hc
  cases hm : m'.special
  ·cases hm2 : m'.isCall
   ·simp only [hm, hm2, Bool.or_self, cond_false, Option.some.injEq] at hc; subst hc; exact hm
   ·simp [hm2] at hc
  ·simp [hm] at hc
 | some m' =>
  simp only [hcc, Option.some.injEq] at hc; subst hc
  unfold ccall at hcc
  split at hcc <;> try (simp only [reduceCtorEq] at hcc; done)
  simp only [Option.bind_eq_some_iff, Option.map_eq_some_iff] at hcc
  obtain ⟨f', h1, xs', h2, rfl⟩ := hcc
  rfl
theorem cop_sound {fz : Bool} {m : MOp} {o : Oper} (hf : RvF E w fr a) (hs : Sat E st w) (hc : cop P fz o = some m) (hnc : m.isCall = false) :
  OpOk E w (aop fr st m) ((execOp a.eval o).run P w) := by
 unfold cop at hc
 cases hcc : ccall o with
 | none =>
  simp only [hcc, Option.bind_eq_some_iff] at hc
  obtain ⟨m', h1, hc⟩ := hc
  simp only [cond_eq_ite, Option.ite_none_left_eq_some, Option.some.injEq] at hc
  obtain ⟨_, rfl⟩ := hc
  exact cop1_sound hf hs h1
 | some m' =>
  simp only [hcc, Option.some.injEq] at hc; subst hc
  unfold ccall at hcc
  split at hcc <;> try (simp only [reduceCtorEq] at hcc; done)
  simp only [Option.bind_eq_some_iff, Option.map_eq_some_iff] at hcc
  obtain ⟨f', h1, xs', h2, rfl⟩ := hcc
  simp [MOp.isCall] at hnc
end
end Go.AM
