import Derived.Test.YtphmjdnljmhipaaGreatDoorAmMem
import Derived.Laws.Slices
import Derived.Laws.AppendOwn
import Derived.Laws.BitsLemmas
import Derived.Laws.Strings
namespace Go.AM
theorem wrap_i64 {n : Int} (h1 : -9223372036854775808 ≤ n) (h2 : n ≤ 9223372036854775807) : IntKind.i64.wrap n = n := by
  rw [IntKind.wrap_i64]; omega
theorem wrap_in64 (n : Int) (h : in64 n = true) : IntKind.i64.wrap n = n := by
  cases n with
  | ofNat m => have h' := Nat.le_of_ble_eq_true h; exact wrap_i64 (Int.le_trans (by decide) (Int.natCast_nonneg m)) (Int.ofNat_le.2 h')
  | negSucc m => have h' := Nat.le_of_ble_eq_true h; exact wrap_i64 (by omega) (Int.le_trans (Int.le_of_lt (Int.negSucc_lt_zero m)) (by decide))
theorem cond_same {α : Type} (b : Bool) (x y : α) (h : b = true → x = y) : (bif b then x else y) = y := by
  cases b
  · rfl
  · exact h rfl
theorem wr_eq (k : IntKind) (n : Int) : wr k n = k.wrap n := by
  cases k with
  | i64 => exact cond_same _ _ _ fun h => (wrap_in64 n h).symm
  | _ => rfl
section
variable {E : Env} {st : St} {w : World} {P : Program}
theorem ofCells_sound {agg : Bool} {n : Nat} {l : List AV} {vs : List Value} {r : AV} (h : RvL E w l vs) (hr : ofCells agg n l = some r) :
    (agg = true → vs.length = n ∧ Rv E w r (.agg vs.toArray)) ∧ (agg = false → ∃ v, vs = [v] ∧ Rv E w r v) := by
  unfold ofCells at hr
  cases agg with
  | true =>
    simp only [cond_true] at hr
    cases hn : l.length.beq n
    · simp [hn] at hr
    · simp [hn] at hr; subst hr
      have := Nat.eq_of_beq_eq_true hn
      exact ⟨fun _ => ⟨by rw [← h.length]; exact this, vs.toArray, rfl, by simpa using h⟩, by simp⟩
  | false =>
    simp only [cond_false] at hr
    refine ⟨by simp, fun _ => ?_⟩
    cases l with
    | nil => simp at hr
    | cons c cs =>
      cases cs with
      | nil =>
        simp at hr; subst hr
        obtain ⟨x, xs, rfl, h1, h2⟩ := h
        cases h2
        exact ⟨x, rfl, h1⟩
      | cons d ds => simp at hr
theorem cellsAt_sound {x : AV} {v : Value} {cs : List AV} (hs : Sat E st w) (h : Rv E w x v) (hc : cellsAt st x = some cs) :
    ∃ a, v = .pointer (some a) ∧ RvMem E w a 0 cs := by
  cases x with
  | fptr ds off =>
    obtain ⟨a, rfl, _, hm⟩ := h
    simp [cellsAt] at hc; subst hc
    exact ⟨_, rfl, hm.at off⟩
  | ptr id off =>
    obtain ⟨b, hb, rfl⟩ := h
    have e : (⟨b, off, none⟩ : Addr) = (⟨b, 0, none⟩ : Addr).add off := by rw [add_at]; simp
    simp only [cellsAt] at hc
    cases ho : st.get id with
    | none => simp [ho] at hc
    | some o =>
      have hobj := hs.obj id o b ho hb
      cases o with
      | loop s => simp [ho] at hc
      | row ds => simp [ho] at hc; subst hc; exact ⟨_, rfl, e ▸ hobj.2.at off⟩
      | fro ds => simp [ho] at hc; subst hc; exact ⟨_, rfl, e ▸ hobj.2.at off⟩
      | map es => simp [ho] at hc
  | _ => simp [cellsAt] at hc
def aggOf : TypeDesc → Bool
  | .struct _ | .array _ _ => true
  | _ => false
theorem run_isAgg {t : TypeId} {d : TypeDesc} (hd : P.underlying t = some d) : (isAgg t).run P w = .ok (aggOf d) w := by
  simp only [isAgg, Sem.run_bind, underlying, run_program, Result.andThen, hd]
  cases d <;> rfl
theorem run_sizeOf' {t : TypeId} {i : TypeInfo} (hi : P.info? t = some i) : (sizeOf t).run P w = .ok i.size w := by
  simp [sizeOf, typeInfo, hi]
theorem loadA_sound {x : AV} {v : Value} {r : AV} {t : TypeId} {d : TypeDesc} {i : TypeInfo} {n : Nat} (hd : P.underlying t = some d) (hi : P.info? t = some i) (hn : i.size = n)
    (hs : Sat E st w) (h : Rv E w x v) (hr : loadA (aggOf d) n st x = some r) : ∃ u, (Instr.loadAt t v).run P w = .ok u w ∧ Rv E w r u := by
  unfold loadA at hr
  cases hc : cellsAt st x with
  | none => simp [hc] at hr
  | some cs =>
    simp [hc] at hr
    obtain ⟨a, rfl, hm⟩ := cellsAt_sound hs h hc
    obtain ⟨vs, hv, hcell⟩ := (hm.take n).vals
    obtain ⟨k1, k2⟩ := ofCells_sound hv hr
    cases hag : aggOf d with
    | true =>
      obtain ⟨e1, e2⟩ := k1 hag
      refine ⟨_, ?_, e2⟩
      have := run_loadCells_list (P := P) w a vs (fun j v hj => by have := hcell j v hj; simpa using this)
      rw [e1] at this
      simp [Instr.loadAt, Instr.sureAddr, loadVar, run_isAgg hd, hag, run_sizeOf' hi, hn, this]
    | false =>
      obtain ⟨v, rfl, e2⟩ := k2 hag
      refine ⟨v, ?_, e2⟩
      have hc0 : w.cell? a = some v := by have := hcell 0 v rfl; simpa [Addr.add] using this
      simp [Instr.loadAt, Instr.sureAddr, loadVar, run_isAgg hd, hag, hc0]
theorem setCells_get (cs xs : List AV) (off j : Nat) (h : off + xs.length ≤ cs.length) :
    (setCells cs off xs)[j]? = if off ≤ j ∧ j < off + xs.length then xs[j - off]? else cs[j]? := by
  unfold setCells
  have hl : (cs.take off).length = off := by simp; omega
  by_cases h1 : j < off
  · rw [List.getElem?_append_left (by omega), if_neg (by omega), List.getElem?_take, if_pos h1]
  · rw [List.getElem?_append_right (by omega), hl]
    by_cases h2 : j < off + xs.length
    · rw [List.getElem?_append_left (by omega), if_pos (by omega)]
    · rw [List.getElem?_append_right (by omega), if_neg (by omega), List.getElem?_drop]
      congr 1; omega
theorem setCells_length (cs xs : List AV) (off : Nat) (h : off + xs.length ≤ cs.length) : (setCells cs off xs).length = cs.length := by
  simp [setCells]; omega
theorem write_row {id b off : Nat} {cs xs : List AV} {vs : List Value} (hs : Sat E st w) (hg : st.get id = some (.row cs)) (hb : E.β id = some b) (hx : RvL E w xs vs)
    (hlen : off + xs.length ≤ cs.length) (hone : ∀ v ∈ vs, v.oneCell' = true) :
    ∃ w', (storeCells ⟨b, off, none⟩ vs).run P w = .ok () w' ∧ Sat E (st.put id (.row (setCells cs off xs))) w' ∧ Ext E w E w' := by
  obtain ⟨⟨c, e, f, hbk, hcs, hfz⟩, hm⟩ := hs.obj id _ b hg hb
  have hl := hx.length
  obtain ⟨w', cur', r1, r2, r3, r4, r5, r6, r7, r8, r9⟩ := run_storeCells (P := P) b off e f vs 0 c w hbk hfz (by omega) hone
  have hsh : ∀ s, w.shape? b = some s → w'.shape? b = some s := fun s h => by
    unfold World.shape? at h ⊢; rw [hbk] at h; rw [r2]; simpa [r3] using h
  refine ⟨w', r1, Sat.write hs id b (.row cs) _ hg rfl hb r5 r6 hsh r7 r8 r9 rfl fun hext => ⟨⟨cur', e, f, r2, ?_, by rw [r3]; exact hfz⟩, ?_⟩⟩
  · rw [setCells_length _ _ _ hlen, r3]; exact hcs
  · refine RvMem.of_get fun j d hd => ?_
    have hcell : w'.cell? ((⟨b, 0, none⟩ : Addr).add (0 + j)) = cur'[j]? := by
      rw [add_at]; simpa using cell_of_row w' b j cur' e f r2
    rw [hcell, r4 j]
    rw [setCells_get _ _ _ _ hlen] at hd
    by_cases hj : off ≤ j ∧ j < off + xs.length
    · rw [if_pos hj] at hd
      rw [if_pos (by omega)]
      obtain ⟨v, h1, h2⟩ := hx.get _ hd
      exact ⟨v, by simpa using h1, Rv.mono hext _ _ h2⟩
    · rw [if_neg hj] at hd
      rw [if_neg (by omega)]
      obtain ⟨v, h1, h2⟩ := hm.get j hd
      refine ⟨v, ?_, Rv.mono hext _ _ h2⟩
      rw [add_at] at h1
      have := cell_of_row w b j c e f hbk
      simp only [Nat.zero_add] at h1
      rw [this] at h1; exact h1
theorem storeA_sound {a x : AV} {va vx : Value} {st' : St} {t : TypeId} {i : TypeInfo} {n : Nat} (hi : P.info? t = some i) (hn : i.size = n)
    (hs : Sat E st w) (ha : Rv E w a va) (hx : Rv E w x vx) (hr : storeA n st a x = some st') :
    ∃ w', (Instr.storeAt t va vx).run P w = .ok () w' ∧ Sat E st' w' ∧ Ext E w E w' := by
  cases a with
  | ptr id off =>
    obtain ⟨b, hb, rfl⟩ := ha
    simp only [storeA] at hr
    cases ho : st.get id with
    | none => simp [ho] at hr
    | some o =>
      cases o with
      | loop s => simp [ho] at hr
      | row cs =>
        simp only [ho] at hr
        cases hcond : x.cells.length.beq n && (off + n).ble cs.length && x.cells.all AV.one
        · simp [hcond] at hr
        · simp only [hcond, cond_true, Option.some.injEq] at hr
          simp only [Bool.and_eq_true] at hcond
          obtain ⟨⟨c1, c2⟩, c3⟩ := hcond
          have c1 := Nat.eq_of_beq_eq_true c1
          have c2 := Nat.le_of_ble_eq_true c2
          have hcl := hx.cells
          obtain ⟨w', r1, r2, r3⟩ := write_row (P := P) (off := off) hs ho hb hcl (by omega) (hcl.one c3)
          refine ⟨w', ?_, hr ▸ r2, r3⟩
          have hsz : vx.cells.size = i.size := by rw [hn, ← c1, hcl.length]; simp
          simp [Instr.storeAt, Instr.sureAddr, storeVar, run_sizeOf' hi, hsz, r1]
      | fro cs => simp [ho] at hr
      | map es => simp [ho] at hr
  | _ => simp [storeA] at hr
end
end Go.AM
namespace Go.AM
section
variable {E : Env} {st : St} {w : World} {P : Program}
theorem boolBin_sound {op : BinOp} {a b : Bool} {r : AV} {s : Sem Value} {sb : Sem Bool} (hr : boolBin op a b = some r) (hb : sb.run P w = .ok (a == b) w)
    (he : op = .eql → s = do pure (.bool (← sb))) (hn : op = .neq → s = do pure (.bool (!(← sb)))) : ∃ u, s.run P w = .ok u w ∧ Rv E w r u := by
  cases op <;> simp [boolBin] at hr
  · subst hr; exact ⟨.bool (a == b), by rw [he rfl]; simp [hb], rfl⟩
  · subst hr; exact ⟨.bool (!(a == b)), by rw [hn rfl]; simp [hb], rfl⟩
theorem bitsOf_sound {op : BinOp} {k : IntKind} {x y : Int} {r : AV} (hr : bitsOf op k x y = some r) : ∃ u, (Op.intBits op k x y).run P w = .ok u w ∧ Rv E w r u := by
  cases op <;> simp only [bitsOf, Option.some.injEq, reduceCtorEq] at hr <;> subst hr <;> exact ⟨_, rfl, rfl⟩
theorem intBin_sound {op : BinOp} {k : IntKind} {a b : Int} {r : AV} {t : TypeId} (hr : intBin op k a b = some r) : ∃ u, (binOp op t (.int k a) (.int k b)).run P w = .ok u w ∧ Rv E w r u := by
  cases op <;> simp only [intBin] at hr <;> try (simp only [Option.some.injEq] at hr; subst hr)
  all_goals first
    | (refine ⟨_, ?_, rfl⟩; simp [binOp, Op.intArith, wr_eq]; done)
    | (refine ⟨_, ?_, rfl⟩; simp [binOp, Op.intCmp]; done)
    | (split at hr
       · simp at hr
       · rename_i hz; simp only [Option.some.injEq] at hr; subst hr
         refine ⟨_, ?_, rfl⟩; simp [binOp, Op.intDiv, hz, wr_eq])
    | (obtain ⟨u, h1, h2⟩ := bitsOf_sound (E := E) (P := P) (w := w) hr; exact ⟨u, by simpa [binOp] using h1, h2⟩)
    | simp at hr
theorem shiftBin_sound {op : BinOp} {k k' : IntKind} {a b : Int} {r : AV} {t : TypeId} (hs : isShift op = true) (hr : shiftBin op k a b = some r) : ∃ u, (binOp op t (.int k a) (.int k' b)).run P w = .ok u w ∧ Rv E w r u := by
  unfold shiftBin at hr
  split at hr
  · simp at hr
  · rename_i hb
    cases op <;> simp [isShift] at hs <;> simp only [Option.some.injEq] at hr <;> subst hr
    · exact ⟨_, by simp [binOp, Op.shift, hb], rfl⟩
    · exact ⟨_, by simp [binOp, Op.shift, hb], rfl⟩
theorem natsEq_iff : ∀ (x y : List UInt8), natsEq (x.map (·.toNat)) (y.map (·.toNat)) = (x == y)
  | [], [] => rfl
  | [], _ :: _ => rfl
  | _ :: _, [] => rfl
  | a :: x, b :: y => by
    have : (a.toNat).beq b.toNat = (a == b) := by
      by_cases h : a = b
      · subst h; simp
      · have h' : a.toNat ≠ b.toNat := fun e => h (UInt8.toNat_inj.1 e)
        have e1 : (a == b) = false := by simpa using h
        rw [e1]
        cases e2 : (a.toNat).beq b.toNat
        · rfl
        · exact absurd (Nat.eq_of_beq_eq_true e2) h'
    simp only [List.map_cons, natsEq, natsEq_iff x y, this]
    rfl
theorem natsLess_iff : ∀ (x y : List UInt8), natsLess (x.map (·.toNat)) (y.map (·.toNat)) = Op.bytesLess x y
  | _, [] => by simp [natsLess, Op.bytesLess]
  | [], _ :: _ => rfl
  | a :: x, b :: y => by
    have h1 : (a.toNat).beq b.toNat = (a == b) := by
      by_cases h : a = b
      · subst h; simp
      · have h' : a.toNat ≠ b.toNat := fun e => h (UInt8.toNat_inj.1 e)
        have e1 : (a == b) = false := by simpa using h
        rw [e1]
        cases e2 : (a.toNat).beq b.toNat
        · rfl
        · exact absurd (Nat.eq_of_beq_eq_true e2) h'
    have h2 : (a.toNat).blt b.toNat = decide (a < b) := by
      by_cases h : a.toNat < b.toNat
      · have : a < b := h
        simp [this, Nat.blt, Nat.ble_eq, Nat.succ_le_of_lt h]
      · have hn : ¬ (a < b) := h
        simp only [hn, decide_false]
        cases e : Nat.blt a.toNat b.toNat
        · rfl
        · exact absurd (Nat.le_of_ble_eq_true e) (by omega)
    simp only [List.map_cons, natsLess, Op.bytesLess, natsLess_iff x y, h1, h2]
theorem strBin_sound {op : BinOp} {a b : List Nat} {sa sb : ByteArray} {r : AV} {t : TypeId} (ha : sa.data.toList.map (·.toNat) = a) (hb : sb.data.toList.map (·.toNat) = b)
    (hr : strBin op a b = some r) : ∃ u, (binOp op t (.string sa) (.string sb)).run P w = .ok u w ∧ Rv E w r u := by
  have eq1 : natsEq a b = (sa.toList == sb.toList) := by rw [← ha, ← hb, natsEq_iff, ByteArray.toList_eq, ByteArray.toList_eq]
  have eq2 : natsLess a b = Op.bytesLess sa.toList sb.toList := by rw [← ha, ← hb, natsLess_iff, ByteArray.toList_eq, ByteArray.toList_eq]
  by_cases hop : op = .add
  · subst hop
    simp only [strBin] at hr
    split at hr
    · rename_i hlen
      simp only [Option.some.injEq] at hr; subst hr
      have h1 : a.length = sa.size := by rw [← ha]; simp
      have h2 : b.length = sb.size := by rw [← hb]; simp
      refine ⟨.string (sa ++ sb), ?_, sa ++ sb, rfl, ?_⟩
      · have : ¬ (9223372036854775807 < ((sa.size : Int) + (sb.size : Int))) := by omega
        have e : IntKind.i64.max = 9223372036854775807 := by decide
        simp [binOp, Op.stringOp, e, this]
      · rw [← ha, ← hb, ← List.map_append, ByteArray.data_append, Array.toList_append]
    · simp at hr
  · cases op <;> simp only [strBin, eq1, eq2, Option.some.injEq, reduceCtorEq] at hr <;> try subst hr
    all_goals first
      | (refine ⟨_, ?_, rfl⟩; simp [binOp, Op.stringOp]; done)
      | exact absurd rfl hop
theorem binA_sound {op : BinOp} {x y r : AV} {vx vy : Value} {t : TypeId} {X Y : Operand} (hx : Rv E w x vx) (hy : Rv E w y vy) (hr : binA op x y = some r)
    (hb : (∃ a, x = .bool a) → P.underlying t = some .bool) : ∃ u, (do eqGuard op t X Y vx vy; binOp op t vx vy : Sem Value).run P w = .ok u w ∧ Rv E w r u := by
  cases x <;> cases y <;> simp only [binA, reduceCtorEq] at hr
  case bool.bool a b =>
    have hx : vx = .bool a := hx
    have hy : vy = .bool b := hy
    subst hx; subst hy
    have hg : (eqGuard op t X Y (.bool a) (.bool b)).run P w = .ok () w := by unfold eqGuard; cases op <;> simp
    have hq' : ∀ n, (Op.equalIn (n + 1) t (.bool a) (.bool b)).run P w = .ok (a == b) w := fun n => by
      simp [Op.equalIn, underlying, hb ⟨a, rfl⟩]
    have hq : (Op.equal t (.bool a) (.bool b)).run P w = .ok (a == b) w := hq' 9999
    simp only [Sem.run_bind, hg, Result.andThen]
    exact boolBin_sound hr hq (fun h => by subst h; rfl) (fun h => by subst h; rfl)
  case int.int k a k' b =>
    have hx : vx = .int k a := hx
    have hy : vy = .int k' b := hy
    subst hx; subst hy
    have hg : (eqGuard op t X Y (.int k a) (.int k' b)).run P w = .ok () w := by unfold eqGuard; cases op <;> simp
    simp only [Sem.run_bind, hg, Result.andThen]
    cases hsh : isShift op
    · simp only [hsh, cond_false] at hr
      split at hr
      · rename_i hk; subst hk; exact intBin_sound hr
      · simp at hr
    · simp only [hsh, cond_true] at hr; exact shiftBin_sound hsh hr
  case str.str a b =>
    obtain ⟨sa, rfl, ha⟩ := hx
    obtain ⟨sb, rfl, hb'⟩ := hy
    have hg : (eqGuard op t X Y (.string sa) (.string sb)).run P w = .ok () w := by unfold eqGuard; cases op <;> simp
    simp only [Sem.run_bind, hg, Result.andThen]
    exact strBin_sound ha hb' hr
def nilClass : TypeDesc → Option Nat
  | .pointer _ => some 0
  | .slice _ => some 1
  | .map _ _ => some 2
  | .func _ _ _ => some 3
  | .interface _ => some 4
  | _ => none
inductive NilV : Nat → Value → Bool → Prop
  | p0 : NilV 0 (.pointer none) true
  | p1 (a : Addr) : NilV 0 (.pointer (some a)) false
  | s0 : NilV 1 (.slice none 0 0) true
  | s1 (a : Addr) (n k : Nat) : NilV 1 (.slice (some a) n k) false
  | m0 : NilV 2 (.map none) true
  | m1 (b : Nat) : NilV 2 (.map (some b)) false
  | f0 : NilV 3 .nilFunc true
  | f1 (f : Fn) (x y : Array Value) : NilV 3 (.func f x y) false
  | i0 : NilV 4 .nilIface true
  | i1 (t : TypeId) (y : Value) : NilV 4 (.iface t y) false
theorem isNil_sound {c : Nat} {x : AV} {v : Value} {b : Bool} (hc : c < 5) (hx : Rv E w x v) (hb : isNil c x = some b) : NilV c v b := by
  obtain rfl | rfl | rfl | rfl | rfl : c = 0 ∨ c = 1 ∨ c = 2 ∨ c = 3 ∨ c = 4 := by omega
  all_goals (cases x <;> simp [isNil] at hb <;> subst hb)
  all_goals first
    | (have hx : v = _ := hx; subst hx; constructor; done)
    | (obtain ⟨_, _, hx⟩ := hx; subst hx; constructor; done)
    | (obtain ⟨_, hx, _⟩ := hx; subst hx; constructor; done)
    | (obtain ⟨_, _, hx, _⟩ := hx; subst hx; constructor; done)
    | (obtain ⟨_, _, _, _, _, hx, _⟩ := hx; subst hx; constructor; done)
theorem nilClass_lt {d : TypeDesc} {c : Nat} (h : nilClass d = some c) : c < 5 := by
  cases d <;> simp [nilClass] at h <;> omega
theorem eqNilA_sound {op : BinOp} {x y r : AV} {vx vy : Value} {t : TypeId} {d : TypeDesc} {c : Nat} {X Y : Operand} (hd : P.underlying t = some d) (hc : nilClass d = some c)
    (hop : op = .eql ∨ op = .neq) (hk : c = 4 → (∃ v, X = .const v) ∨ (∃ v, Y = .const v))
    (hx : Rv E w x vx) (hy : Rv E w y vy) (hr : eqNilA c op x y = some r) : ∃ u, (do eqGuard op t X Y vx vy; binOp op t vx vy : Sem Value).run P w = .ok u w ∧ Rv E w r u := by
  unfold eqNilA at hr
  cases ha : isNil c x with
  | none => simp [ha] at hr
  | some a =>
    cases hb : isNil c y with
    | none => simp [ha, hb] at hr
    | some b =>
      simp only [ha, hb, Option.bind_some] at hr
      cases hab : a || b
      · simp [hab] at hr
      · simp only [hab, cond_true] at hr
        have h1 := isNil_sound (nilClass_lt hc) hx ha
        have h2 := isNil_sound (nilClass_lt hc) hy hb
        clear ha hb hx hy
        have hg : (eqGuard op t X Y vx vy).run P w = .ok () w := by
          unfold eqGuard
          rcases hop with rfl | rfl <;> cases d <;> simp [nilClass] at hc <;> subst hc <;> cases h1 <;> cases h2 <;>
            (first | (simp; done) | (rcases hk rfl with ⟨v, rfl⟩ | ⟨v, rfl⟩ <;> simp; done))
        have hq' : ∀ n, (Op.equalIn (n + 1) t vx vy).run P w = .ok (a == b) w := fun n => by
          simp only [Op.equalIn, underlying, Sem.run_bind, run_program, Result.andThen, hd]
          cases d <;> simp [nilClass] at hc <;> subst hc <;> cases h1 <;> cases h2 <;> first | (simp; done) | (simp at hab; done)
        have hq : (Op.equal t vx vy).run P w = .ok (a == b) w := hq' 9999
        simp only [Sem.run_bind, hg, Result.andThen]
        have hbin : ∀ (_ : op = .eql), binOp op t vx vy = (do pure (.bool (← Op.equal t vx vy)) : Sem Value) := fun h => by
          subst h
          cases d <;> simp [nilClass] at hc <;> subst hc <;> cases h1 <;> cases h2 <;> rfl
        have hbin' : ∀ (_ : op = .neq), binOp op t vx vy = (do pure (.bool (!(← Op.equal t vx vy))) : Sem Value) := fun h => by
          subst h
          cases d <;> simp [nilClass] at hc <;> subst hc <;> cases h1 <;> cases h2 <;> rfl
        exact boolBin_sound hr hq hbin hbin'
theorem unA_sound {op : UnOp} {x r : AV} {v : Value} (hx : Rv E w x v) (hr : unA op x = some r) : ∃ u, (Op.unary op v).run P w = .ok u w ∧ Rv E w r u := by
  cases op <;> cases x <;> simp [unA] at hr <;> subst hr <;> (have hx : v = _ := hx) <;> subst hx
  · exact ⟨_, rfl, by simp [wr_eq, Rv]⟩
  · exact ⟨_, rfl, rfl⟩
end
end Go.AM
namespace Go.AM
section
variable {E : Env} {st : St} {w : World} {P : Program}
theorem faddrA_sound {off : Nat} {x r : AV} {v : Value} (hx : Rv E w x v) (hr : faddrA off x = some r) : ∃ a, v = .pointer (some a) ∧ Rv E w r (.pointer (some (a.add off))) := by
  cases x <;> simp [faddrA] at hr <;> subst hr
  · obtain ⟨b, hb, rfl⟩ := hx
    exact ⟨_, rfl, b, hb, by rw [add_at]⟩
  · obtain ⟨a, rfl, hf, hm⟩ := hx
    exact ⟨_, rfl, a, by rw [add_add], hf, hm⟩
theorem fieldAt_sound {s : TypeId} {fs : Array Field} {f : Nat} {fd : Field} {i : TypeInfo} {x r : AV} {v : Value} (hs : P.underlying s = some (.struct fs)) (hf : fs[f]? = some fd)
    (hi : P.info? fd.type = some i) (hz : i.size ≠ 0) (hx : Rv E w x v) (hr : faddrA fd.offset x = some r) : ∃ u, (Instr.fieldAt s v f).run P w = .ok u w ∧ Rv E w r u := by
  obtain ⟨a, rfl, h⟩ := faddrA_sound hx hr
  exact ⟨_, by simp [Instr.fieldAt, underlying, hs, hf, Instr.sureAddr, fieldPlace, run_sizeOf' hi, hz], h⟩
theorem iaddrA_sound {t e : TypeId} {i : TypeInfo} {x y r : AV} {v u : Value} (ht : P.underlying t = some (.slice e)) (hi : P.info? e = some i)
    (hx : Rv E w x v) (hy : Rv E w y u) (hr : iaddrA i.size x y = some r) : ∃ q, (Instr.indexAt t v u).run P w = .ok q w ∧ Rv E w r q := by
  unfold iaddrA at hr
  cases y <;> try (simp only [reduceCtorEq] at hr; done)
  rename_i k n
  have hy : u = .int k n := hy
  subst hy
  cases n <;> try (simp only [reduceCtorEq] at hr; done)
  rename_i n
  simp only at hr
  cases x <;> simp only [reduceCtorEq] at hr
  · rename_i m cs ex
    cases hb : (n + 1).ble m
    · simp [hb] at hr
    · simp only [hb, cond_true] at hr
      have hb := Nat.le_of_ble_eq_true hb
      cases cs with
      | nil => simp at hr
      | cons c cs =>
        simp only [Option.some.injEq] at hr; subst hr
        obtain ⟨a, cap, rfl, h1, h2, h3, h4⟩ := hx
        refine ⟨.pointer (some (a.add (n * i.size))), ?_, a, rfl, h3 (by simp), h4⟩
        have hlt : n < m := by omega
        simp [Instr.indexAt, asIntOf, underlying, ht, hlt, run_sizeOf' hi]
  · rename_i id off m s cap lo
    cases hb : (n + 1).ble m && s.beq i.size
    · simp [hb] at hr
    · simp only [hb, cond_true, Option.some.injEq] at hr; subst hr
      simp only [Bool.and_eq_true] at hb
      have hb := Nat.le_of_ble_eq_true hb.1
      obtain ⟨b, c, e', m', h0, rfl, h1, h2⟩ := hx
      refine ⟨.pointer (some ((⟨b, off, none⟩ : Addr).add (n * i.size))), ?_, b, h0, by rw [add_at]⟩
      have hlt : n < m := by omega
      simp [Instr.indexAt, asIntOf, underlying, ht, hlt, run_sizeOf' hi]
theorem aaddrA_sound {t e : TypeId} {len : Nat} {i : TypeInfo} {x y r : AV} {v u : Value} (ht : P.underlying t = some (.array len e)) (hi : P.info? e = some i)
    (hx : Rv E w x v) (hy : Rv E w y u) (hr : aaddrA len i.size x y = some r) : ∃ q, (Instr.indexAt t v u).run P w = .ok q w ∧ Rv E w r q := by
  unfold aaddrA at hr
  cases y <;> try (simp only [reduceCtorEq] at hr; done)
  rename_i k n
  have hy : u = .int k n := hy
  subst hy
  cases n <;> try (simp only [reduceCtorEq] at hr; done)
  rename_i n
  simp only at hr
  cases hb : (n + 1).ble len
  · simp [hb] at hr
  · simp only [hb, cond_true] at hr
    have hb := Nat.le_of_ble_eq_true hb
    obtain ⟨a, rfl, h⟩ := faddrA_sound hx hr
    refine ⟨_, ?_, h⟩
    have hlt : n < len := by omega
    simp [Instr.indexAt, asIntOf, underlying, ht, hlt, run_sizeOf' hi, Instr.sureAddr]
theorem partA_sound {t : TypeId} {d : TypeDesc} {i : TypeInfo} {off : Nat} {cs : List AV} {vs : List Value} {r : AV} (hd : P.underlying t = some d) (hi : P.info? t = some i)
    (hx : RvL E w cs vs) (hr : partA (aggOf d) off i.size cs = some r) : ∃ u, (part t vs.toArray off).run P w = .ok u w ∧ Rv E w r u := by
  unfold partA at hr
  cases hag : aggOf d with
  | true =>
    simp only [hag, cond_true] at hr
    cases hb : (off + i.size).ble cs.length
    · simp [hb] at hr
    · simp only [hb, cond_true, Option.some.injEq] at hr; subst hr
      refine ⟨.agg (vs.toArray.extract off (off + i.size)), ?_, _, rfl, ?_⟩
      · simp [part, run_isAgg hd, hag, run_sizeOf' hi]
      · have := (hx.drop off).take i.size
        simpa [List.extract_eq_take_drop] using this
  | false =>
    simp only [hag, cond_false] at hr
    obtain ⟨u, h1, h2⟩ := hx.get _ hr
    exact ⟨u, by simp [part, run_isAgg hd, hag, h1], h2⟩
theorem fieldA_sound {s : TypeId} {fs : Array Field} {f : Nat} {fd : Field} {d : TypeDesc} {i : TypeInfo} {x r : AV} {v : Value} (hs : P.underlying s = some (.struct fs)) (hf : fs[f]? = some fd)
    (hd : P.underlying fd.type = some d) (hi : P.info? fd.type = some i) (hx : Rv E w x v) (hr : fieldA (aggOf d) fd.offset i.size x = some r) :
    ∃ u, (Instr.field s v f).run P w = .ok u w ∧ Rv E w r u := by
  cases x <;> simp only [fieldA, reduceCtorEq] at hr
  obtain ⟨vs, rfl, h⟩ := hx
  obtain ⟨u, h1, h2⟩ := partA_sound (vs := vs.toList) hd hi h hr
  exact ⟨u, by simpa [Instr.field, underlying, hs, hf, asAgg] using h1, h2⟩
theorem aindexA_sound {t e : TypeId} {len : Nat} {d : TypeDesc} {i : TypeInfo} {x y r : AV} {v u : Value} (ht : P.underlying t = some (.array len e))
    (hd : P.underlying e = some d) (hi : P.info? e = some i) (hx : Rv E w x v) (hy : Rv E w y u) (hr : aindexA (aggOf d) len i.size x y = some r) :
    ∃ q, (Instr.index t v u).run P w = .ok q w ∧ Rv E w r q := by
  unfold aindexA at hr
  cases y <;> try (simp only [reduceCtorEq] at hr; done)
  rename_i k n
  have hy : u = .int k n := hy
  subst hy
  cases n <;> try (simp only [reduceCtorEq] at hr; done)
  rename_i n
  simp only at hr
  cases hb : (n + 1).ble len
  · simp [hb] at hr
  · simp only [hb, cond_true] at hr
    have hb := Nat.le_of_ble_eq_true hb
    cases x <;> simp only [fieldA, reduceCtorEq] at hr
    obtain ⟨vs, rfl, h⟩ := hx
    obtain ⟨q, h1, h2⟩ := partA_sound (vs := vs.toList) hd hi h hr
    have hlt : n < len := by omega
    exact ⟨q, by simpa [Instr.index, asIntOf, underlying, ht, hlt, run_sizeOf' hi] using h1, h2⟩
theorem sindexA_sound {t : TypeId} {x y r : AV} {v u : Value} (ht : P.underlying t = some .string) (hx : Rv E w x v) (hy : Rv E w y u) (hr : sindexA x y = some r) :
    ∃ q, (Instr.index t v u).run P w = .ok q w ∧ Rv E w r q := by
  unfold sindexA at hr
  cases y <;> try (simp only [reduceCtorEq] at hr; done)
  rename_i k n
  have hy : u = .int k n := hy
  subst hy
  cases n <;> try (simp only [reduceCtorEq] at hr; done)
  rename_i n
  simp only at hr
  cases x <;> simp only [reduceCtorEq] at hr
  rename_i l
  obtain ⟨s, rfl, hs⟩ := hx
  cases hl : l[n]? with
  | none => simp [hl] at hr
  | some b =>
    simp only [hl, Option.some.injEq] at hr; subst hr
    have hb : (s.data.toList)[n]?.map (·.toNat) = some b := by rw [← List.getElem?_map, hs, hl]
    cases hb' : (s.data.toList)[n]? with
    | none => simp [hb'] at hb
    | some c =>
      simp only [hb', Option.map_some, Option.some.injEq] at hb
      have hlt : n < s.size := by
        have := (List.getElem?_eq_some_iff.1 hb').1
        simpa using this
      have hg : s[n]? = some c := by
        rw [ByteArray.getElem?_lt' s n hlt]
        have : s.data[n]? = some c := by simpa using hb'
        rw [Array.getElem?_eq_getElem (by simpa using hlt)] at this
        injection this with this
        exact congrArg some this
      exact ⟨.int .u8 c.toNat, by simp [Instr.index, asIntOf, underlying, ht, hg], by rw [← hb]; rfl⟩
theorem convA_sound {s t : TypeId} {ds : TypeDesc} {k : IntKind} {x r : AV} {v : Value} (hs : P.underlying s = some ds) (ht : P.underlying t = some (.int k)) (hx : Rv E w x v) (hr : convA k x = some r) :
    ∃ u, (convert s t v).run P w = .ok u w ∧ Rv E w r u := by
  cases x <;> simp only [convA, reduceCtorEq] at hr
  rename_i k' n
  have hx : v = .int k' n := hx
  subst hx
  simp only [Option.some.injEq] at hr; subst hr
  refine ⟨.int k (k.wrap n), ?_, by simp [Rv, wr_eq]⟩
  simp only [convert, underlying, Sem.run_bind, run_program, Result.andThen, hs, ht]
  simp [Conv.intToInt]
theorem extractA_sound {i : Nat} {x r : AV} {v : Value} (hx : Rv E w x v) (hr : extractA i x = some r) : ∃ u, (Instr.extract v i).run P w = .ok u w ∧ Rv E w r u := by
  cases x <;> simp only [extractA, reduceCtorEq] at hr
  obtain ⟨vs, rfl, h⟩ := hx
  obtain ⟨u, h1, h2⟩ := h.get _ hr
  refine ⟨u, ?_, h2⟩
  have : vs[i]? = some u := by simpa using h1
  simp [Instr.extract, this]
def lenClass : TypeDesc → Bool
  | .string | .slice _ | .map _ _ => true
  | _ => false
theorem RvEs.length : ∀ {es : List (AV × AV)} {l : List MapEntry}, RvEs E w es l → es.length = l.length
  | [], _, h => by subst h; rfl
  | (_, _) :: es, _, ⟨x, xs, h, _, _, h2⟩ => by subst h; simp [RvEs.length h2]
def lenOk (x : AV) (d : TypeDesc) : Prop :=
  match x with
  | .str _ => d = .string
  | .nilmap => ∃ k e, d = .map k e
  | .map _ => ∃ k e, d = .map k e
  | _ => ∃ e, d = .slice e
theorem lenA_sound {t ty : TypeId} {ts : Array TypeId} {d : TypeDesc} {x r : AV} {v : Value} (ht0 : ts[0]? = some t) (ht : P.underlying t = some d)
    (hcl : lenOk x d)
    (hs : Sat E st w) (hx : Rv E w x v) (hr : lenA st x = some r) : ∃ u, (Builtin.len_ ts ty #[v]).run P w = .ok u w ∧ Rv E w r u := by
  unfold lenOk at hcl
  cases x <;> simp only [lenA, reduceCtorEq] at hr <;> try (simp only [Option.some.injEq] at hr; subst hr)
  · obtain ⟨s, rfl, hl⟩ := hx
    simp only at hcl; subst hcl
    have : s.size = s.data.toList.length := by simp
    exact ⟨goInt s.size, by simp [Builtin.len_, ht0, underlying, ht], by rw [← hl]; simp [Rv, goInt]⟩
  · have hx : v = .slice none 0 0 := hx
    obtain ⟨e, rfl⟩ := hcl; subst hx
    exact ⟨goInt 0, by simp [Builtin.len_, ht0, underlying, ht], rfl⟩
  · obtain ⟨e, rfl⟩ := hcl
    obtain ⟨a, cap, rfl, _⟩ := hx
    exact ⟨goInt _, by simp [Builtin.len_, ht0, underlying, ht], rfl⟩
  · obtain ⟨e, rfl⟩ := hcl
    obtain ⟨b, c, e', m', h0, rfl, _⟩ := hx
    exact ⟨goInt _, by simp [Builtin.len_, ht0, underlying, ht], rfl⟩
  · have hx : v = .map none := hx
    obtain ⟨k, e, rfl⟩ := hcl; subst hx
    exact ⟨goInt 0, by simp [Builtin.len_, ht0, underlying, ht], rfl⟩
  · obtain ⟨k, e, rfl⟩ := hcl
    rename_i id
    obtain ⟨b, hb, rfl⟩ := hx
    cases ho : st.get id with
    | none => simp [ho] at hr
    | some o =>
      cases o with
      | loop s => simp [ho] at hr
      | map es =>
        simp only [ho, Option.some.injEq] at hr; subst hr
        obtain ⟨l, clock, h1, h2⟩ := hs.obj id _ b ho hb
        have hg : (getObj b).run P w = .ok (.map l clock) w := by simp [getObj, Sem.run, h1]
        exact ⟨goInt l.size, by simp [Builtin.len_, ht0, underlying, ht, hg], by rw [RvEs.length h2]; simp [Rv, goInt]⟩
      | row _ => simp [ho] at hr
      | fro _ => simp [ho] at hr
theorem capA_sound {t ty e : TypeId} {ts : Array TypeId} {x r : AV} {v : Value} (ht0 : ts[0]? = some t) (ht : P.underlying t = some (.slice e)) (hx : Rv E w x v) (hr : capA x = some r) :
    ∃ u, (Builtin.cap_ ts ty #[v]).run P w = .ok u w ∧ Rv E w r u := by
  unfold capA at hr
  split at hr <;> simp only [Option.some.injEq, reduceCtorEq] at hr <;> subst hr
  · have hx : v = .slice none 0 0 := hx
    subst hx
    exact ⟨goInt 0, by simp [Builtin.cap_, ht0, underlying, ht], rfl⟩
  · obtain ⟨a, cap, rfl, _, hc, _⟩ := hx
    exact ⟨goInt cap, by simp [Builtin.cap_, ht0, underlying, ht], by rw [hc rfl]; rfl⟩
  · obtain ⟨b, c, e', m', h0, rfl, _, hc, _⟩ := hx
    exact ⟨goInt c, by simp [Builtin.cap_, ht0, underlying, ht], by rw [hc _ rfl]; rfl⟩
theorem maxA_sound {x y r : AV} {v u : Value} (hx : Rv E w x v) (hy : Rv E w y u) (hr : maxA x y = some r) : ∃ q, (Builtin.max2 v u).run P w = .ok q w ∧ Rv E w r q := by
  unfold maxA at hr
  split at hr <;> simp only [Option.some.injEq, reduceCtorEq] at hr
  subst hr
  rename_i k a k' b
  have hx : v = .int k a := hx
  have hy : u = .int k' b := hy
  subst hx; subst hy
  exact ⟨_, rfl, rfl⟩
theorem minA_sound {x y r : AV} {v u : Value} (hx : Rv E w x v) (hy : Rv E w y u) (hr : minA x y = some r) : ∃ q, (Builtin.min2 v u).run P w = .ok q w ∧ Rv E w r q := by
  unfold minA at hr
  split at hr <;> simp only [Option.some.injEq, reduceCtorEq] at hr
  subst hr
  rename_i k a k' b
  have hx : v = .int k a := hx
  have hy : u = .int k' b := hy
  subst hx; subst hy
  exact ⟨_, rfl, rfl⟩
theorem foldA_sound {f : AV → AV → Option AV} {g : Value → Value → Sem Value} (hf : ∀ x y r v u, Rv E w x v → Rv E w y u → f x y = some r → ∃ q, (g v u).run P w = .ok q w ∧ Rv E w r q) :
    ∀ (l : List AV) (x r : AV) (v : Value) (vs : List Value), Rv E w x v → RvL E w l vs → foldA f x l = some r → ∃ q, (vs.foldlM g v).run P w = .ok q w ∧ Rv E w r q
  | [], x, r, v, vs, hx, hl, hr => by
    cases hl; simp only [foldA, Option.some.injEq] at hr; subst hr; exact ⟨v, by simp, hx⟩
  | y :: l, x, r, v, _, hx, ⟨u, us, rfl, h1, h2⟩, hr => by
    simp only [foldA] at hr
    cases hz : f x y with
    | none => simp [hz] at hr
    | some z =>
      simp only [hz, Option.bind_some] at hr
      obtain ⟨q, h3, h4⟩ := hf x y z v u hx h1 hz
      obtain ⟨q', h5, h6⟩ := foldA_sound hf l z r q us h4 h2 hr
      exact ⟨q', by simp [h3, h5], h6⟩
end
end Go.AM
namespace Go.AM
section
variable {E : Env} {st : St} {w : World} {P : Program}
theorem RvMem.new_prefix {cs : List AV} {vs : List Value} {arr : Array Value} {b : Nat} {e : TypeId} {fr : Nat × Nat} (h : RvL E w cs vs) (hb : w.heap[b]? = some (.cells arr e fr))
    (hp : ∀ (j : Nat) v, vs[j]? = some v → arr[j]? = some v) : RvMem E w ⟨b, 0, none⟩ 0 cs :=
  RvMem.of_get fun j c hc => by
    obtain ⟨v, h1, h2⟩ := h.get j hc
    refine ⟨v, ?_, h2⟩
    rw [add_at]
    simp only [Nat.zero_add]
    rw [cell_of_row w b j arr e fr hb]
    exact hp j v h1
theorem heap_alloc_at (w : World) (o : Obj) : (w.alloc o).heap[w.heap.size]? = some o := heap_alloc_new w o
theorem shape_alloc (w : World) (c : Array Value) (e : TypeId) (fr : Nat × Nat) : (w.alloc (.cells c e fr)).shape? w.heap.size = some (e, c.size) := by
  unfold World.shape?; rw [heap_alloc_at]
theorem box_fz_sound {e : TypeId} {x : AV} {v : Value} (hs : Sat E st w) (hx : Rv E w x v) :
    ∃ w' E', (Instr.box e v).run P w = .ok (.pointer (some ⟨w.heap.size, 0, none⟩)) w' ∧ Ext E w E' w' ∧ Sat E' st w' ∧ Rv E' w' (.fptr x.cells 0) (.pointer (some ⟨w.heap.size, 0, none⟩)) := by
  obtain ⟨h1, h2⟩ := hs.allocFz (.cells v.cells e)
  refine ⟨_, _, by simp [Instr.box, newVar, newRow], h2, h1, ⟨w.heap.size, 0, none⟩, by rw [add_at], Or.inl rfl, ?_⟩
  exact RvMem.new (vs := v.cells) (RvL.mono h2 _ _ hx.cells) (heap_alloc_at w _)
theorem box_sound {e : TypeId} {x : AV} {v : Value} (hs : Sat E st w) (hx : Rv E w x v) :
    ∃ w' E', (Instr.box e v).run P w = .ok (.pointer (some ⟨w.heap.size, 0, none⟩)) w' ∧ Ext E w E' w' ∧ Sat E' (st.new (.row x.cells)) w' ∧
      Rv E' w' (.ptr st.next 0) (.pointer (some ⟨w.heap.size, 0, none⟩)) := by
  obtain ⟨h1, h2⟩ := hs.alloc (.cells v.cells e) (.row x.cells) fun E' hx' => ⟨⟨v.cells, e, (0, 0), heap_alloc_at w _, by rw [hx.cells.length]; simp, .inl rfl⟩,
    RvMem.new (vs := v.cells) (RvL.mono hx' _ _ hx.cells) (heap_alloc_at w _)⟩
  exact ⟨_, _, by simp [Instr.box, newVar, newRow], h2, h1, w.heap.size, by simp [Env.link], rfl⟩
theorem run_zeroValue' {t : TypeId} {i : TypeInfo} {z : Value} (hi : P.info? t = some i) (hz : i.zero = some z) : (zeroValue t).run P w = .ok z w := by
  simp [zeroValue, typeInfo, hi, hz]
theorem alloc_sound {t : TypeId} {i : TypeInfo} {z : Value} {zs : List AV} (hi : P.info? t = some i) (hz : i.zero = some z) (hzs : ∀ E w, RvL E w zs z.cells.toList) (hs : Sat E st w) :
    ∃ w' E', (Instr.alloc t true (.tuple #[])).run P w = .ok (.pointer (some ⟨w.heap.size, 0, none⟩)) w' ∧ Ext E w E' w' ∧ Sat E' (st.new (.row zs)) w' ∧
      Rv E' w' (.ptr st.next 0) (.pointer (some ⟨w.heap.size, 0, none⟩)) := by
  obtain ⟨h1, h2⟩ := hs.alloc (.cells z.cells t) (.row zs) fun E' hx' => ⟨⟨z.cells, t, (0, 0), heap_alloc_at w _, by rw [(hzs E w).length]; simp, .inl rfl⟩,
    RvMem.new (vs := z.cells) (hzs _ _) (heap_alloc_at w _)⟩
  exact ⟨_, _, by simp [Instr.alloc, newVar, newRow, run_zeroValue' hi hz], h2, h1, w.heap.size, by simp [Env.link], rfl⟩
theorem alloc_link_sound {t : TypeId} {i : TypeInfo} {z : Value} {zs : List AV} {id : Nat} (hi : P.info? t = some i) (hz : i.zero = some z) (hzs : ∀ E w, RvL E w zs z.cells.toList) (hs : Sat E st w)
    (hid : id < st.next) (hβ : E.β id = none) (hr : ¬ E.Rs id) (hg : st.get id = some (.row zs)) :
    ∃ w', (Instr.alloc t true (.tuple #[])).run P w = .ok (.pointer (some ⟨w.heap.size, 0, none⟩)) w' ∧ Ext E w (E.link id w.heap.size) w' ∧ Sat (E.link id w.heap.size) st w' ∧
      Rv (E.link id w.heap.size) w' (.ptr id 0) (.pointer (some ⟨w.heap.size, 0, none⟩)) := by
  obtain ⟨h1, h2⟩ := hs.link (.cells z.cells t) id (.row zs) hid hβ hr hg fun E' hx' => ⟨⟨z.cells, t, (0, 0), heap_alloc_at w _, by rw [(hzs E w).length]; simp, .inl rfl⟩,
    RvMem.new (vs := z.cells) (hzs _ _) (heap_alloc_at w _)⟩
  exact ⟨_, by simp [Instr.alloc, newVar, newRow, run_zeroValue' hi hz], h2, h1, w.heap.size, by simp [Env.link], rfl⟩
theorem makeMap_sound {t : TypeId} {kt et : TypeId} {r : Option Value} (ht : P.underlying t = some (.map kt et)) (hr : ∀ v, r = some v → ∃ k n, v = .int k n) (hs : Sat E st w) :
    ∃ w' E', (Instr.makeMap t r).run P w = .ok (.map (some w.heap.size)) w' ∧ Ext E w E' w' ∧ Sat E' (st.new (.map [])) w' ∧ Rv E' w' (.map st.next) (.map (some w.heap.size)) := by
  obtain ⟨h1, h2⟩ := hs.alloc (.map #[] 0) (.map []) fun E' _ => ⟨#[], 0, heap_alloc_at w _, rfl⟩
  refine ⟨_, _, ?_, h2, h1, w.heap.size, by simp [Env.link], rfl⟩
  cases r with
  | none => simp [Instr.makeMap]
  | some v => obtain ⟨k, n, rfl⟩ := hr v rfl; simp [Instr.makeMap, underlying, ht, asInt, asIntOf]
def RvParts (E : Env) (w : World) : List (Nat × Nat × AV) → List (Nat × Value) → (Nat → Option (Nat × Nat)) → Prop
  | [], l, _ => l = []
  | (off, n, x) :: ps, l, place => ∃ i v vs, l = (i, v) :: vs ∧ place i = some (off, n) ∧ Rv E w x v ∧ RvParts E w ps vs place
theorem foldl_set (vs : List Value) (off : Nat) : ∀ (k : Nat) (cs : Array Value), off + k + vs.length ≤ cs.size →
    ((vs.zipIdx k).foldl (fun (cs : Array Value) (p : Value × Nat) => cs.setIfInBounds (off + p.2) p.1) cs).toList = cs.toList.take (off + k) ++ (vs ++ cs.toList.drop (off + k + vs.length)) := by
  induction vs with
  | nil => intro k cs h; simp
  | cons v vs ih =>
    intro k cs h
    simp only [List.length_cons] at h
    simp only [List.zipIdx_cons, List.foldl_cons]
    rw [ih (k + 1) _ (by simp; omega)]
    have hlt : off + k < cs.size := by omega
    rw [Array.toList_setIfInBounds]
    have e1 : (cs.toList.set (off + k) v).take (off + (k + 1)) = cs.toList.take (off + k) ++ [v] := by
      apply List.ext_getElem?
      intro j
      rw [List.getElem?_take]
      by_cases hj : j < off + (k + 1)
      · rw [if_pos hj]
        by_cases hj2 : j = off + k
        · subst hj2
          rw [List.getElem?_append_right (by rw [List.length_take]; exact Nat.min_le_left ..)]
          simp [hlt, Nat.min_eq_left (Nat.le_of_lt hlt)]
        · rw [List.getElem?_append_left (by simp; omega), List.getElem?_set_ne (by omega), List.getElem?_take, if_pos (by omega)]
      · rw [if_neg hj, List.getElem?_eq_none (by simp; omega)]
    have e2 : (cs.toList.set (off + k) v).drop (off + (k + 1) + vs.length) = cs.toList.drop (off + k + (vs.length + 1)) := by
      rw [List.drop_set_of_lt (by omega)]
      congr 1; omega
    rw [e1, e2]; simp
theorem fillA_sound {place : Nat → Option (Nat × Nat)} : ∀ (ps : List (Nat × Nat × AV)) (l : List (Nat × Value)) (cs r : List AV) (vs : Array Value),
    RvParts E w ps l place → RvL E w cs vs.toList → fillA cs ps = some r → ∃ out, Instr.fill place vs l = some out ∧ RvL E w r out.toList
  | [], l, cs, r, vs, hp, hc, hr => by
    have hp : l = [] := hp
    subst hp
    simp only [fillA, Option.some.injEq] at hr; subst hr
    exact ⟨vs, rfl, hc⟩
  | (off, n, x) :: ps, _, cs, r, vs, ⟨i, v, l, rfl, hpl, hx, hp⟩, hc, hr => by
    simp only [fillA] at hr
    cases hcond : x.cells.length.beq n && (off + n).ble cs.length
    · simp [hcond] at hr
    · simp only [hcond, cond_true] at hr
      simp only [Bool.and_eq_true] at hcond
      have c1 := Nat.eq_of_beq_eq_true hcond.1
      have c2 := Nat.le_of_ble_eq_true hcond.2
      have hl := hc.length
      have hxl := hx.cells.length
      have e1 : v.cells.size = n := by rw [← c1, hxl]; simp
      have hsz : vs.size = vs.toList.length := by simp
      have hfold := foldl_set v.cells.toList off 0 vs (by simp; omega)
      have hnew : RvL E w (setCells cs off x.cells) ((v.cells.zipIdx.foldl (fun (cs : Array Value) (p : Value × Nat) => cs.setIfInBounds (off + p.2) p.1) vs)).toList := by
        have : (v.cells.zipIdx.foldl (fun (cs : Array Value) (p : Value × Nat) => cs.setIfInBounds (off + p.2) p.1) vs) =
            ((v.cells.toList.zipIdx 0).foldl (fun (cs : Array Value) (p : Value × Nat) => cs.setIfInBounds (off + p.2) p.1) vs) := by
          rw [← Array.foldl_toList, Array.toList_zipIdx]
        rw [this, hfold]
        simp only [Nat.add_zero, setCells]
        rw [hxl]
        exact (hc.take off).append (hx.cells.append (hc.drop _))
      obtain ⟨out, h1, h2⟩ := fillA_sound ps l _ r _ hp hnew hr
      refine ⟨out, ?_, h2⟩
      simp only [Instr.fill, hpl, e1]
      rw [if_neg (by simp; omega)]
      exact h1
end
end Go.AM
