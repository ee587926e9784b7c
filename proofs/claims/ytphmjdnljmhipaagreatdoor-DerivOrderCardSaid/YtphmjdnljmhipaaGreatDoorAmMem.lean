import Derived.Test.YtphmjdnljmhipaaGreatDoorAmDef
import Derived.CallsIn
import Derived.Below
import Derived.Laws.Cells
import Derived.Laws.Rows
/- The abstract machine, part 1: abstract values and objects, the heap of objects, and how they stand to the values and worlds of the model. No program in sight. -/
namespace Go.AM

/-- May be written. -/
def AO.live : AO → Bool
  | .fro _ => false
  | _ => true

/-! ### A tree over the binary digits of a number -/
section
variable {α : Type}
theorem Tr.getN_nil : ∀ (f n : Nat), Tr.getN f (.nil : Tr α) n = none
  | 0, _ => rfl
  | f + 1, n => by
    unfold Tr.getN
    simp only [Tr.val, Tr.left, Tr.right, Tr.getN_nil f]
    cases n.beq 0 <;> cases (n.mod 2).beq 1 <;> rfl

theorem Tr.getN_setN : ∀ (f g : Nat) (t : Tr α) (n m : Nat) (o : Option α), n ≤ f → m ≤ g → Tr.getN g (Tr.setN f t n o) m = if m = n then o else Tr.getN g t m
  | f, g, t, n, m, o, hn, hm => by
    cases f with
    | zero =>
      obtain rfl : n = 0 := by omega
      cases g with
      | zero => obtain rfl : m = 0 := by omega
                simp [Tr.getN, Tr.setN, Tr.val]
      | succ g =>
        by_cases h0 : m = 0
        · subst h0; simp [Tr.getN, Tr.setN, Tr.val, Nat.beq]
        · have hb : m.beq 0 = false := by cases m <;> simp_all [Nat.beq]
          simp only [Tr.getN, Tr.setN, hb, cond_false, Tr.left, Tr.right, if_neg h0]
    | succ f =>
      cases g with
      | zero =>
        obtain rfl : m = 0 := by omega
        by_cases h0 : n = 0
        · subst h0; simp [Tr.getN, Tr.setN, Tr.val, Nat.beq]
        · have hb : n.beq 0 = false := by cases n <;> simp_all [Nat.beq]
          simp only [Tr.setN, hb, cond_false]
          rw [if_neg (by omega)]
          cases (n.mod 2).beq 1 <;> simp [Tr.getN, Tr.val]
      | succ g =>
        have ih := Tr.getN_setN f g
        by_cases hn0 : n = 0
        · subst hn0
          by_cases hm0 : m = 0
          · subst hm0; simp [Tr.getN, Tr.setN, Tr.val, Nat.beq]
          · have hb : m.beq 0 = false := by cases m <;> simp_all [Nat.beq]
            simp only [Tr.getN, Tr.setN, hb, cond_false, Tr.left, Tr.right, if_neg hm0, Nat.beq, cond_true]
        · have hbn : n.beq 0 = false := by cases n <;> simp_all [Nat.beq]
          by_cases hm0 : m = 0
          · subst hm0
            simp only [Tr.setN, hbn, cond_false]
            rw [if_neg (by omega)]
            cases (n.mod 2).beq 1 <;> simp [Tr.getN, Tr.val, Nat.beq]
          · have hbm : m.beq 0 = false := by cases m <;> simp_all [Nat.beq]
            have e2 : ∀ k : Nat, (k.mod 2).beq 1 = decide (k % 2 = 1) := fun k => by
              show (k % 2).beq 1 = _
              by_cases h : k % 2 = 1
              · simp [h]
              · have : k % 2 = 0 := by omega
                simp [this, Nat.beq]
            have d2 : ∀ k : Nat, k.div 2 = k / 2 := fun _ => rfl
            simp only [Tr.setN, hbn, cond_false, Tr.getN, hbm, e2, d2]
            by_cases on : n % 2 = 1 <;> by_cases om : m % 2 = 1 <;> simp only [on, om, decide_true, decide_false, cond_true, cond_false, Tr.left, Tr.right, Nat.pred_eq_sub_one]
            · rw [ih _ _ _ _ (by omega) (by omega)]
              by_cases e : m / 2 = n / 2
              · rw [if_pos e, if_pos (by omega)]
              · rw [if_neg e, if_neg (by omega)]
            · rw [if_neg (by omega)]
            · rw [if_neg (by omega)]
            · rw [ih _ _ _ _ (by omega) (by omega)]
              by_cases e : m / 2 - 1 = n / 2 - 1
              · rw [if_pos e, if_pos (by omega)]
              · rw [if_neg e, if_neg (by omega)]

theorem Tr.get_set (t : Tr α) (n m : Nat) (o : Option α) : (t.set n o).get m = if m = n then o else t.get m :=
  Tr.getN_setN _ _ _ _ _ _ (Nat.le_refl _) (Nat.le_refl _)
theorem Tr.get_nil (n : Nat) : (Tr.nil : Tr α).get n = none := Tr.getN_nil _ _
end

@[simp] theorem St.get_put (st : St) (id m : Nat) (o : AO) : (st.put id o).get m = if m = id then some o else st.get m := Tr.get_set ..
@[simp] theorem St.get_del (st : St) (id m : Nat) : (st.del id).get m = if m = id then none else st.get m := Tr.get_set ..
@[simp] theorem St.get_new (st : St) (m : Nat) (o : AO) : (st.new o).get m = if m = st.next then some o else st.get m := Tr.get_set ..
@[simp] theorem St.get_tag (st : St) (id e m : Nat) : (st.tag id e).get m = st.get m := rfl
@[simp] theorem St.next_tag (st : St) (id e : Nat) : (st.tag id e).next = st.next := rfl
@[simp] theorem St.bt_put (st : St) (id : Nat) (o : AO) : (st.put id o).bt = st.bt := rfl
@[simp] theorem St.bt_del (st : St) (id : Nat) : (st.del id).bt = st.bt := rfl
@[simp] theorem St.bt_new (st : St) (o : AO) : (st.new o).bt = st.bt := rfl
@[simp] theorem St.next_put (st : St) (id : Nat) (o : AO) : (st.put id o).next = st.next := rfl
@[simp] theorem St.next_del (st : St) (id : Nat) : (st.del id).next = st.next := rfl
@[simp] theorem St.next_new (st : St) (o : AO) : (st.new o).next = st.next + 1 := rfl

/-! ### Abstract values and values of the model -/
/-- Where objects lie, which blocks are never written again, which objects were spoken of ahead and have no block yet, the records of the loops over iterators as they began, and the blocks of the deferred calls of such loops' rounds. -/
structure Env where
  β : Nat → Option Nat
  Fz : Nat → Prop
  Rs : Nat → Prop
  lr : Nat → Loop
  Dz : Nat → Prop

mutual
/-- The value v of the model is what the abstract value says, in a world. -/
def Rv (E : Env) (w : World) : AV → Value → Prop
  | .undef, v => v = .tuple #[]
  | .bool b, v => v = .bool b
  | .int k n, v => v = .int k n
  | .str l, v => ∃ s : ByteArray, v = .string s ∧ s.data.toList.map (·.toNat) = l
  | .nilptr, v => v = .pointer none
  | .ptr id off, v => ∃ b, E.β id = some b ∧ v = .pointer (some ⟨b, off, none⟩)
  | .fptr cs off, v => ∃ a : Addr, v = .pointer (some (a.add off)) ∧ E.Fz a.block ∧ RvMem E w a 0 cs
  | .nilsl, v => v = .slice none 0 0
  | .lst n cs ex, v => ∃ (a : Addr) (cap : Nat), v = .slice (some a) n cap ∧ n ≤ cap ∧ (ex = true → cap = n) ∧ (cs ≠ [] → E.Fz a.block) ∧ RvMem E w a 0 cs
  | .own id off n sz cap lo, v => ∃ b c e m, E.β id = some b ∧ v = .slice (some ⟨b, off, none⟩) n c ∧ n ≤ c ∧ (∀ k, cap = some k → c = k) ∧ w.shape? b = some (e, m) ∧ off + c * sz ≤ m ∧ lo ≤ c
  | .nilmap, v => v = .map none
  | .map id, v => ∃ b, E.β id = some b ∧ v = .map (some b)
  | .func fn fs cs, v => ∃ xs ys : Array Value, v = .func fn xs ys ∧ RvL E w fs xs.toList ∧ RvL E w cs ys.toList
  | .nilfn, v => v = .nilFunc
  | .niface, v => v = .nilIface
  | .iface t x, v => ∃ y, v = .iface t y ∧ Rv E w x y
  | .agg cs, v => ∃ xs : Array Value, v = .agg xs ∧ RvL E w cs xs.toList
  | .tuple cs, v => ∃ xs : Array Value, v = .tuple xs ∧ RvL E w cs xs.toList
  | .yld id, v => ∃ b, E.β id = some b ∧ v = .func (.yield b) #[] #[]
/-- Of lists, one by one. -/
def RvL (E : Env) (w : World) : List AV → List Value → Prop
  | [], l => l = []
  | c :: cs, l => ∃ x xs, l = x :: xs ∧ Rv E w c x ∧ RvL E w cs xs
/-- The cells from an address on, from the i-th on, hold these. -/
def RvMem (E : Env) (w : World) (a : Addr) : Nat → List AV → Prop
  | _, [] => True
  | i, c :: cs => (∃ x, w.cell? (a.add i) = some x ∧ Rv E w c x) ∧ RvMem E w a (i + 1) cs
end

/-- Entries of maps. -/
def RvEs (E : Env) (w : World) : List (AV × AV) → List MapEntry → Prop
  | [], l => l = []
  | (k, v) :: es, l => ∃ x xs, l = x :: xs ∧ Rv E w k x.key ∧ Rv E w v x.val ∧ RvEs E w es xs

/-- What a loop's record must be. -/
def LS.ok (r0 r : Loop) : LS → Prop
  | .ready => r = { r0 with state := .ready, pending := none }
  | .busy => r = { r0 with state := .busy, pending := none }
  | .ret => r = { r0 with state := .done, pending := some .ret }
  | .exit id => r = { r0 with state := .done, pending := some (.exit id) }
  | .fin => True

/-- The block b holds an object. -/
def ObjR (E : Env) (w : World) (b : Nat) : AO → Prop
  | .row cs => (∃ c e f, w.heap[b]? = some (.cells c e f) ∧ cs.length ≤ c.size ∧ (f = (0, 0) ∨ c.size ≤ f.1)) ∧ RvMem E w ⟨b, 0, none⟩ 0 cs
  | .fro cs => E.Fz b ∧ RvMem E w ⟨b, 0, none⟩ 0 cs
  | .map es => ∃ l clock, w.heap[b]? = some (.map l clock) ∧ RvEs E w es l.toList
  | .loop s => ∃ r, w.heap[b]? = some (.loop r) ∧ s.ok (E.lr b) r

/-- The world holds the abstract heap. -/
structure Sat (E : Env) (st : St) (w : World) : Prop where
  dom : ∀ id b, E.β id = some b → id < st.next ∧ b < w.heap.size
  fz : ∀ b, E.Fz b → b < w.heap.size
  obj : ∀ id o b, st.get id = some o → E.β id = some b → ObjR E w b o
  sep : ∀ id id' o o' b, st.get id = some o → st.get id' = some o' → o.live = true → o'.live = true → E.β id = some b → E.β id' = some b → id = id'
  lv : ∀ id o b, st.get id = some o → o.live = true → E.β id = some b → ¬ E.Fz b
  rs : ∀ id, E.Rs id → E.β id = none ∧ id < st.next
  dz : ∀ b, E.Dz b → w.heap[b]? = some (.deferred (some [])) ∧ ¬ E.Fz b
  bt : ∀ id t, st.bt.get id = some t → ∃ b m, E.β id = some b ∧ w.shape? b = some (t, m)

/-- What holds of the environment later on, but for what was spoken of ahead. -/
structure Ext0 (E : Env) (w : World) (E' : Env) (w' : World) : Prop where
  β : ∀ id b, E.β id = some b → E'.β id = some b
  Fz : ∀ b, E.Fz b → E'.Fz b
  mem : ∀ b, E.Fz b → w'.heap[b]? = w.heap[b]?
  size : w.heap.size ≤ w'.heap.size
  shape : ∀ b s, w.shape? b = some s → w'.shape? b = some s
  os : w'.os = w.os
  tape : w'.tape = w.tape
  output : w'.output = w.output
  lr : ∀ b, b < w.heap.size → E'.lr b = E.lr b

/-- What holds of the environment later on. -/
structure Ext (E : Env) (w : World) (E' : Env) (w' : World) : Prop extends Ext0 E w E' w' where
  Rs : ∀ id, E.Rs id → E'.Rs id
  Dz : ∀ b, E.Dz b → E'.Dz b

theorem Ext.refl (E : Env) (w : World) : Ext E w E w := ⟨⟨fun _ _ h => h, fun _ h => h, fun _ _ => rfl, Nat.le_refl _, fun _ _ h => h, rfl, rfl, rfl, fun _ _ => rfl⟩, fun _ h => h, fun _ h => h⟩
theorem Ext0.trans {E E' E'' : Env} {w w' w'' : World} (h : Ext0 E w E' w') (k : Ext0 E' w' E'' w'') : Ext0 E w E'' w'' :=
  ⟨fun i b e => k.β i b (h.β i b e), fun b e => k.Fz b (h.Fz b e), fun b e => (k.mem b (h.Fz b e)).trans (h.mem b e), Nat.le_trans h.size k.size, fun b s e => k.shape b s (h.shape b s e), k.os.trans h.os, k.tape.trans h.tape, k.output.trans h.output, fun b e => (k.lr b (Nat.lt_of_lt_of_le e h.size)).trans (h.lr b e)⟩
theorem Ext.trans {E E' E'' : Env} {w w' w'' : World} (h : Ext E w E' w') (k : Ext E' w' E'' w'') : Ext E w E'' w'' := ⟨h.toExt0.trans k.toExt0, fun i e => k.Rs i (h.Rs i e), fun i e => k.Dz i (h.Dz i e)⟩

/-- What is known of the types of cells abides. -/
def BtOk (E : Env) (st : St) (w : World) : Prop := ∀ id t, st.bt.get id = some t → ∃ b m, E.β id = some b ∧ w.shape? b = some (t, m)
theorem BtOk.mono {E E' : Env} {st st' : St} {w w' : World} (h : BtOk E st w) (hx : Ext0 E w E' w') (hb : st'.bt = st.bt) : BtOk E' st' w' := fun id t ht => by
  rw [hb] at ht
  obtain ⟨b, m, h1, h2⟩ := h id t ht
  exact ⟨b, m, hx.β _ _ h1, hx.shape _ _ h2⟩

theorem cell?_of_heap {w w' : World} {a : Addr} (h : w'.heap[a.block]? = w.heap[a.block]?) : w'.cell? a = w.cell? a := by
  unfold World.cell?; rw [h]
theorem add_block (a : Addr) (n : Nat) : (a.add n).block = a.block := by unfold Addr.add; split <;> rfl
theorem add_add (a : Addr) (m n : Nat) : (a.add m).add n = a.add (m + n) := by
  unfold Addr.add
  by_cases hm : m = 0 <;> by_cases hn : n = 0 <;> simp [hm, hn]
  omega

mutual
theorem Rv.mono0 {E E' : Env} {w w' : World} (h : Ext0 E w E' w') : ∀ (x : AV) (v : Value), Rv E w x v → Rv E' w' x v
  | .undef, _, hv => hv
  | .bool _, _, hv => hv
  | .int _ _, _, hv => hv
  | .str _, _, hv => hv
  | .nilptr, _, hv => hv
  | .ptr _ _, _, ⟨b, hb, hv⟩ => ⟨b, h.β _ _ hb, hv⟩
  | .fptr cs _, _, ⟨a, hv, hf, hm⟩ => ⟨a, hv, h.Fz _ hf, RvMem.mono0 h a (h.mem _ hf) cs 0 hm⟩
  | .nilsl, _, hv => hv
  | .lst _ cs _, _, ⟨a, cap, hv, h1, h2, h3, h4⟩ => by
    refine ⟨a, cap, hv, h1, h2, fun hc => h.Fz _ (h3 hc), ?_⟩
    cases cs with
    | nil => exact trivial
    | cons c cs => exact RvMem.mono0 h a (h.mem _ (h3 (by simp))) (c :: cs) 0 h4
  | .own _ _ _ _ _ _, _, ⟨b, c, e, m, hb, hv, h1, h2, h3, h4⟩ => ⟨b, c, e, m, h.β _ _ hb, hv, h1, h2, h.shape _ _ h3, h4⟩
  | .nilmap, _, hv => hv
  | .map _, _, ⟨b, hb, hv⟩ => ⟨b, h.β _ _ hb, hv⟩
  | .func _ fs cs, _, ⟨xs, ys, hv, h1, h2⟩ => ⟨xs, ys, hv, RvL.mono0 h fs _ h1, RvL.mono0 h cs _ h2⟩
  | .nilfn, _, hv => hv
  | .niface, _, hv => hv
  | .iface _ x, _, ⟨y, hv, h1⟩ => ⟨y, hv, Rv.mono0 h x y h1⟩
  | .agg cs, _, ⟨xs, hv, h1⟩ => ⟨xs, hv, RvL.mono0 h cs _ h1⟩
  | .tuple cs, _, ⟨xs, hv, h1⟩ => ⟨xs, hv, RvL.mono0 h cs _ h1⟩
  | .yld _, _, ⟨b, hb, hv⟩ => ⟨b, h.β _ _ hb, hv⟩
theorem RvL.mono0 {E E' : Env} {w w' : World} (h : Ext0 E w E' w') : ∀ (l : List AV) (vs : List Value), RvL E w l vs → RvL E' w' l vs
  | [], _, hv => hv
  | c :: cs, _, ⟨x, xs, hv, h1, h2⟩ => ⟨x, xs, hv, Rv.mono0 h c x h1, RvL.mono0 h cs xs h2⟩
theorem RvMem.mono0 {E E' : Env} {w w' : World} (h : Ext0 E w E' w') (a : Addr) (hb : w'.heap[a.block]? = w.heap[a.block]?) : ∀ (l : List AV) (i : Nat), RvMem E w a i l → RvMem E' w' a i l
  | [], _, _ => trivial
  | c :: cs, i, ⟨⟨x, hc, h1⟩, h2⟩ => ⟨⟨x, by rw [cell?_of_heap (w := w) (by rw [add_block]; exact hb)]; exact hc, Rv.mono0 h c x h1⟩, RvMem.mono0 h a hb cs (i + 1) h2⟩
end

theorem Rv.mono {E E' : Env} {w w' : World} (h : Ext E w E' w') (x : AV) (v : Value) (hv : Rv E w x v) : Rv E' w' x v := Rv.mono0 h.toExt0 x v hv
theorem RvL.mono {E E' : Env} {w w' : World} (h : Ext E w E' w') (l : List AV) (vs : List Value) (hv : RvL E w l vs) : RvL E' w' l vs := RvL.mono0 h.toExt0 l vs hv
theorem RvMem.mono {E E' : Env} {w w' : World} (h : Ext E w E' w') (a : Addr) (hb : w'.heap[a.block]? = w.heap[a.block]?) (l : List AV) (i : Nat) (hv : RvMem E w a i l) : RvMem E' w' a i l := RvMem.mono0 h.toExt0 a hb l i hv

end Go.AM
/- The abstract machine, part 2: reading, writing and making memory, and what holds of the abstract heap behind it. No program in sight. -/
namespace Go.AM

theorem Rv.cells {E : Env} {w : World} {x : AV} {v : Value} (h : Rv E w x v) : RvL E w x.cells v.cells.toList := by
  cases x with
  | agg cs => obtain ⟨xs, rfl, h⟩ := h; exact h
  | undef => subst h; exact ⟨_, _, rfl, rfl, rfl⟩
  | bool b => subst h; exact ⟨_, _, rfl, rfl, rfl⟩
  | int k n => subst h; exact ⟨_, _, rfl, rfl, rfl⟩
  | str l => obtain ⟨s, rfl, hs⟩ := h; exact ⟨_, _, rfl, ⟨s, rfl, hs⟩, rfl⟩
  | nilptr => subst h; exact ⟨_, _, rfl, rfl, rfl⟩
  | ptr id off => have h0 := h; obtain ⟨b, hb, rfl⟩ := h; exact ⟨_, _, rfl, h0, rfl⟩
  | fptr cs off => have h0 := h; obtain ⟨a, rfl, _⟩ := h; exact ⟨_, _, rfl, h0, rfl⟩
  | nilsl => subst h; exact ⟨_, _, rfl, rfl, rfl⟩
  | lst n cs ex =>
    have h0 := h
    obtain ⟨a, cap, rfl, _⟩ := h; exact ⟨_, _, rfl, h0, rfl⟩
  | own id off n sz cap lo => have h0 := h; obtain ⟨b, c, e, m, hb, rfl, _⟩ := h; exact ⟨_, _, rfl, h0, rfl⟩
  | nilmap => subst h; exact ⟨_, _, rfl, rfl, rfl⟩
  | map id => have h0 := h; obtain ⟨b, hb, rfl⟩ := h; exact ⟨_, _, rfl, h0, rfl⟩
  | func fn fs cs => have h0 := h; obtain ⟨xs, ys, rfl, _⟩ := h; exact ⟨_, _, rfl, h0, rfl⟩
  | nilfn => subst h; exact ⟨_, _, rfl, rfl, rfl⟩
  | niface => subst h; exact ⟨_, _, rfl, rfl, rfl⟩
  | iface t y => have h0 := h; obtain ⟨u, rfl, _⟩ := h; exact ⟨_, _, rfl, h0, rfl⟩
  | tuple vs => have h0 := h; obtain ⟨u, rfl, _⟩ := h; exact ⟨_, _, rfl, h0, rfl⟩
  | yld id => have h0 := h; obtain ⟨b, hb, rfl⟩ := h; exact ⟨_, _, rfl, h0, rfl⟩

theorem Rv.oneCell {E : Env} {w : World} {x : AV} {v : Value} (h : Rv E w x v) (ho : x.one = true) : v.oneCell' = true := by
  cases x with
  | agg cs => simp [AV.one] at ho
  | undef => simp [AV.one] at ho
  | tuple vs => simp [AV.one] at ho
  | bool b => subst h; rfl
  | int k n => subst h; rfl
  | str l => obtain ⟨s, rfl, hs⟩ := h; rfl
  | nilptr => subst h; rfl
  | ptr id off => obtain ⟨b, hb, rfl⟩ := h; rfl
  | fptr cs off => obtain ⟨a, rfl, _⟩ := h; rfl
  | nilsl => subst h; rfl
  | lst n cs ex => obtain ⟨a, cap, rfl, _⟩ := h; rfl
  | own id off n sz cap lo => obtain ⟨b, c, e, m, hb, rfl, _⟩ := h; rfl
  | nilmap => subst h; rfl
  | map id => obtain ⟨b, hb, rfl⟩ := h; rfl
  | func fn fs cs => obtain ⟨xs, ys, rfl, _⟩ := h; rfl
  | nilfn => subst h; rfl
  | niface => subst h; rfl
  | iface t y => obtain ⟨u, rfl, _⟩ := h; rfl
  | yld id => obtain ⟨b, hb, rfl⟩ := h; rfl

/-! ### Lists -/
section
variable {E : Env} {w : World}

theorem RvL.length : ∀ {l : List AV} {vs : List Value}, RvL E w l vs → l.length = vs.length
  | [], _, h => by subst h; rfl
  | c :: cs, _, ⟨x, xs, hv, _, h2⟩ => by subst hv; simp [RvL.length h2]

theorem RvL.get : ∀ {l : List AV} {vs : List Value} (i : Nat) {c : AV}, RvL E w l vs → l[i]? = some c → ∃ v, vs[i]? = some v ∧ Rv E w c v
  | [], _, i, _, _, h => by simp at h
  | c :: cs, _, 0, _, ⟨x, xs, hv, h1, _⟩, h => by simp at h; subst h; subst hv; exact ⟨x, rfl, h1⟩
  | c :: cs, _, i + 1, _, ⟨x, xs, hv, _, h2⟩, h => by subst hv; simpa using RvL.get i h2 (by simpa using h)

theorem RvL.of_get : ∀ {l : List AV} {vs : List Value}, l.length = vs.length → (∀ (i : Nat) (c : AV) (v : Value), l[i]? = some c → vs[i]? = some v → Rv E w c v) → RvL E w l vs
  | [], vs, hl, _ => by cases vs with | nil => rfl | cons _ _ => simp at hl
  | c :: cs, vs, hl, h => by
    cases vs with
    | nil => simp at hl
    | cons x xs =>
      refine ⟨x, xs, rfl, h 0 c x rfl rfl, RvL.of_get (by simpa using hl) fun i c' v h1 h2 => h (i + 1) c' v (by simpa using h1) (by simpa using h2)⟩

theorem RvL.append {l l' : List AV} {vs vs' : List Value} : RvL E w l vs → RvL E w l' vs' → RvL E w (l ++ l') (vs ++ vs') := by
  induction l generalizing vs with
  | nil => intro h h'; cases h; exact h'
  | cons c cs ih => rintro ⟨x, xs, rfl, h1, h2⟩ h'; exact ⟨x, xs ++ vs', rfl, h1, ih h2 h'⟩

theorem RvL.drop {l : List AV} {vs : List Value} (h : RvL E w l vs) (k : Nat) : RvL E w (l.drop k) (vs.drop k) :=
  RvL.of_get (by simp [h.length]) fun i c v h1 h2 => by
    obtain ⟨v', h3, h4⟩ := h.get (k + i) (c := c) (by simpa using h1)
    have : vs[k + i]? = some v := by simpa using h2
    rw [this] at h3; injection h3 with h3; subst h3; exact h4

theorem RvL.take {l : List AV} {vs : List Value} (h : RvL E w l vs) (k : Nat) : RvL E w (l.take k) (vs.take k) :=
  RvL.of_get (by simp [h.length]) fun i c v h1 h2 => by
    rw [List.getElem?_take] at h1 h2
    split at h1
    · rename_i hk
      simp only [hk, if_true] at h2
      obtain ⟨v', h3, h4⟩ := h.get i h1
      rw [h2] at h3; injection h3 with h3; subst h3; exact h4
    · simp at h1

theorem RvL.one {l : List AV} {vs : List Value} (h : RvL E w l vs) (ho : l.all AV.one = true) : ∀ v ∈ vs, v.oneCell' = true := by
  intro v hv
  obtain ⟨i, hi⟩ := List.mem_iff_getElem?.1 hv
  have hlt : i < l.length := by rw [h.length]; exact (List.getElem?_eq_some_iff.1 hi).1
  obtain ⟨v', h3, h4⟩ := h.get i (List.getElem?_eq_getElem hlt)
  rw [hi] at h3; injection h3 with h3; subst h3
  exact h4.oneCell (List.all_eq_true.1 ho _ (List.getElem_mem hlt))

/-! ### Memory -/
theorem RvMem.get : ∀ {a : Addr} {cs : List AV} {i : Nat} (j : Nat) {c : AV}, RvMem E w a i cs → cs[j]? = some c → ∃ x, w.cell? (a.add (i + j)) = some x ∧ Rv E w c x
  | _, [], _, j, _, _, h => by simp at h
  | a, c :: cs, i, 0, _, ⟨h1, _⟩, h => by simp at h; subst h; simpa using h1
  | a, c :: cs, i, j + 1, _, ⟨_, h2⟩, h => by
    have := RvMem.get j h2 (by simpa using h)
    rwa [show i + 1 + j = i + (j + 1) by omega] at this

theorem RvMem.of_get : ∀ {a : Addr} {cs : List AV} {i : Nat}, (∀ j c, cs[j]? = some c → ∃ x, w.cell? (a.add (i + j)) = some x ∧ Rv E w c x) → RvMem E w a i cs
  | _, [], _, _ => trivial
  | a, c :: cs, i, h => ⟨h 0 c rfl, RvMem.of_get fun j c' hc => by
      have := h (j + 1) c' (by simpa using hc)
      rwa [show i + (j + 1) = i + 1 + j by omega] at this⟩

/-- The cells from 'a' on, as values. -/
theorem RvMem.vals : ∀ {a : Addr} {cs : List AV} {i : Nat}, RvMem E w a i cs → ∃ xs : List Value, RvL E w cs xs ∧ ∀ j v, xs[j]? = some v → w.cell? (a.add (i + j)) = some v
  | _, [], _, _ => ⟨[], rfl, fun j v h => by simp at h⟩
  | a, c :: cs, i, ⟨⟨x, h1, h2⟩, h3⟩ => by
    obtain ⟨xs, h4, h5⟩ := RvMem.vals h3
    refine ⟨x :: xs, ⟨x, xs, rfl, h2, h4⟩, fun j v hj => ?_⟩
    cases j with
    | zero => simp at hj; subst hj; simpa using h1
    | succ j =>
      have := h5 j v (by simpa using hj)
      rwa [show i + 1 + j = i + (j + 1) by omega] at this

/-- From another cell on. -/
theorem RvMem.at {a : Addr} {cs : List AV} (h : RvMem E w a 0 cs) (k : Nat) : RvMem E w (a.add k) 0 (cs.drop k) :=
  RvMem.of_get fun j c hc => by
    obtain ⟨x, h1, h2⟩ := h.get (k + j) (c := c) (by simpa using hc)
    exact ⟨x, by rw [add_add, show k + (0 + j) = 0 + (k + j) by omega]; exact h1, h2⟩

theorem RvMem.take {a : Addr} {cs : List AV} {i : Nat} (h : RvMem E w a i cs) (k : Nat) : RvMem E w a i (cs.take k) :=
  RvMem.of_get fun j c hc => by
    rw [List.getElem?_take] at hc
    split at hc
    · exact h.get j hc
    · simp at hc

theorem RvMem.append {a : Addr} {cs ds : List AV} (h : RvMem E w a 0 cs) (h' : RvMem E w a cs.length ds) : RvMem E w a 0 (cs ++ ds) :=
  RvMem.of_get fun j c hc => by
    by_cases hj : j < cs.length
    · rw [List.getElem?_append_left hj] at hc; exact h.get j hc
    · rw [List.getElem?_append_right (by omega)] at hc
      obtain ⟨x, h1, h2⟩ := h'.get _ hc
      exact ⟨x, by rw [show 0 + j = cs.length + (j - cs.length) by omega]; exact h1, h2⟩

/-- A row that was just made. -/
theorem RvMem.new {cs : List AV} {vs : Array Value} {b : Nat} {e : TypeId} {fr : Nat × Nat} (h : RvL E w cs vs.toList) (hb : w.heap[b]? = some (.cells vs e fr)) : RvMem E w ⟨b, 0, none⟩ 0 cs :=
  RvMem.of_get fun j c hc => by
    obtain ⟨v, h1, h2⟩ := h.get j hc
    refine ⟨v, ?_, h2⟩
    have : ((⟨b, 0, none⟩ : Addr).add (0 + j)) = ⟨b, j, none⟩ := by
      unfold Addr.add; split
      · rename_i h0; simp at h0; simp [h0]
      · simp
    rw [this, cell_of_row w b j vs e fr hb]
    simpa using h1

end

/-! ### What the world's turns leave -/
theorem shape_of_heap {w w' : World} {b : Nat} (h : w'.heap[b]? = w.heap[b]?) : w'.shape? b = w.shape? b := by unfold World.shape?; rw [h]

theorem heap_push_old (w : World) (o : Obj) (k : Nat) (h : k < w.heap.size) : (w.alloc o).heap[k]? = w.heap[k]? := heap_alloc_old w o k h

/-- The environment with one object more. -/
def Env.link (E : Env) (id b : Nat) : Env := { E with β := fun i => if i = id then some b else E.β i }
/-- The environment with one block more that is never written. -/
def Env.fzb (E : Env) (b : Nat) : Env := { E with Fz := fun k => k = b ∨ E.Fz k }

theorem Ext.alloc {E : Env} {w : World} (o : Obj) {E' : Env} (hβ : ∀ id b, E.β id = some b → E'.β id = some b) (hF : ∀ b, E.Fz b → E'.Fz b) (hR : ∀ i, E.Rs i → E'.Rs i) (hL : ∀ b, b < w.heap.size → E'.lr b = E.lr b) (hDz : ∀ b, E.Dz b → E'.Dz b) (hfz : ∀ b, E.Fz b → b < w.heap.size) : Ext E w E' (w.alloc o):={
  β := hβ
  Fz := hF
  mem b hb := heap_push_old w o b (hfz b hb)
  size := by simp
  shape b s hs := by
    have : b < w.heap.size := by
      unfold World.shape? at hs
      cases hh : w.heap[b]? with
      | none => rw [hh] at hs; simp at hs
      | some x => exact (Array.getElem?_eq_some_iff.1 hh).1
    rw [shape_of_heap (heap_push_old w o b this)]; exact hs
  os := rfl
  tape := rfl
  output := rfl
  lr := hL
  Rs := hR
  Dz := hDz}

theorem RvEs.mono {E E' : Env} {w w' : World} (h : Ext0 E w E' w') : ∀ (es : List (AV × AV)) (l : List MapEntry), RvEs E w es l → RvEs E' w' es l
    | [], _, h1 => h1
    | (_, _) :: es, _, ⟨x, xs, h1, h2, h3, h4⟩ => ⟨x, xs, h1, Rv.mono0 h _ _ h2, Rv.mono0 h _ _ h3, RvEs.mono h es xs h4⟩
theorem ObjR.mono0 {E E' : Env} {w w' : World} (h : Ext0 E w E' w') {b : Nat} (hb : w'.heap[b]? = w.heap[b]?) : ∀ {o : AO}, ObjR E w b o → ObjR E' w' b o
  | .row _, ⟨⟨c, e, f, h1, h2⟩, h3⟩ => ⟨⟨c, e, f, by rw [hb]; exact h1, h2⟩, RvMem.mono0 h _ hb _ _ h3⟩
  | .fro _, ⟨h1, h2⟩ => ⟨h.Fz _ h1, RvMem.mono0 h _ hb _ _ h2⟩
  | .map es, ⟨l, c, h1, h2⟩ => ⟨l, c, by rw [hb]; exact h1, RvEs.mono h _ _ h2⟩
  | .loop s, ⟨r, h1, h2⟩ => ⟨r, by rw [hb]; exact h1, by rw [h.lr b (Array.getElem?_eq_some_iff.1 h1).1]; exact h2⟩

theorem ObjR.mono {E E' : Env} {w w' : World} (h : Ext E w E' w') {b : Nat} (hb : w'.heap[b]? = w.heap[b]?) {o : AO} (hv : ObjR E w b o) : ObjR E' w' b o := ObjR.mono0 h.toExt0 hb hv

/-- What is spoken of ahead can be told anew. -/
theorem Sat.setRs {E : Env} {st : St} {w : World} (h : Sat E st w) (R : Nat → Prop) (hR : ∀ id, R id → E.β id = none ∧ id < st.next) : Sat { E with Rs := R } st w :=
  have hx : Ext0 E w { E with Rs := R } w := ⟨fun _ _ h => h, fun _ h => h, fun _ _ => rfl, Nat.le_refl _, fun _ _ h => h, rfl, rfl, rfl, fun _ _ => rfl⟩
  ⟨h.dom, h.fz, fun id o b h1 h2 => ObjR.mono0 hx rfl (h.obj id o b h1 h2), h.sep, h.lv, hR, h.dz, BtOk.mono h.bt hx rfl⟩

/-- A draw. -/
theorem Sat.drew {E : Env} {st : St} {w : World} (h : Sat E st w) : Sat E st w.drew ∧ Ext E w E w.drew := by
  have hx : Ext E w E w.drew := ⟨⟨fun _ _ h => h, fun _ h => h, fun _ _ => rfl, Nat.le_refl _, fun _ _ h => h, rfl, rfl, rfl, fun _ _ => rfl⟩, fun _ h => h, fun _ h => h⟩
  exact ⟨⟨h.dom, h.fz, fun id o b h1 h2 => ObjR.mono hx rfl (h.obj id o b h1 h2), h.sep, h.lv, h.rs, h.dz, BtOk.mono h.bt hx.toExt0 rfl⟩, hx⟩

/-- A block more that is never written. -/
theorem Sat.allocFz {E : Env} {st : St} {w : World} (h : Sat E st w) (o : Obj) : Sat (E.fzb w.heap.size) st (w.alloc o) ∧ Ext E w (E.fzb w.heap.size) (w.alloc o) := by
  have hx : Ext E w (E.fzb w.heap.size) (w.alloc o) := Ext.alloc o (fun _ _ h => h) (fun _ h => Or.inr h) (fun _ h => h) (fun _ _ => rfl) (fun _ h => h) h.fz
  refine ⟨⟨fun id b hb => ?_, fun b hb => ?_, fun id o' b h1 h2 => ?_, h.sep, fun id o' b h1 h2 h3 hf => ?_, h.rs, fun b hb => ?_, BtOk.mono h.bt hx.toExt0 rfl⟩, hx⟩
  · have := h.dom id b hb; simp; omega
  · rcases hb with rfl | hb
    · simp
    · have := h.fz b hb; simp; omega
  · have := h.dom id b h2
    exact ObjR.mono hx (heap_push_old w o b this.2) (h.obj id o' b h1 h2)
  · have := h.dom id b h3
    rcases hf with rfl | hf
    · omega
    · exact h.lv id o' b h1 h2 h3 hf
  · obtain ⟨h1, h2⟩ := h.dz b hb
    have hlt := (Array.getElem?_eq_some_iff.1 h1).1
    exact ⟨by rw [heap_push_old w o b hlt]; exact h1, fun hf => hf.elim (fun e => by omega) h2⟩

/-- An object that was spoken of ahead comes to be. -/
theorem Sat.link' {E : Env} {st : St} {w : World} (h : Sat E st w) (o : Obj) (id : Nat) (ao : AO) (hid : id < st.next) (hβ : E.β id = none) (hr : ¬ E.Rs id) (hg : st.get id = some ao)
    (hobj : Ext E w (E.link id w.heap.size) (w.alloc o) → ObjR (E.link id w.heap.size) (w.alloc o) w.heap.size ao) :
    Sat (E.link id w.heap.size) st (w.alloc o) ∧ Ext E w (E.link id w.heap.size) (w.alloc o) := by
  have hx : Ext E w (E.link id w.heap.size) (w.alloc o) := Ext.alloc o (fun i b hb => by
    show (if i = id then _ else _) = _
    rw [if_neg (by rintro rfl; rw [hβ] at hb; simp at hb)]; exact hb) (fun _ h => h) (fun _ h => h) (fun _ _ => rfl) (fun _ h => h) h.fz
  have hlink : ∀ i b, (E.link id w.heap.size).β i = some b → (i = id ∧ b = w.heap.size) ∨ (i ≠ id ∧ E.β i = some b) := fun i b hb => by
    have : (if i = id then some w.heap.size else E.β i) = some b := hb
    by_cases hi : i = id
    · rw [if_pos hi] at this; injection this with this; exact .inl ⟨hi, this.symm⟩
    · rw [if_neg hi] at this; exact .inr ⟨hi, this⟩
  refine ⟨⟨fun i b hb => ?_, fun b hb => ?_, fun i o' b h1 h2 => ?_, fun i i' o1 o2 b h1 h2 l1 l2 b1 b2 => ?_, fun i o' b h1 h2 h3 => ?_, fun i hi => ⟨by
    show (if i = id then _ else _) = _
    rw [if_neg (by rintro rfl; exact hr hi)]; exact (h.rs i hi).1, (h.rs i hi).2⟩, fun b hb => by
    obtain ⟨h1, h2⟩ := h.dz b hb
    exact ⟨by rw [heap_push_old w o b (Array.getElem?_eq_some_iff.1 h1).1]; exact h1, h2⟩, BtOk.mono h.bt hx.toExt0 rfl⟩, hx⟩
  · rcases hlink i b hb with ⟨rfl, rfl⟩ | ⟨_, hb⟩
    · exact ⟨hid, by simp⟩
    · have := h.dom i b hb; exact ⟨this.1, by simp; omega⟩
  · have := h.fz b hb; simp; omega
  · rcases hlink i b h2 with ⟨rfl, rfl⟩ | ⟨_, h2⟩
    · rw [hg] at h1; injection h1 with h1; subst h1; exact hobj hx
    · exact ObjR.mono hx (heap_push_old w o b (h.dom i b h2).2) (h.obj i o' b h1 h2)
  · rcases hlink i b b1 with ⟨e1, e2⟩ | ⟨_, c1⟩ <;> rcases hlink i' _ b2 with ⟨e3, e4⟩ | ⟨_, c2⟩
    · rw [e1, e3]
    · have := (h.dom _ _ c2).2; omega
    · have := (h.dom _ _ c1).2; omega
    · exact h.sep i i' o1 o2 b h1 h2 l1 l2 c1 c2
  · rcases hlink i b h3 with ⟨rfl, rfl⟩ | ⟨_, h3⟩
    · intro hf; have := h.fz _ hf; omega
    · exact h.lv i o' b h1 h2 h3

theorem Sat.link {E : Env} {st : St} {w : World} (h : Sat E st w) (o : Obj) (id : Nat) (ao : AO) (hid : id < st.next) (hβ : E.β id = none) (hr : ¬ E.Rs id) (hg : st.get id = some ao)
    (hobj : ∀ E' : Env, Ext E w E' (w.alloc o) → ObjR E' (w.alloc o) w.heap.size ao) :
    Sat (E.link id w.heap.size) st (w.alloc o) ∧ Ext E w (E.link id w.heap.size) (w.alloc o) := h.link' o id ao hid hβ hr hg (hobj _)

/-- An object that is spoken of ahead. -/
theorem Sat.ahead {E : Env} {st : St} {w : World} (h : Sat E st w) (ao : AO) : Sat E (st.new ao) w := by
  have hβ : E.β st.next = none := by
    cases hb : E.β st.next with
    | none => rfl
    | some b => have := (h.dom _ _ hb).1; omega
  exact ⟨fun i b hb => ⟨by have := (h.dom i b hb).1; simp; omega, (h.dom i b hb).2⟩, h.fz, fun i o' b h1 h2 => by
      rw [St.get_new] at h1
      by_cases hi : i = st.next
      · subst hi; rw [hβ] at h2; simp at h2
      · rw [if_neg hi] at h1; exact h.obj i o' b h1 h2,
    fun i i' o1 o2 b h1 h2 l1 l2 b1 b2 => by
      rw [St.get_new] at h1 h2
      by_cases hi : i = st.next
      · subst hi; rw [hβ] at b1; simp at b1
      · by_cases hi' : i' = st.next
        · subst hi'; rw [hβ] at b2; simp at b2
        · rw [if_neg hi] at h1; rw [if_neg hi'] at h2; exact h.sep i i' o1 o2 b h1 h2 l1 l2 b1 b2,
    fun i o' b h1 h2 h3 => by
      rw [St.get_new] at h1
      by_cases hi : i = st.next
      · subst hi; rw [hβ] at h3; simp at h3
      · rw [if_neg hi] at h1; exact h.lv i o' b h1 h2 h3,
    fun i hi => ⟨(h.rs i hi).1, by have := (h.rs i hi).2; simp; omega⟩, h.dz, h.bt⟩

/-- A new object. -/
theorem Sat.alloc' {E : Env} {st : St} {w : World} (h : Sat E st w) (o : Obj) (ao : AO)
    (hobj : Ext E w (E.link st.next w.heap.size) (w.alloc o) → ObjR (E.link st.next w.heap.size) (w.alloc o) w.heap.size ao) :
    Sat (E.link st.next w.heap.size) (st.new ao) (w.alloc o) ∧ Ext E w (E.link st.next w.heap.size) (w.alloc o) := by
  have hβ : E.β st.next = none := by
    cases hb : E.β st.next with
    | none => rfl
    | some b => have := (h.dom _ _ hb).1; omega
  exact (h.ahead ao).link' o st.next ao (by simp) hβ (fun hr => by have := (h.rs _ hr).2; omega) (by simp) hobj

theorem Sat.alloc {E : Env} {st : St} {w : World} (h : Sat E st w) (o : Obj) (ao : AO)
    (hobj : ∀ E' : Env, Ext E w E' (w.alloc o) → ObjR E' (w.alloc o) w.heap.size ao) :
    Sat (E.link st.next w.heap.size) (st.new ao) (w.alloc o) ∧ Ext E w (E.link st.next w.heap.size) (w.alloc o) := h.alloc' o ao (hobj _)

/-- One live object's block was written. -/
theorem Sat.write {E : Env} {st : St} {w w' : World} (h : Sat E st w) (id b : Nat) (o o' : AO) (hg : st.get id = some o) (hl : o.live = true) (hb : E.β id = some b)
    (hoth : ∀ k, k ≠ b → w'.heap[k]? = w.heap[k]?) (hsize : w'.heap.size = w.heap.size) (hshape : ∀ s, w.shape? b = some s → w'.shape? b = some s)
    (hos : w'.os = w.os) (htape : w'.tape = w.tape) (hout : w'.output = w.output) (_hl' : o'.live = true) (hobj : Ext E w E w' → ObjR E w' b o') :
    Sat E (st.put id o') w' ∧ Ext E w E w' := by
  have hx : Ext E w E w' := ⟨⟨fun _ _ h => h, fun _ h => h, fun k hk => hoth k (by rintro rfl; exact h.lv id o _ hg hl hb hk), by omega, fun k s hs => by
    by_cases hk : k = b
    · subst hk; exact hshape s hs
    · rw [shape_of_heap (hoth k hk)]; exact hs, hos, htape, hout, fun _ _ => rfl⟩, fun _ h => h, fun _ h => h⟩
  refine ⟨⟨fun i c hc => ?_, fun c hc => ?_, fun i o1 c h1 h2 => ?_, fun i i' o1 o2 c h1 h2 l1 l2 b1 b2 => ?_, fun i o1 c h1 h2 h3 => ?_, h.rs, fun c hc => ?_, BtOk.mono h.bt hx.toExt0 rfl⟩, hx⟩
  · have := h.dom i c hc; rw [hsize]; exact this
  · have := h.fz c hc; omega
  · rw [St.get_put] at h1
    by_cases hi : i = id
    · subst hi; rw [if_pos rfl] at h1; injection h1 with h1; subst h1; rw [hb] at h2; injection h2 with h2; subst h2; exact hobj hx
    · rw [if_neg hi] at h1
      have h3 := h.obj i o1 c h1 h2
      cases o1 with
      | fro cs => exact ObjR.mono hx (hx.mem _ h3.1) h3
      | row cs => exact ObjR.mono hx (hoth c (by rintro rfl; exact hi (h.sep i id _ _ _ h1 hg rfl hl h2 hb))) h3
      | map es => exact ObjR.mono hx (hoth c (by rintro rfl; exact hi (h.sep i id _ _ _ h1 hg rfl hl h2 hb))) h3
      | loop s => exact ObjR.mono hx (hoth c (by rintro rfl; exact hi (h.sep i id _ _ _ h1 hg rfl hl h2 hb))) h3
  · rw [St.get_put] at h1 h2
    by_cases hi : i = id
    · subst hi
      by_cases hi' : i' = i
      · exact hi'.symm
      · rw [if_neg hi'] at h2; exact h.sep i i' o o2 c hg h2 hl l2 b1 b2
    · rw [if_neg hi] at h1
      by_cases hi' : i' = id
      · subst hi'; exact h.sep i i' o1 o c h1 hg l1 hl b1 b2
      · rw [if_neg hi'] at h2; exact h.sep i i' o1 o2 c h1 h2 l1 l2 b1 b2
  · rw [St.get_put] at h1
    by_cases hi : i = id
    · subst hi; exact h.lv i o c hg hl h3
    · rw [if_neg hi] at h1; exact h.lv i o1 c h1 h2 h3
  · obtain ⟨h1, h2⟩ := h.dz c hc
    refine ⟨?_, h2⟩
    rw [hoth c]
    · exact h1
    · rintro rfl
      have h3 := h.obj id o c hg hb
      cases o with
      | fro cs => cases hl
      | row cs => obtain ⟨⟨_, _, _, h4, _⟩, _⟩ := h3; rw [h1] at h4; cases h4
      | map es => obtain ⟨_, _, h4, _⟩ := h3; rw [h1] at h4; cases h4
      | loop s => obtain ⟨_, h4, _⟩ := h3; rw [h1] at h4; cases h4

/-- An object is forgotten. -/
theorem Sat.del {E : Env} {st : St} {w : World} (h : Sat E st w) (id : Nat) : Sat E (st.del id) w := by
  have key : ∀ i o, (st.del id).get i = some o → st.get i = some o := fun i o h1 => by
    rw [St.get_del] at h1
    split at h1
    · simp at h1
    · exact h1
  exact ⟨h.dom, h.fz, fun i o b h1 h2 => h.obj i o b (key _ _ h1) h2, fun i i' o1 o2 b h1 h2 => h.sep i i' o1 o2 b (key _ _ h1) (key _ _ h2), fun i o b h1 => h.lv i o b (key _ _ h1), h.rs, h.dz, h.bt⟩

/-- The type of an object's cells is noted. -/
theorem Sat.tag {E : Env} {st : St} {w : World} (h : Sat E st w) {id b t m : Nat} (hb : E.β id = some b) (hs : w.shape? b = some (t, m)) : Sat E (st.tag id t) w :=
  ⟨h.dom, h.fz, h.obj, h.sep, h.lv, h.rs, h.dz, fun i u hu => by
    have hu : (st.bt.set id (some t)).get i = some u := hu
    rw [Tr.get_set] at hu
    by_cases hi : i = id
    · rw [if_pos hi] at hu; injection hu with hu; subst hu; subst hi; exact ⟨b, m, hb, hs⟩
    · rw [if_neg hi] at hu; exact h.bt i u hu⟩

/-! ### Storing cells -/
theorem add_at (b off i : Nat) : ((⟨b, off, none⟩ : Addr).add i) = ⟨b, off + i, none⟩ := by
  unfold Addr.add; split
  · rename_i h; simp [h]
  · rfl

theorem frozen_no (w : World) (g j : Nat) (cs : Array Value) (t : TypeId) (f : Nat × Nat) (hg : w.heap[g]? = some (.cells cs t f)) (hf : f = (0, 0) ∨ cs.size ≤ f.1) (hj : j < cs.size) : w.frozen? ⟨g, j, none⟩ = false := by
  obtain ⟨lo, hi⟩ := f
  simp only [World.frozen?, hg]
  rcases hf with hf | hf
  · injection hf with h1 h2; subst h1; subst h2; simp
  · simp only at hf
    have : ¬ (lo ≤ j) := by omega
    simp [this]

theorem heap_setCell_row (w : World) (g i : Nat) (cs : Array Value) (t : TypeId) (f : Nat × Nat) (v : Value) (hg : w.heap[g]? = some (.cells cs t f)) :
    (w.setCell ⟨g, i, none⟩ v).heap[g]? = some (.cells (cs.setIfInBounds i v) t f) := by
  simp only [World.setCell, Array.getElem?_modify, if_true, hg]
  rfl

theorem run_storeCells {P : Program} (b off : Nat) (e : TypeId) (f : Nat × Nat) : ∀ (vs : List Value) (i : Nat) (cur : Array Value) (w : World),
    w.heap[b]? = some (.cells cur e f) → (f = (0, 0) ∨ cur.size ≤ f.1) → off + i + vs.length ≤ cur.size → (∀ v ∈ vs, v.oneCell' = true) →
    ∃ w' cur', (storeCells ⟨b, off, none⟩ vs i).run P w = .ok () w' ∧ w'.heap[b]? = some (.cells cur' e f) ∧ cur'.size = cur.size ∧
      (∀ j, cur'[j]? = if off + i ≤ j ∧ j < off + i + vs.length then vs[j - (off + i)]? else cur[j]?) ∧ (∀ k, k ≠ b → w'.heap[k]? = w.heap[k]?) ∧
      w'.heap.size = w.heap.size ∧ w'.os = w.os ∧ w'.tape = w.tape ∧ w'.output = w.output
  | [], i, cur, w, hg, _, _, _ => ⟨w, cur, by simp [storeCells], hg, rfl, fun j => by simp; omega, fun _ _ => rfl, rfl, rfl, rfl, rfl⟩
  | v :: vs, i, cur, w, hg, hfz, hlen, hone => by
    simp only [List.length_cons] at hlen
    have hc : w.cell? ⟨b, off + i, none⟩ = some cur[off + i] := by
      rw [cell_of_row w b _ cur e f hg]; exact Array.getElem?_eq_getElem (by omega)
    have hf : w.frozen? ⟨b, off + i, none⟩ = false := frozen_no w b _ cur e f hg hfz (by omega)
    have h1 : (w.setCell ⟨b, off + i, none⟩ v).heap[b]? = some (.cells (cur.setIfInBounds (off + i) v) e f) := heap_setCell_row w b (off + i) cur e f v hg
    obtain ⟨w', cur', r1, r2, r3, r4, r5, r6, r7, r8, r9⟩ := run_storeCells (P := P) b off e f vs (i + 1) _ _ h1 (by simpa using hfz) (by simp; omega) (fun u hu => hone u (by simp [hu]))
    refine ⟨w', cur', ?_, r2, by simpa using r3, fun j => ?_, fun k hk => ?_, by simpa using r6, by rw [r7]; rfl, by rw [r8]; rfl, by rw [r9]; rfl⟩
    · simp only [storeCells, Sem.run_bind, add_at, run_store P w _ v _ (hone v (by simp)), hc, hf, Bool.false_eq_true, if_false, Result.andThen]
      exact r1
    · rw [r4 j]
      by_cases hj : j = off + i
      · subst hj
        rw [if_neg (by omega), if_pos (by simp)]
        simp [(show off + i < cur.size by omega)]
      · by_cases hj2 : off + (i + 1) ≤ j ∧ j < off + (i + 1) + vs.length
        · rw [if_pos hj2, if_pos (by simp only [List.length_cons]; omega)]
          rw [show j - (off + i) = (j - (off + (i + 1))) + 1 by omega]; simp
        · rw [if_neg hj2, if_neg (by simp only [List.length_cons]; omega)]
          rw [Array.getElem?_setIfInBounds, if_neg (by omega)]
    · rw [r5 k hk]; exact heap_setCell_other w _ k v hk

end Go.AM
