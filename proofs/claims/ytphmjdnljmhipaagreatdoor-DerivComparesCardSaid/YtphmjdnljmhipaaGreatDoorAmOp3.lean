import Derived.Test.YtphmjdnljmhipaaGreatDoorAmDef
import Derived.CallsIn
import Derived.Below
import Derived.Laws.Cells
import Derived.Laws.Rows
import Derived.Laws.Slices
import Derived.Laws.AppendOwn
import Derived.Laws.BitsLemmas
import Derived.Laws.Strings
namespace Go.AM
def AO.live : AO -> Bool
 | .fro _ => false
 | _ => true
section
variable {α : Type}
theorem Tr.getN_nil : ∀ (f n : Nat), Tr.getN f (.nil : Tr α) n = none
 | 0, _ => rfl
 | f + 1, n => by
  unfold Tr.getN
  simp only [Tr.val, Tr.left, Tr.right, Tr.getN_nil f]
  cases n.beq 0 <;> cases (n.mod 2).beq 1 <;> rfl
theorem Tr.getN_setN : ∀ (f g : Nat) (t : Tr α) (n m : Nat) (o : Option α), n <= f -> m <= g -> Tr.getN g (Tr.setN f t n o) m = if m = n then o else Tr.getN g t m
 | f, g, t, n, m, o, hn, hm => by
  cases f with
  | zero =>
   obtain rfl : n = 0 := by omega
   cases g with
   | zero =>
    obtain rfl : m = 0 := by omega
    simp [Tr.getN, Tr.setN, Tr.val]
   | succ g =>
    by_cases h0 : m = 0
    ·subst h0; simp [Tr.getN, Tr.setN, Tr.val, Nat.beq]
    ·have hb : m.beq 0 = false := by cases m <;> simp_all [Nat.beq]
     simp only [Tr.getN, Tr.setN, hb, cond_false, Tr.left, Tr.right, if_neg h0]
  | succ f =>
   cases g with
   | zero =>
    obtain rfl : m = 0 := by omega
    by_cases h0 : n = 0
    ·subst h0; simp [Tr.getN, Tr.setN, Tr.val, Nat.beq]
    ·have hb : n.beq 0 = false := by cases n <;> simp_all [Nat.beq]
     simp only [Tr.setN, hb, cond_false]
     rw [if_neg (by omega)]
     cases (n.mod 2).beq 1 <;> simp [Tr.getN, Tr.val]
   | succ g =>
    have ih := Tr.getN_setN f g
    by_cases hn0 : n = 0
    ·subst hn0
     by_cases hm0 : m = 0
     ·subst hm0; simp [Tr.getN, Tr.setN, Tr.val, Nat.beq]
     ·have hb : m.beq 0 = false := by cases m <;> simp_all [Nat.beq]
      simp only [Tr.getN, Tr.setN, hb, cond_false, Tr.left, Tr.right, if_neg hm0, Nat.beq, cond_true]
    ·have hbn : n.beq 0 = false := by cases n <;> simp_all [Nat.beq]
     by_cases hm0 : m = 0
     ·subst hm0
      simp only [Tr.setN, hbn, cond_false]
      rw [if_neg (by omega)]
      cases (n.mod 2).beq 1 <;> simp [Tr.getN, Tr.val, Nat.beq]
     ·have hbm : m.beq 0 = false := by cases m <;> simp_all [Nat.beq]
      have e2 : ∀ k : Nat, (k.mod 2).beq 1 = decide (k % 2 = 1) := fun k => by
       show (k % 2).beq 1 = _
       by_cases h : k % 2 = 1
       ·simp [h]
       ·have : k % 2 = 0 := by omega
        simp [this, Nat.beq]
      have d2 : ∀ k : Nat, k.div 2 = k / 2 := fun _ => rfl
      simp only [Tr.setN, hbn, cond_false, Tr.getN, hbm, e2, d2]
      by_cases on : n % 2 = 1 <;> by_cases om : m % 2 = 1 <;> simp only [on, om, decide_true, decide_false, cond_true, cond_false, Tr.left, Tr.right, Nat.pred_eq_sub_one]
      ·rw [ih _ _ _ _ (by omega) (by omega)]
       by_cases e : m / 2 = n / 2
       ·rw [if_pos e, if_pos (by omega)]
       ·rw [if_neg e, if_neg (by omega)]
      ·rw [if_neg (by omega)]
      ·rw [if_neg (by omega)]
      ·rw [ih _ _ _ _ (by omega) (by omega)]
       by_cases e : m / 2 - 1 = n / 2 - 1
       ·rw [if_pos e, if_pos (by omega)]
       ·rw [if_neg e, if_neg (by omega)]
theorem Tr.get_set (t : Tr α) (n m : Nat) (o : Option α) : (t.set n o).get m = if m = n then o else t.get m :=
 Tr.getN_setN _ _ _ _ _ _ (Nat.le_refl _) (Nat.le_refl _)
theorem Tr.get_nil (n : Nat) : (Tr.nil : Tr α).get n = none := Tr.getN_nil _ _
end
@[simp] theorem St.get_put (st : St) (id m : Nat) (o : AO) : (st.put id o).get m = if m = id then some o else st.get m := Tr.get_set ..
@[simp] theorem St.get_del (st : St) (id m : Nat) : (st.del id).get m = if m = id then none else st.get m := Tr.get_set ..
@[simp] theorem St.get_new (st : St) (m : Nat) (o : AO) : (st.new o).get m = if m = st.next then some o else st.get m := Tr.get_set ..
@[simp] theorem St.get_tag (st : St) (id e m : Nat) : (st.tag id e).get m = st.get m := rfl
@[simp] theorem St.next_tag (st : St) (id e : Nat) : (st.tag id e).next = st.next := rfl
@[simp] theorem St.bt_put (st : St) (id : Nat) (o : AO) : (st.put id o).bt = st.bt := rfl
@[simp] theorem St.bt_del (st : St) (id : Nat) : (st.del id).bt = st.bt := rfl
@[simp] theorem St.bt_new (st : St) (o : AO) : (st.new o).bt = st.bt := rfl
@[simp] theorem St.next_put (st : St) (id : Nat) (o : AO) : (st.put id o).next = st.next := rfl
@[simp] theorem St.next_del (st : St) (id : Nat) : (st.del id).next = st.next := rfl
@[simp] theorem St.next_new (st : St) (o : AO) : (st.new o).next = st.next + 1 := rfl
structure Env where
 β : Nat -> Option Nat
 Fz : Nat -> Prop
 Rs : Nat -> Prop
 lr : Nat -> Loop
 Dz : Nat -> Prop
mutual
def Rv (E : Env) (w : World) : AV -> Value -> Prop
 | .undef, v => v = .tuple #[]
 | .bool b, v => v = .bool b
 | .int k n, v => v = .int k n
 | .str l, v => ∃ s : ByteArray, v = .string s /\ s.data.toList.map (·.toNat) = l
 | .nilptr, v => v = .pointer none
 | .ptr id off, v => ∃ b, E.β id = some b /\ v = .pointer (some ⟨b, off, none⟩)
 | .fptr cs off, v => ∃ a : Addr, v = .pointer (some (a.add off)) /\ E.Fz a.block /\ RvMem E w a 0 cs
 | .nilsl, v => v = .slice none 0 0
 | .lst n cs ex, v => ∃ (a : Addr) (cap : Nat), v = .slice (some a) n cap /\ n <= cap /\ (ex = true -> cap = n) /\ (cs ≠ [] -> E.Fz a.block) /\ RvMem E w a 0 cs
 | .own id off n sz cap lo, v => ∃ b c e m, E.β id = some b /\ v = .slice (some ⟨b, off, none⟩) n c /\ n <= c /\ (∀ k, cap = some k -> c = k) /\ w.shape? b = some (e, m) /\ off + c * sz <= m /\ lo <= c
 | .nilmap, v => v = .map none
 | .map id, v => ∃ b, E.β id = some b /\ v = .map (some b)
 | .func fn fs cs, v => ∃ xs ys : Array Value, v = .func fn xs ys /\ RvL E w fs xs.toList /\ RvL E w cs ys.toList
 | .nilfn, v => v = .nilFunc
 | .niface, v => v = .nilIface
 | .iface t x, v => ∃ y, v = .iface t y /\ Rv E w x y
 | .agg cs, v => ∃ xs : Array Value, v = .agg xs /\ RvL E w cs xs.toList
 | .tuple cs, v => ∃ xs : Array Value, v = .tuple xs /\ RvL E w cs xs.toList
 | .yld id, v => ∃ b, E.β id = some b /\ v = .func (.yield b) #[] #[]
def RvL (E : Env) (w : World) : List AV -> List Value -> Prop
 | [], l => l = []
 | c :: cs, l => ∃ x xs, l = x :: xs /\ Rv E w c x /\ RvL E w cs xs
def RvMem (E : Env) (w : World) (a : Addr) : Nat -> List AV -> Prop
 | _, [] => True
 | i, c :: cs => (∃ x, w.cell? (a.add i) = some x /\ Rv E w c x) /\ RvMem E w a (i + 1) cs
end
def RvEs (E : Env) (w : World) : List (AV × AV) -> List MapEntry -> Prop
 | [], l => l = []
 | (k, v) :: es, l => ∃ x xs, l = x :: xs /\ Rv E w k x.key /\ Rv E w v x.val /\ RvEs E w es xs
def LS.ok (r0 r : Loop) : LS -> Prop
 | .ready => r = { r0 with state := .ready, pending := none }
 | .busy => r = { r0 with state := .busy, pending := none }
 | .ret => r = { r0 with state := .done, pending := some .ret }
 | .exit id => r = { r0 with state := .done, pending := some (.exit id) }
 | .fin => True
def ObjR (E : Env) (w : World) (b : Nat) : AO -> Prop
 | .row cs => (∃ c e f, w.heap[b]? = some (.cells c e f) /\ cs.length <= c.size /\ (f = (0, 0) \/ c.size <= f.1)) /\ RvMem E w ⟨b, 0, none⟩ 0 cs
 | .fro cs => E.Fz b /\ RvMem E w ⟨b, 0, none⟩ 0 cs
 | .map es => ∃ l clock, w.heap[b]? = some (.map l clock) /\ RvEs E w es l.toList
 | .loop s => ∃ r, w.heap[b]? = some (.loop r) /\ s.ok (E.lr b) r
structure Sat (E : Env) (st : St) (w : World) : Prop where
 dom : ∀ id b, E.β id = some b -> id < st.next /\ b < w.heap.size
 fz : ∀ b, E.Fz b -> b < w.heap.size
 obj : ∀ id o b, st.get id = some o -> E.β id = some b -> ObjR E w b o
 sep : ∀ id id' o o' b, st.get id = some o -> st.get id' = some o' -> o.live = true -> o'.live = true -> E.β id = some b -> E.β id' = some b -> id = id'
 lv : ∀ id o b, st.get id = some o -> o.live = true -> E.β id = some b -> ¬ E.Fz b
 rs : ∀ id, E.Rs id -> E.β id = none /\ id < st.next
 dz : ∀ b, E.Dz b -> w.heap[b]? = some (.deferred (some [])) /\ ¬ E.Fz b
 bt : ∀ id t, st.bt.get id = some t -> ∃ b m, E.β id = some b /\ w.shape? b = some (t, m)
structure Ext0 (E : Env) (w : World) (E' : Env) (w' : World) : Prop where
 β : ∀ id b, E.β id = some b -> E'.β id = some b
 Fz : ∀ b, E.Fz b -> E'.Fz b
 mem : ∀ b, E.Fz b -> w'.heap[b]? = w.heap[b]?
 size : w.heap.size <= w'.heap.size
 shape : ∀ b s, w.shape? b = some s -> w'.shape? b = some s
 os : w'.os = w.os
 tape : w'.tape = w.tape
 output : w'.output = w.output
 lr : ∀ b, b < w.heap.size -> E'.lr b = E.lr b
structure Ext (E : Env) (w : World) (E' : Env) (w' : World) : Prop extends Ext0 E w E' w' where
 Rs : ∀ id, E.Rs id -> E'.Rs id
 Dz : ∀ b, E.Dz b -> E'.Dz b
theorem Ext.refl (E : Env) (w : World) : Ext E w E w := ⟨⟨fun _ _ h => h, fun _ h => h, fun _ _ => rfl, Nat.le_refl _, fun _ _ h => h, rfl, rfl, rfl, fun _ _ => rfl⟩, fun _ h => h, fun _ h => h⟩
theorem Ext0.trans {E E' E'' : Env} {w w' w'' : World} (h : Ext0 E w E' w') (k : Ext0 E' w' E'' w'') : Ext0 E w E'' w'' :=
 ⟨fun i b e => k.β i b (h.β i b e), fun b e => k.Fz b (h.Fz b e), fun b e => (k.mem b (h.Fz b e)).trans (h.mem b e), Nat.le_trans h.size k.size, fun b s e => k.shape b s (h.shape b s e), k.os.trans h.os, k.tape.trans h.tape, k.output.trans h.output, fun b e => (k.lr b (Nat.lt_of_lt_of_le e h.size)).trans (h.lr b e)⟩
theorem Ext.trans {E E' E'' : Env} {w w' w'' : World} (h : Ext E w E' w') (k : Ext E' w' E'' w'') : Ext E w E'' w'' := ⟨h.toExt0.trans k.toExt0, fun i e => k.Rs i (h.Rs i e), fun i e => k.Dz i (h.Dz i e)⟩
def BtOk (E : Env) (st : St) (w : World) : Prop := ∀ id t, st.bt.get id = some t -> ∃ b m, E.β id = some b /\ w.shape? b = some (t, m)
theorem BtOk.mono {E E' : Env} {st st' : St} {w w' : World} (h : BtOk E st w) (hx : Ext0 E w E' w') (hb : st'.bt = st.bt) : BtOk E' st' w' := fun id t ht => by
 rw [hb] at ht
 obtain ⟨b, m, h1, h2⟩ := h id t ht
 exact ⟨b, m, hx.β _ _ h1, hx.shape _ _ h2⟩
theorem cell?_of_heap {w w' : World} {a : Addr} (h : w'.heap[a.block]? = w.heap[a.block]?) : w'.cell? a = w.cell? a := by
 unfold World.cell?; rw [h]
theorem add_block (a : Addr) (n : Nat) : (a.add n).block = a.block := by unfold Addr.add; split <;> rfl
theorem add_add (a : Addr) (m n : Nat) : (a.add m).add n = a.add (m + n) := by
 unfold Addr.add
 by_cases hm : m = 0 <;> by_cases hn : n = 0 <;> simp [hm, hn]
 omega
mutual
theorem Rv.mono0 {E E' : Env} {w w' : World} (h : Ext0 E w E' w') : ∀ (x : AV) (v : Value), Rv E w x v -> Rv E' w' x v
 | .undef, _, hv => hv
 | .bool _, _, hv => hv
 | .int _ _, _, hv => hv
 | .str _, _, hv => hv
 | .nilptr, _, hv => hv
 | .ptr _ _, _, ⟨b, hb, hv⟩ => ⟨b, h.β _ _ hb, hv⟩
 | .fptr cs _, _, ⟨a, hv, hf, hm⟩ => ⟨a, hv, h.Fz _ hf, RvMem.mono0 h a (h.mem _ hf) cs 0 hm⟩
 | .nilsl, _, hv => hv
 | .lst _ cs _, _, ⟨a, cap, hv, h1, h2, h3, h4⟩ => by
  refine ⟨a, cap, hv, h1, h2, fun hc => h.Fz _ (h3 hc), ?_⟩
  cases cs with
  | nil => exact trivial
  | cons c cs => exact RvMem.mono0 h a (h.mem _ (h3 (by simp))) (c :: cs) 0 h4
 | .own _ _ _ _ _ _, _, ⟨b, c, e, m, hb, hv, h1, h2, h3, h4⟩ => ⟨b, c, e, m, h.β _ _ hb, hv, h1, h2, h.shape _ _ h3, h4⟩
 | .nilmap, _, hv => hv
 | .map _, _, ⟨b, hb, hv⟩ => ⟨b, h.β _ _ hb, hv⟩
 | .func _ fs cs, _, ⟨xs, ys, hv, h1, h2⟩ => ⟨xs, ys, hv, RvL.mono0 h fs _ h1, RvL.mono0 h cs _ h2⟩
 | .nilfn, _, hv => hv
 | .niface, _, hv => hv
 | .iface _ x, _, ⟨y, hv, h1⟩ => ⟨y, hv, Rv.mono0 h x y h1⟩
 | .agg cs, _, ⟨xs, hv, h1⟩ => ⟨xs, hv, RvL.mono0 h cs _ h1⟩
 | .tuple cs, _, ⟨xs, hv, h1⟩ => ⟨xs, hv, RvL.mono0 h cs _ h1⟩
 | .yld _, _, ⟨b, hb, hv⟩ => ⟨b, h.β _ _ hb, hv⟩
theorem RvL.mono0 {E E' : Env} {w w' : World} (h : Ext0 E w E' w') : ∀ (l : List AV) (vs : List Value), RvL E w l vs -> RvL E' w' l vs
 | [], _, hv => hv
 | c :: cs, _, ⟨x, xs, hv, h1, h2⟩ => ⟨x, xs, hv, Rv.mono0 h c x h1, RvL.mono0 h cs xs h2⟩
theorem RvMem.mono0 {E E' : Env} {w w' : World} (h : Ext0 E w E' w') (a : Addr) (hb : w'.heap[a.block]? = w.heap[a.block]?) : ∀ (l : List AV) (i : Nat), RvMem E w a i l -> RvMem E' w' a i l
 | [], _, _ => trivial
 | c :: cs, i, ⟨⟨x, hc, h1⟩, h2⟩ => ⟨⟨x, by rw [cell?_of_heap (w := w) (by rw [add_block]; exact hb)]; exact hc, Rv.mono0 h c x h1⟩, RvMem.mono0 h a hb cs (i + 1) h2⟩
end
theorem Rv.mono {E E' : Env} {w w' : World} (h : Ext E w E' w') (x : AV) (v : Value) (hv : Rv E w x v) : Rv E' w' x v := Rv.mono0 h.toExt0 x v hv
theorem RvL.mono {E E' : Env} {w w' : World} (h : Ext E w E' w') (l : List AV) (vs : List Value) (hv : RvL E w l vs) : RvL E' w' l vs := RvL.mono0 h.toExt0 l vs hv
end Go.AM
namespace Go.AM
theorem Rv.cells {E : Env} {w : World} {x : AV} {v : Value} (h : Rv E w x v) : RvL E w x.cells v.cells.toList := by
 cases x with
 | agg cs => obtain ⟨xs, rfl, h⟩ := h; exact h
 | undef => subst h; exact ⟨_, _, rfl, rfl, rfl⟩
 | bool b => subst h; exact ⟨_, _, rfl, rfl, rfl⟩
 | int k n => subst h; exact ⟨_, _, rfl, rfl, rfl⟩
 | str l => obtain ⟨s, rfl, hs⟩ := h; exact ⟨_, _, rfl, ⟨s, rfl, hs⟩, rfl⟩
 | nilptr => subst h; exact ⟨_, _, rfl, rfl, rfl⟩
 | ptr id off => have h0 := h; obtain ⟨b, hb, rfl⟩ := h; exact ⟨_, _, rfl, h0, rfl⟩
 | fptr cs off => have h0 := h; obtain ⟨a, rfl, _⟩ := h; exact ⟨_, _, rfl, h0, rfl⟩
 | nilsl => subst h; exact ⟨_, _, rfl, rfl, rfl⟩
 | lst n cs ex =>
  have h0 := h
  obtain ⟨a, cap, rfl, _⟩ := h; exact ⟨_, _, rfl, h0, rfl⟩
 | own id off n sz cap lo => have h0 := h; obtain ⟨b, c, e, m, hb, rfl, _⟩ := h; exact ⟨_, _, rfl, h0, rfl⟩
 | nilmap => subst h; exact ⟨_, _, rfl, rfl, rfl⟩
 | map id => have h0 := h; obtain ⟨b, hb, rfl⟩ := h; exact ⟨_, _, rfl, h0, rfl⟩
 | func fn fs cs => have h0 := h; obtain ⟨xs, ys, rfl, _⟩ := h; exact ⟨_, _, rfl, h0, rfl⟩
 | nilfn => subst h; exact ⟨_, _, rfl, rfl, rfl⟩
 | niface => subst h; exact ⟨_, _, rfl, rfl, rfl⟩
 | iface t y => have h0 := h; obtain ⟨u, rfl, _⟩ := h; exact ⟨_, _, rfl, h0, rfl⟩
 | tuple vs => have h0 := h; obtain ⟨u, rfl, _⟩ := h; exact ⟨_, _, rfl, h0, rfl⟩
 | yld id => have h0 := h; obtain ⟨b, hb, rfl⟩ := h; exact ⟨_, _, rfl, h0, rfl⟩
theorem Rv.oneCell {E : Env} {w : World} {x : AV} {v : Value} (h : Rv E w x v) (ho : x.one = true) : v.oneCell' = true := by
 cases x with
 | agg cs => simp [AV.one] at ho
 | undef => simp [AV.one] at ho
 | tuple vs => simp [AV.one] at ho
 | bool b => subst h; rfl
 | int k n => subst h; rfl
 | str l => obtain ⟨s, rfl, hs⟩ := h; rfl
 | nilptr => subst h; rfl
 | ptr id off => obtain ⟨b, hb, rfl⟩ := h; rfl
 | fptr cs off => obtain ⟨a, rfl, _⟩ := h; rfl
 | nilsl => subst h; rfl
 | lst n cs ex => obtain ⟨a, cap, rfl, _⟩ := h; rfl
 | own id off n sz cap lo => obtain ⟨b, c, e, m, hb, rfl, _⟩ := h; rfl
 | nilmap => subst h; rfl
 | map id => obtain ⟨b, hb, rfl⟩ := h; rfl
 | func fn fs cs => obtain ⟨xs, ys, rfl, _⟩ := h; rfl
 | nilfn => subst h; rfl
 | niface => subst h; rfl
 | iface t y => obtain ⟨u, rfl, _⟩ := h; rfl
 | yld id => obtain ⟨b, hb, rfl⟩ := h; rfl
section
variable {E : Env} {w : World}
theorem RvL.length : ∀ {l : List AV} {vs : List Value}, RvL E w l vs -> l.length = vs.length
 | [], _, h => by subst h; rfl
 | c :: cs, _, ⟨x, xs, hv, _, h2⟩ => by subst hv; simp [RvL.length h2]
theorem RvL.get : ∀ {l : List AV} {vs : List Value} (i : Nat) {c : AV}, RvL E w l vs -> l[i]? = some c -> ∃ v, vs[i]? = some v /\ Rv E w c v
 | [], _, i, _, _, h => by simp at h
 | c :: cs, _, 0, _, ⟨x, xs, hv, h1, _⟩, h => by simp at h; subst h; subst hv; exact ⟨x, rfl, h1⟩
 | c :: cs, _, i + 1, _, ⟨x, xs, hv, _, h2⟩, h => by subst hv; simpa using RvL.get i h2 (by simpa using h)
theorem RvL.of_get : ∀ {l : List AV} {vs : List Value}, l.length = vs.length -> (∀ (i : Nat) (c : AV) (v : Value), l[i]? = some c -> vs[i]? = some v -> Rv E w c v) -> RvL E w l vs
 | [], vs, hl, _ => by cases vs with | nil => rfl | cons _ _ => simp at hl
 | c :: cs, vs, hl, h => by
  cases vs with
  | nil => simp at hl
  | cons x xs =>
   refine ⟨x, xs, rfl, h 0 c x rfl rfl, RvL.of_get (by simpa using hl) fun i c' v h1 h2 => h (i + 1) c' v (by simpa using h1) (by simpa using h2)⟩
theorem RvL.append {l l' : List AV} {vs vs' : List Value} : RvL E w l vs -> RvL E w l' vs' -> RvL E w (l ++ l') (vs ++ vs') := by
 induction l generalizing vs with
 | nil => intro h h'; cases h; exact h'
 | cons c cs ih => rintro ⟨x, xs, rfl, h1, h2⟩ h'; exact ⟨x, xs ++ vs', rfl, h1, ih h2 h'⟩
theorem RvL.drop {l : List AV} {vs : List Value} (h : RvL E w l vs) (k : Nat) : RvL E w (l.drop k) (vs.drop k) :=
 RvL.of_get (by simp [h.length]) fun i c v h1 h2 => by
  obtain ⟨v', h3, h4⟩ := h.get (k + i) (c := c) (by simpa using h1)
  have : vs[k + i]? = some v := by simpa using h2
  rw [this] at h3; injection h3 with h3; subst h3; exact h4
theorem RvL.take {l : List AV} {vs : List Value} (h : RvL E w l vs) (k : Nat) : RvL E w (l.take k) (vs.take k) :=
 RvL.of_get (by simp [h.length]) fun i c v h1 h2 => by
  rw [List.getElem?_take] at h1 h2
  split at h1
  ·rename_i hk
   simp only [hk, if_true] at h2
   obtain ⟨v', h3, h4⟩ := h.get i h1
   rw [h2] at h3; injection h3 with h3; subst h3; exact h4
  ·simp at h1
theorem RvL.one {l : List AV} {vs : List Value} (h : RvL E w l vs) (ho : l.all AV.one = true) : ∀ v ∈ vs, v.oneCell' = true := by
 intro v hv
 obtain ⟨i, hi⟩ := List.mem_iff_getElem?.1 hv
 have hlt : i < l.length := by rw [h.length]; exact (List.getElem?_eq_some_iff.1 hi).1
 obtain ⟨v', h3, h4⟩ := h.get i (List.getElem?_eq_getElem hlt)
 rw [hi] at h3; injection h3 with h3; subst h3
 exact h4.oneCell (List.all_eq_true.1 ho _ (List.getElem_mem hlt))
theorem RvMem.get : ∀ {a : Addr} {cs : List AV} {i : Nat} (j : Nat) {c : AV}, RvMem E w a i cs -> cs[j]? = some c -> ∃ x, w.cell? (a.add (i + j)) = some x /\ Rv E w c x
 | _, [], _, j, _, _, h => by simp at h
 | a, c :: cs, i, 0, _, ⟨h1, _⟩, h => by simp at h; subst h; simpa using h1
 | a, c :: cs, i, j + 1, _, ⟨_, h2⟩, h => by
  have := RvMem.get j h2 (by simpa using h)
  rwa [show i + 1 + j = i + (j + 1) by omega] at this
theorem RvMem.of_get : ∀ {a : Addr} {cs : List AV} {i : Nat}, (∀ j c, cs[j]? = some c -> ∃ x, w.cell? (a.add (i + j)) = some x /\ Rv E w c x) -> RvMem E w a i cs
 | _, [], _, _ => trivial
 | a, c :: cs, i, h => ⟨h 0 c rfl, RvMem.of_get fun j c' hc => by
   have := h (j + 1) c' (by simpa using hc)
   rwa [show i + (j + 1) = i + 1 + j by omega] at this⟩
theorem RvMem.vals : ∀ {a : Addr} {cs : List AV} {i : Nat}, RvMem E w a i cs -> ∃ xs : List Value, RvL E w cs xs /\ ∀ j v, xs[j]? = some v -> w.cell? (a.add (i + j)) = some v
 | _, [], _, _ => ⟨[], rfl, fun j v h => by simp at h⟩
 | a, c :: cs, i, ⟨⟨x, h1, h2⟩, h3⟩ => by
  obtain ⟨xs, h4, h5⟩ := RvMem.vals h3
  refine ⟨x :: xs, ⟨x, xs, rfl, h2, h4⟩, fun j v hj => ?_⟩
  cases j with
  | zero => simp at hj; subst hj; simpa using h1
  | succ j =>
   have := h5 j v (by simpa using hj)
   rwa [show i + 1 + j = i + (j + 1) by omega] at this
theorem RvMem.at {a : Addr} {cs : List AV} (h : RvMem E w a 0 cs) (k : Nat) : RvMem E w (a.add k) 0 (cs.drop k) :=
 RvMem.of_get fun j c hc => by
  obtain ⟨x, h1, h2⟩ := h.get (k + j) (c := c) (by simpa using hc)
  exact ⟨x, by rw [add_add, show k + (0 + j) = 0 + (k + j) by omega]; exact h1, h2⟩
theorem RvMem.take {a : Addr} {cs : List AV} {i : Nat} (h : RvMem E w a i cs) (k : Nat) : RvMem E w a i (cs.take k) :=
 RvMem.of_get fun j c hc => by
  rw [List.getElem?_take] at hc
  split at hc
  ·exact h.get j hc
  ·simp at hc
theorem RvMem.new {cs : List AV} {vs : Array Value} {b : Nat} {e : TypeId} {fr : Nat × Nat} (h : RvL E w cs vs.toList) (hb : w.heap[b]? = some (.cells vs e fr)) : RvMem E w ⟨b, 0, none⟩ 0 cs :=
 RvMem.of_get fun j c hc => by
  obtain ⟨v, h1, h2⟩ := h.get j hc
  refine ⟨v, ?_, h2⟩
  have : ((⟨b, 0, none⟩ : Addr).add (0 + j)) = ⟨b, j, none⟩ := by
   unfold Addr.add; split
   ·rename_i h0; simp at h0; simp [h0]
   ·simp
  rw [this, cell_of_row w b j vs e fr hb]
  simpa using h1
end
theorem shape_of_heap {w w' : World} {b : Nat} (h : w'.heap[b]? = w.heap[b]?) : w'.shape? b = w.shape? b := by unfold World.shape?; rw [h]
theorem heap_push_old (w : World) (o : Obj) (k : Nat) (h : k < w.heap.size) : (w.alloc o).heap[k]? = w.heap[k]? := heap_alloc_old w o k h
def Env.link (E : Env) (id b : Nat) : Env := { E with β := fun i => if i = id then some b else E.β i }
def Env.fzb (E : Env) (b : Nat) : Env := { E with Fz := fun k => k = b \/ E.Fz k }
theorem Ext.alloc {E : Env} {w : World} (o : Obj) {E' : Env} (hβ : ∀ id b, E.β id = some b -> E'.β id = some b) (hF : ∀ b, E.Fz b -> E'.Fz b) (hR : ∀ i, E.Rs i -> E'.Rs i) (hL : ∀ b, b < w.heap.size -> E'.lr b = E.lr b) (hDz : ∀ b, E.Dz b -> E'.Dz b) (hfz : ∀ b, E.Fz b -> b < w.heap.size) : Ext E w E' (w.alloc o):={
 β := hβ
 Fz := hF
 mem b hb := heap_push_old w o b (hfz b hb)
 size := by simp
 shape b s hs := by
  have : b < w.heap.size := by
   unfold World.shape? at hs
   cases hh : w.heap[b]? with
   | none => rw [hh] at hs; simp at hs
   | some x => exact (Array.getElem?_eq_some_iff.1 hh).1
  rw [shape_of_heap (heap_push_old w o b this)]; exact hs
 os := rfl
 tape := rfl
 output := rfl
 lr := hL
 Rs := hR
 Dz := hDz}
theorem RvEs.mono {E E' : Env} {w w' : World} (h : Ext0 E w E' w') : ∀ (es : List (AV × AV)) (l : List MapEntry), RvEs E w es l -> RvEs E' w' es l
  | [], _, h1 => h1
  | (_, _) :: es, _, ⟨x, xs, h1, h2, h3, h4⟩ => ⟨x, xs, h1, Rv.mono0 h _ _ h2, Rv.mono0 h _ _ h3, RvEs.mono h es xs h4⟩
theorem ObjR.mono0 {E E' : Env} {w w' : World} (h : Ext0 E w E' w') {b : Nat} (hb : w'.heap[b]? = w.heap[b]?) : ∀ {o : AO}, ObjR E w b o -> ObjR E' w' b o
 | .row _, ⟨⟨c, e, f, h1, h2⟩, h3⟩ => ⟨⟨c, e, f, by rw [hb]; exact h1, h2⟩, RvMem.mono0 h _ hb _ _ h3⟩
 | .fro _, ⟨h1, h2⟩ => ⟨h.Fz _ h1, RvMem.mono0 h _ hb _ _ h2⟩
 | .map es, ⟨l, c, h1, h2⟩ => ⟨l, c, by rw [hb]; exact h1, RvEs.mono h _ _ h2⟩
 | .loop s, ⟨r, h1, h2⟩ => ⟨r, by rw [hb]; exact h1, by rw [h.lr b (Array.getElem?_eq_some_iff.1 h1).1]; exact h2⟩
theorem ObjR.mono {E E' : Env} {w w' : World} (h : Ext E w E' w') {b : Nat} (hb : w'.heap[b]? = w.heap[b]?) {o : AO} (hv : ObjR E w b o) : ObjR E' w' b o := ObjR.mono0 h.toExt0 hb hv
theorem Sat.setRs {E : Env} {st : St} {w : World} (h : Sat E st w) (R : Nat -> Prop) (hR : ∀ id, R id -> E.β id = none /\ id < st.next) : Sat { E with Rs := R } st w :=
 have hx : Ext0 E w { E with Rs := R } w := ⟨fun _ _ h => h, fun _ h => h, fun _ _ => rfl, Nat.le_refl _, fun _ _ h => h, rfl, rfl, rfl, fun _ _ => rfl⟩
 ⟨h.dom, h.fz, fun id o b h1 h2 => ObjR.mono0 hx rfl (h.obj id o b h1 h2), h.sep, h.lv, hR, h.dz, BtOk.mono h.bt hx rfl⟩
theorem Sat.drew {E : Env} {st : St} {w : World} (h : Sat E st w) : Sat E st w.drew /\ Ext E w E w.drew := by
 have hx : Ext E w E w.drew := ⟨⟨fun _ _ h => h, fun _ h => h, fun _ _ => rfl, Nat.le_refl _, fun _ _ h => h, rfl, rfl, rfl, fun _ _ => rfl⟩, fun _ h => h, fun _ h => h⟩
 exact ⟨⟨h.dom, h.fz, fun id o b h1 h2 => ObjR.mono hx rfl (h.obj id o b h1 h2), h.sep, h.lv, h.rs, h.dz, BtOk.mono h.bt hx.toExt0 rfl⟩, hx⟩
theorem Sat.allocFz {E : Env} {st : St} {w : World} (h : Sat E st w) (o : Obj) : Sat (E.fzb w.heap.size) st (w.alloc o) /\ Ext E w (E.fzb w.heap.size) (w.alloc o) := by
 have hx : Ext E w (E.fzb w.heap.size) (w.alloc o) := Ext.alloc o (fun _ _ h => h) (fun _ h => Or.inr h) (fun _ h => h) (fun _ _ => rfl) (fun _ h => h) h.fz
 refine ⟨⟨fun id b hb => ?_, fun b hb => ?_, fun id o' b h1 h2 => ?_, h.sep, fun id o' b h1 h2 h3 hf => ?_, h.rs, fun b hb => ?_, BtOk.mono h.bt hx.toExt0 rfl⟩, hx⟩
 ·have := h.dom id b hb; simp; omega
 ·rcases hb with rfl | hb
  ·simp
  ·have := h.fz b hb; simp; omega
 ·have := h.dom id b h2
  exact ObjR.mono hx (heap_push_old w o b this.2) (h.obj id o' b h1 h2)
 ·have := h.dom id b h3
  rcases hf with rfl | hf
  ·omega
  ·exact h.lv id o' b h1 h2 h3 hf
 ·obtain ⟨h1, h2⟩ := h.dz b hb
  have hlt := (Array.getElem?_eq_some_iff.1 h1).1
  exact ⟨by rw [heap_push_old w o b hlt]; exact h1, fun hf => hf.elim (fun e => by omega) h2⟩
theorem Sat.link' {E : Env} {st : St} {w : World} (h : Sat E st w) (o : Obj) (id : Nat) (ao : AO) (hid : id < st.next) (hβ : E.β id = none) (hr : ¬ E.Rs id) (hg : st.get id = some ao)
  (hobj : Ext E w (E.link id w.heap.size) (w.alloc o) -> ObjR (E.link id w.heap.size) (w.alloc o) w.heap.size ao) :
  Sat (E.link id w.heap.size) st (w.alloc o) /\ Ext E w (E.link id w.heap.size) (w.alloc o) := by
 have hx : Ext E w (E.link id w.heap.size) (w.alloc o) := Ext.alloc o (fun i b hb => by
  show (if i = id then _ else _) = _
  rw [if_neg (by rintro rfl; rw [hβ] at hb; simp at hb)]; exact hb) (fun _ h => h) (fun _ h => h) (fun _ _ => rfl) (fun _ h => h) h.fz
 have hlink : ∀ i b, (E.link id w.heap.size).β i = some b -> (i = id /\ b = w.heap.size) \/ (i ≠ id /\ E.β i = some b) := fun i b hb => by
  have : (if i = id then some w.heap.size else E.β i) = some b := hb
  by_cases hi : i = id
  ·rw [if_pos hi] at this; injection this with this; exact .inl ⟨hi, this.symm⟩
  ·rw [if_neg hi] at this; exact .inr ⟨hi, this⟩
 refine ⟨⟨fun i b hb => ?_, fun b hb => ?_, fun i o' b h1 h2 => ?_, fun i i' o1 o2 b h1 h2 l1 l2 b1 b2 => ?_, fun i o' b h1 h2 h3 => ?_, fun i hi => ⟨by
  show (if i = id then _ else _) = _
  rw [if_neg (by rintro rfl; exact hr hi)]; exact (h.rs i hi).1, (h.rs i hi).2⟩, fun b hb => by
  obtain ⟨h1, h2⟩ := h.dz b hb
  exact ⟨by rw [heap_push_old w o b (Array.getElem?_eq_some_iff.1 h1).1]; exact h1, h2⟩, BtOk.mono h.bt hx.toExt0 rfl⟩, hx⟩
 ·rcases hlink i b hb with ⟨rfl, rfl⟩ | ⟨_, hb⟩
  ·exact ⟨hid, by simp⟩
  ·have := h.dom i b hb; exact ⟨this.1, by simp; omega⟩
 ·have := h.fz b hb; simp; omega
 ·rcases hlink i b h2 with ⟨rfl, rfl⟩ | ⟨_, h2⟩
  ·rw [hg] at h1; injection h1 with h1; subst h1; exact hobj hx
  ·exact ObjR.mono hx (heap_push_old w o b (h.dom i b h2).2) (h.obj i o' b h1 h2)
 ·rcases hlink i b b1 with ⟨e1, e2⟩ | ⟨_, c1⟩ <;> rcases hlink i' _ b2 with ⟨e3, e4⟩ | ⟨_, c2⟩
  ·rw [e1, e3]
  ·have := (h.dom _ _ c2).2; omega
  ·have := (h.dom _ _ c1).2; omega
  ·exact h.sep i i' o1 o2 b h1 h2 l1 l2 c1 c2
 ·rcases hlink i b h3 with ⟨rfl, rfl⟩ | ⟨_, h3⟩
  ·intro hf; have := h.fz _ hf; omega
  ·exact h.lv i o' b h1 h2 h3
theorem Sat.link {E : Env} {st : St} {w : World} (h : Sat E st w) (o : Obj) (id : Nat) (ao : AO) (hid : id < st.next) (hβ : E.β id = none) (hr : ¬ E.Rs id) (hg : st.get id = some ao)
  (hobj : ∀ E' : Env, Ext E w E' (w.alloc o) -> ObjR E' (w.alloc o) w.heap.size ao) :
  Sat (E.link id w.heap.size) st (w.alloc o) /\ Ext E w (E.link id w.heap.size) (w.alloc o) := h.link' o id ao hid hβ hr hg (hobj _)
theorem Sat.ahead {E : Env} {st : St} {w : World} (h : Sat E st w) (ao : AO) : Sat E (st.new ao) w := by
 have hβ : E.β st.next = none := by
  cases hb : E.β st.next with
  | none => rfl
  | some b => have := (h.dom _ _ hb).1; omega
 exact ⟨fun i b hb => ⟨by have := (h.dom i b hb).1; simp; omega, (h.dom i b hb).2⟩, h.fz, fun i o' b h1 h2 => by
   rw [St.get_new] at h1
   by_cases hi : i = st.next
   ·subst hi; rw [hβ] at h2; simp at h2
   ·rw [if_neg hi] at h1; exact h.obj i o' b h1 h2,
  fun i i' o1 o2 b h1 h2 l1 l2 b1 b2 => by
   rw [St.get_new] at h1 h2
   by_cases hi : i = st.next
   ·subst hi; rw [hβ] at b1; simp at b1
   ·by_cases hi' : i' = st.next
    ·subst hi'; rw [hβ] at b2; simp at b2
    ·rw [if_neg hi] at h1; rw [if_neg hi'] at h2; exact h.sep i i' o1 o2 b h1 h2 l1 l2 b1 b2,
  fun i o' b h1 h2 h3 => by
   rw [St.get_new] at h1
   by_cases hi : i = st.next
   ·subst hi; rw [hβ] at h3; simp at h3
   ·rw [if_neg hi] at h1; exact h.lv i o' b h1 h2 h3,
  fun i hi => ⟨(h.rs i hi).1, by have := (h.rs i hi).2; simp; omega⟩, h.dz, h.bt⟩
theorem Sat.alloc' {E : Env} {st : St} {w : World} (h : Sat E st w) (o : Obj) (ao : AO)
  (hobj : Ext E w (E.link st.next w.heap.size) (w.alloc o) -> ObjR (E.link st.next w.heap.size) (w.alloc o) w.heap.size ao) :
  Sat (E.link st.next w.heap.size) (st.new ao) (w.alloc o) /\ Ext E w (E.link st.next w.heap.size) (w.alloc o) := by
 have hβ : E.β st.next = none := by
  cases hb : E.β st.next with
  | none => rfl
  | some b => have := (h.dom _ _ hb).1; omega
 exact (h.ahead ao).link' o st.next ao (by simp) hβ (fun hr => by have := (h.rs _ hr).2; omega) (by simp) hobj
theorem Sat.alloc {E : Env} {st : St} {w : World} (h : Sat E st w) (o : Obj) (ao : AO)
  (hobj : ∀ E' : Env, Ext E w E' (w.alloc o) -> ObjR E' (w.alloc o) w.heap.size ao) :
  Sat (E.link st.next w.heap.size) (st.new ao) (w.alloc o) /\ Ext E w (E.link st.next w.heap.size) (w.alloc o) := h.alloc' o ao (hobj _)
theorem Sat.write {E : Env} {st : St} {w w' : World} (h : Sat E st w) (id b : Nat) (o o' : AO) (hg : st.get id = some o) (hl : o.live = true) (hb : E.β id = some b)
  (hoth : ∀ k, k ≠ b -> w'.heap[k]? = w.heap[k]?) (hsize : w'.heap.size = w.heap.size) (hshape : ∀ s, w.shape? b = some s -> w'.shape? b = some s)
  (hos : w'.os = w.os) (htape : w'.tape = w.tape) (hout : w'.output = w.output) (_hl' : o'.live = true) (hobj : Ext E w E w' -> ObjR E w' b o') :
  Sat E (st.put id o') w' /\ Ext E w E w' := by
 have hx : Ext E w E w' := ⟨⟨fun _ _ h => h, fun _ h => h, fun k hk => hoth k (by rintro rfl; exact h.lv id o _ hg hl hb hk), by omega, fun k s hs => by
  by_cases hk : k = b
  ·subst hk; exact hshape s hs
  ·rw [shape_of_heap (hoth k hk)]; exact hs, hos, htape, hout, fun _ _ => rfl⟩, fun _ h => h, fun _ h => h⟩
 refine ⟨⟨fun i c hc => ?_, fun c hc => ?_, fun i o1 c h1 h2 => ?_, fun i i' o1 o2 c h1 h2 l1 l2 b1 b2 => ?_, fun i o1 c h1 h2 h3 => ?_, h.rs, fun c hc => ?_, BtOk.mono h.bt hx.toExt0 rfl⟩, hx⟩
 ·have := h.dom i c hc; rw [hsize]; exact this
 ·have := h.fz c hc; omega
 ·rw [St.get_put] at h1
  by_cases hi : i = id
  ·subst hi; rw [if_pos rfl] at h1; injection h1 with h1; subst h1; rw [hb] at h2; injection h2 with h2; subst h2; exact hobj hx
  ·rw [if_neg hi] at h1
   have h3 := h.obj i o1 c h1 h2
   cases o1 with
   | fro cs => exact ObjR.mono hx (hx.mem _ h3.1) h3
   | row cs => exact ObjR.mono hx (hoth c (by rintro rfl; exact hi (h.sep i id _ _ _ h1 hg rfl hl h2 hb))) h3
   | map es => exact ObjR.mono hx (hoth c (by rintro rfl; exact hi (h.sep i id _ _ _ h1 hg rfl hl h2 hb))) h3
   | loop s => exact ObjR.mono hx (hoth c (by rintro rfl; exact hi (h.sep i id _ _ _ h1 hg rfl hl h2 hb))) h3
 ·rw [St.get_put] at h1 h2
  by_cases hi : i = id
  ·subst hi
   by_cases hi' : i' = i
   ·exact hi'.symm
   ·rw [if_neg hi'] at h2; exact h.sep i i' o o2 c hg h2 hl l2 b1 b2
  ·rw [if_neg hi] at h1
   by_cases hi' : i' = id
   ·subst hi'; exact h.sep i i' o1 o c h1 hg l1 hl b1 b2
   ·rw [if_neg hi'] at h2; exact h.sep i i' o1 o2 c h1 h2 l1 l2 b1 b2
 ·rw [St.get_put] at h1
  by_cases hi : i = id
  ·subst hi; exact h.lv i o c hg hl h3
  ·rw [if_neg hi] at h1; exact h.lv i o1 c h1 h2 h3
 ·obtain ⟨h1, h2⟩ := h.dz c hc
  refine ⟨?_, h2⟩
  rw [hoth c]
  ·exact h1
  ·rintro rfl
   have h3 := h.obj id o c hg hb
   cases o with
   | fro cs => cases hl
   | row cs => obtain ⟨⟨_, _, _, h4, _⟩, _⟩ := h3; rw [h1] at h4; cases h4
   | map es => obtain ⟨_, _, h4, _⟩ := h3; rw [h1] at h4; cases h4
   | loop s => obtain ⟨_, h4, _⟩ := h3; rw [h1] at h4; cases h4
theorem Sat.del {E : Env} {st : St} {w : World} (h : Sat E st w) (id : Nat) : Sat E (st.del id) w := by
 have key : ∀ i o, (st.del id).get i = some o -> st.get i = some o := fun i o h1 => by
  rw [St.get_del] at h1
  split at h1
  ·simp at h1
  ·exact h1
 exact ⟨h.dom, h.fz, fun i o b h1 h2 => h.obj i o b (key _ _ h1) h2, fun i i' o1 o2 b h1 h2 => h.sep i i' o1 o2 b (key _ _ h1) (key _ _ h2), fun i o b h1 => h.lv i o b (key _ _ h1), h.rs, h.dz, h.bt⟩
theorem Sat.tag {E : Env} {st : St} {w : World} (h : Sat E st w) {id b t m : Nat} (hb : E.β id = some b) (hs : w.shape? b = some (t, m)) : Sat E (st.tag id t) w :=
 ⟨h.dom, h.fz, h.obj, h.sep, h.lv, h.rs, h.dz, fun i u hu => by
  have hu : (st.bt.set id (some t)).get i = some u := hu
  rw [Tr.get_set] at hu
  by_cases hi : i = id
  ·rw [if_pos hi] at hu; injection hu with hu; subst hu; subst hi; exact ⟨b, m, hb, hs⟩
  ·rw [if_neg hi] at hu; exact h.bt i u hu⟩
theorem add_at (b off i : Nat) : ((⟨b, off, none⟩ : Addr).add i) = ⟨b, off + i, none⟩ := by
 unfold Addr.add; split
 ·rename_i h; simp [h]
 ·rfl
theorem frozen_no (w : World) (g j : Nat) (cs : Array Value) (t : TypeId) (f : Nat × Nat) (hg : w.heap[g]? = some (.cells cs t f)) (hf : f = (0, 0) \/ cs.size <= f.1) (hj : j < cs.size) : w.frozen? ⟨g, j, none⟩ = false := by
 obtain ⟨lo, hi⟩ := f
 simp only [World.frozen?, hg]
 rcases hf with hf | hf
 ·injection hf with h1 h2; subst h1; subst h2; simp
 ·simp only at hf
  have : ¬ (lo <= j) := by omega
  simp [this]
theorem heap_setCell_row (w : World) (g i : Nat) (cs : Array Value) (t : TypeId) (f : Nat × Nat) (v : Value) (hg : w.heap[g]? = some (.cells cs t f)) :
  (w.setCell ⟨g, i, none⟩ v).heap[g]? = some (.cells (cs.setIfInBounds i v) t f) := by
 simp only [World.setCell, Array.getElem?_modify, if_true, hg]
 rfl
theorem run_storeCells {P : Program} (b off : Nat) (e : TypeId) (f : Nat × Nat) : ∀ (vs : List Value) (i : Nat) (cur : Array Value) (w : World),
  w.heap[b]? = some (.cells cur e f) -> (f = (0, 0) \/ cur.size <= f.1) -> off + i + vs.length <= cur.size -> (∀ v ∈ vs, v.oneCell' = true) ->
  ∃ w' cur', (storeCells ⟨b, off, none⟩ vs i).run P w = .ok () w' /\ w'.heap[b]? = some (.cells cur' e f) /\ cur'.size = cur.size ∧
   (∀ j, cur'[j]? = if off + i <= j /\ j < off + i + vs.length then vs[j - (off + i)]? else cur[j]?) /\ (∀ k, k ≠ b -> w'.heap[k]? = w.heap[k]?) ∧
   w'.heap.size = w.heap.size /\ w'.os = w.os /\ w'.tape = w.tape /\ w'.output = w.output
 | [], i, cur, w, hg, _, _, _ => ⟨w, cur, by simp [storeCells], hg, rfl, fun j => by simp; omega, fun _ _ => rfl, rfl, rfl, rfl, rfl⟩
 | v :: vs, i, cur, w, hg, hfz, hlen, hone => by
  simp only [List.length_cons] at hlen
  have hc : w.cell? ⟨b, off + i, none⟩ = some cur[off + i] := by
   rw [cell_of_row w b _ cur e f hg]; exact Array.getElem?_eq_getElem (by omega)
  have hf : w.frozen? ⟨b, off + i, none⟩ = false := frozen_no w b _ cur e f hg hfz (by omega)
  have h1 : (w.setCell ⟨b, off + i, none⟩ v).heap[b]? = some (.cells (cur.setIfInBounds (off + i) v) e f) := heap_setCell_row w b (off + i) cur e f v hg
  obtain ⟨w', cur', r1, r2, r3, r4, r5, r6, r7, r8, r9⟩ := run_storeCells (P := P) b off e f vs (i + 1) _ _ h1 (by simpa using hfz) (by simp; omega) (fun u hu => hone u (by simp [hu]))
  refine ⟨w', cur', ?_, r2, by simpa using r3, fun j => ?_, fun k hk => ?_, by simpa using r6, by rw [r7]; rfl, by rw [r8]; rfl, by rw [r9]; rfl⟩
  ·simp only [storeCells, Sem.run_bind, add_at, run_store P w _ v _ (hone v (by simp)), hc, hf, Bool.false_eq_true, if_false, Result.andThen]
   exact r1
  ·rw [r4 j]
   by_cases hj : j = off + i
   ·subst hj
    rw [if_neg (by omega), if_pos (by simp)]
    simp [(show off + i < cur.size by omega)]
   ·by_cases hj2 : off + (i + 1) <= j /\ j < off + (i + 1) + vs.length
    ·rw [if_pos hj2, if_pos (by simp only [List.length_cons]; omega)]
     rw [show j - (off + i) = (j - (off + (i + 1))) + 1 by omega]; simp
    ·rw [if_neg hj2, if_neg (by simp only [List.length_cons]; omega)]
     rw [Array.getElem?_setIfInBounds, if_neg (by omega)]
  ·rw [r5 k hk]; exact heap_setCell_other w _ k v hk
end Go.AM
namespace Go.AM
theorem wrap_i64 {n : Int} (h1 : -9223372036854775808 <= n) (h2 : n <= 9223372036854775807) : IntKind.i64.wrap n = n := by
 rw [IntKind.wrap_i64]; omega
theorem wrap_in64 (n : Int) (h : in64 n = true) : IntKind.i64.wrap n = n := by
 cases n with
 | ofNat m => have h' := Nat.le_of_ble_eq_true h; exact wrap_i64 (Int.le_trans (by decide) (Int.natCast_nonneg m)) (Int.ofNat_le.2 h')
 | negSucc m => have h' := Nat.le_of_ble_eq_true h; exact wrap_i64 (by omega) (Int.le_trans (Int.le_of_lt (Int.negSucc_lt_zero m)) (by decide))
theorem cond_same {α : Type} (b : Bool) (x y : α) (h : b = true -> x = y) : (bif b then x else y) = y := by
 cases b
 ·rfl
 ·exact h rfl
theorem wr_eq (k : IntKind) (n : Int) : wr k n = k.wrap n := by
 cases k with
 | i64 => exact cond_same _ _ _ fun h => (wrap_in64 n h).symm
 | _ => rfl
section
variable {E : Env} {st : St} {w : World} {P : Program}
theorem ofCells_sound {agg : Bool} {n : Nat} {l : List AV} {vs : List Value} {r : AV} (h : RvL E w l vs) (hr : ofCells agg n l = some r) :
  (agg = true -> vs.length = n /\ Rv E w r (.agg vs.toArray)) /\ (agg = false -> ∃ v, vs = [v] /\ Rv E w r v) := by
 unfold ofCells at hr
 cases agg with
 | true =>
  simp only [cond_true] at hr
  cases hn : l.length.beq n
  ·simp [hn] at hr
  ·simp [hn] at hr; subst hr
   have := Nat.eq_of_beq_eq_true hn
   exact ⟨fun _ => ⟨by rw [<- h.length]; exact this, vs.toArray, rfl, by simpa using h⟩, by simp⟩
 | false =>
  simp only [cond_false] at hr
  refine ⟨by simp, fun _ => ?_⟩
  cases l with
  | nil => simp at hr
  | cons c cs =>
   cases cs with
   | nil =>
    simp at hr; subst hr
    obtain ⟨x, xs, rfl, h1, h2⟩ := h
    cases h2
    exact ⟨x, rfl, h1⟩
   | cons d ds => simp at hr
theorem cellsAt_sound {x : AV} {v : Value} {cs : List AV} (hs : Sat E st w) (h : Rv E w x v) (hc : cellsAt st x = some cs) :
  ∃ a, v = .pointer (some a) /\ RvMem E w a 0 cs := by
 cases x with
 | fptr ds off =>
  obtain ⟨a, rfl, _, hm⟩ := h
  simp [cellsAt] at hc; subst hc
  exact ⟨_, rfl, hm.at off⟩
 | ptr id off =>
  obtain ⟨b, hb, rfl⟩ := h
  have e : (⟨b, off, none⟩ : Addr) = (⟨b, 0, none⟩ : Addr).add off := by rw [add_at]; simp
  simp only [cellsAt] at hc
  cases ho : st.get id with
  | none => simp [ho] at hc
  | some o =>
   have hobj := hs.obj id o b ho hb
   cases o with
   | loop s => simp [ho] at hc
   | row ds => simp [ho] at hc; subst hc; exact ⟨_, rfl, e ▸ hobj.2.at off⟩
   | fro ds => simp [ho] at hc; subst hc; exact ⟨_, rfl, e ▸ hobj.2.at off⟩
   | map es => simp [ho] at hc
 | _ => simp [cellsAt] at hc
theorem run_isAgg {t : TypeId} {d : TypeDesc} (hd : P.underlying t = some d) : (isAgg t).run P w = .ok (aggOf d) w := by
 simp only [isAgg, Sem.run_bind, underlying, run_program, Result.andThen, hd]
 cases d <;> rfl
theorem run_sizeOf' {t : TypeId} {i : TypeInfo} (hi : P.info? t = some i) : (sizeOf t).run P w = .ok i.size w := by
 simp [sizeOf, typeInfo, hi]
theorem loadA_sound {x : AV} {v : Value} {r : AV} {t : TypeId} {d : TypeDesc} {i : TypeInfo} {n : Nat} (hd : P.underlying t = some d) (hi : P.info? t = some i) (hn : i.size = n)
  (hs : Sat E st w) (h : Rv E w x v) (hr : loadA (aggOf d) n st x = some r) : ∃ u, (Instr.loadAt t v).run P w = .ok u w /\ Rv E w r u := by
 unfold loadA at hr
 cases hc : cellsAt st x with
 | none => simp [hc] at hr
 | some cs =>
  simp [hc] at hr
  obtain ⟨a, rfl, hm⟩ := cellsAt_sound hs h hc
  obtain ⟨vs, hv, hcell⟩ := (hm.take n).vals
  obtain ⟨k1, k2⟩ := ofCells_sound hv hr
  cases hag : aggOf d with
  | true =>
   obtain ⟨e1, e2⟩ := k1 hag
   refine ⟨_, ?_, e2⟩
   have := run_loadCells_list (P := P) w a vs (fun j v hj => by have := hcell j v hj; simpa using this)
   rw [e1] at this
   simp [Instr.loadAt, Instr.sureAddr, loadVar, run_isAgg hd, hag, run_sizeOf' hi, hn, this]
  | false =>
   obtain ⟨v, rfl, e2⟩ := k2 hag
   refine ⟨v, ?_, e2⟩
   have hc0 : w.cell? a = some v := by have := hcell 0 v rfl; simpa [Addr.add] using this
   simp [Instr.loadAt, Instr.sureAddr, loadVar, run_isAgg hd, hag, hc0]
theorem setCells_get (cs xs : List AV) (off j : Nat) (h : off + xs.length <= cs.length) :
  (setCells cs off xs)[j]? = if off <= j /\ j < off + xs.length then xs[j - off]? else cs[j]? := by
 unfold setCells
 have hl : (cs.take off).length = off := by simp; omega
 by_cases h1 : j < off
 ·rw [List.getElem?_append_left (by omega), if_neg (by omega), List.getElem?_take, if_pos h1]
 ·rw [List.getElem?_append_right (by omega), hl]
  by_cases h2 : j < off + xs.length
  ·rw [List.getElem?_append_left (by omega), if_pos (by omega)]
  ·rw [List.getElem?_append_right (by omega), if_neg (by omega), List.getElem?_drop]
   congr 1; omega
theorem setCells_length (cs xs : List AV) (off : Nat) (h : off + xs.length <= cs.length) : (setCells cs off xs).length = cs.length := by
 simp [setCells]; omega
theorem write_row {id b off : Nat} {cs xs : List AV} {vs : List Value} (hs : Sat E st w) (hg : st.get id = some (.row cs)) (hb : E.β id = some b) (hx : RvL E w xs vs)
  (hlen : off + xs.length <= cs.length) (hone : ∀ v ∈ vs, v.oneCell' = true) :
  ∃ w', (storeCells ⟨b, off, none⟩ vs).run P w = .ok () w' /\ Sat E (st.put id (.row (setCells cs off xs))) w' /\ Ext E w E w' := by
 obtain ⟨⟨c, e, f, hbk, hcs, hfz⟩, hm⟩ := hs.obj id _ b hg hb
 have hl := hx.length
 obtain ⟨w', cur', r1, r2, r3, r4, r5, r6, r7, r8, r9⟩ := run_storeCells (P := P) b off e f vs 0 c w hbk hfz (by omega) hone
 have hsh : ∀ s, w.shape? b = some s -> w'.shape? b = some s := fun s h => by
  unfold World.shape? at h ⊢; rw [hbk] at h; rw [r2]; simpa [r3] using h
 refine ⟨w', r1, Sat.write hs id b (.row cs) _ hg rfl hb r5 r6 hsh r7 r8 r9 rfl fun hext => ⟨⟨cur', e, f, r2, ?_, by rw [r3]; exact hfz⟩, ?_⟩⟩
 ·rw [setCells_length _ _ _ hlen, r3]; exact hcs
 ·refine RvMem.of_get fun j d hd => ?_
  have hcell : w'.cell? ((⟨b, 0, none⟩ : Addr).add (0 + j)) = cur'[j]? := by
   rw [add_at]; simpa using cell_of_row w' b j cur' e f r2
  rw [hcell, r4 j]
  rw [setCells_get _ _ _ _ hlen] at hd
  by_cases hj : off <= j /\ j < off + xs.length
  ·rw [if_pos hj] at hd
   rw [if_pos (by omega)]
   obtain ⟨v, h1, h2⟩ := hx.get _ hd
   exact ⟨v, by simpa using h1, Rv.mono hext _ _ h2⟩
  ·rw [if_neg hj] at hd
   rw [if_neg (by omega)]
   obtain ⟨v, h1, h2⟩ := hm.get j hd
   refine ⟨v, ?_, Rv.mono hext _ _ h2⟩
   rw [add_at] at h1
   have := cell_of_row w b j c e f hbk
   simp only [Nat.zero_add] at h1
   rw [this] at h1; exact h1
theorem storeA_sound {a x : AV} {va vx : Value} {st' : St} {t : TypeId} {i : TypeInfo} {n : Nat} (hi : P.info? t = some i) (hn : i.size = n)
  (hs : Sat E st w) (ha : Rv E w a va) (hx : Rv E w x vx) (hr : storeA n st a x = some st') :
  ∃ w', (Instr.storeAt t va vx).run P w = .ok () w' /\ Sat E st' w' /\ Ext E w E w' := by
 cases a with
 | ptr id off =>
  obtain ⟨b, hb, rfl⟩ := ha
  simp only [storeA] at hr
  cases ho : st.get id with
  | none => simp [ho] at hr
  | some o =>
   cases o with
   | loop s => simp [ho] at hr
   | row cs =>
    simp only [ho] at hr
    cases hcond : x.cells.length.beq n && (off + n).ble cs.length && x.cells.all AV.one
    ·simp [hcond] at hr
    ·simp only [hcond, cond_true, Option.some.injEq] at hr
     simp only [Bool.and_eq_true] at hcond
     obtain ⟨⟨c1, c2⟩, c3⟩ := hcond
     have c1 := Nat.eq_of_beq_eq_true c1
     have c2 := Nat.le_of_ble_eq_true c2
     have hcl := hx.cells
     obtain ⟨w', r1, r2, r3⟩ := write_row (P := P) (off := off) hs ho hb hcl (by omega) (hcl.one c3)
     refine ⟨w', ?_, hr ▸ r2, r3⟩
     have hsz : vx.cells.size = i.size := by rw [hn, <- c1, hcl.length]; simp
     simp [Instr.storeAt, Instr.sureAddr, storeVar, run_sizeOf' hi, hsz, r1]
   | fro cs => simp [ho] at hr
   | map es => simp [ho] at hr
 | _ => simp [storeA] at hr
end
end Go.AM
namespace Go.AM
section
variable {E : Env} {st : St} {w : World} {P : Program}
theorem boolBin_sound {op : BinOp} {a b : Bool} {r : AV} {s : Sem Value} {sb : Sem Bool} (hr : boolBin op a b = some r) (hb : sb.run P w = .ok (a == b) w)
  (he : op = .eql -> s = do pure (.bool (<- sb))) (hn : op = .neq -> s = do pure (.bool (!(<- sb)))) : ∃ u, s.run P w = .ok u w /\ Rv E w r u := by
 cases op <;> simp [boolBin] at hr
 ·subst hr; exact ⟨.bool (a == b), by rw [he rfl]; simp [hb], rfl⟩
 ·subst hr; exact ⟨.bool (!(a == b)), by rw [hn rfl]; simp [hb], rfl⟩
theorem bitsOf_sound {op : BinOp} {k : IntKind} {x y : Int} {r : AV} (hr : bitsOf op k x y = some r) : ∃ u, (Op.intBits op k x y).run P w = .ok u w /\ Rv E w r u := by
 cases op <;> simp only [bitsOf, Option.some.injEq, reduceCtorEq] at hr <;> subst hr <;> exact ⟨_, rfl, rfl⟩
theorem intBin_sound {op : BinOp} {k : IntKind} {a b : Int} {r : AV} {t : TypeId} (hr : intBin op k a b = some r) : ∃ u, (binOp op t (.int k a) (.int k b)).run P w = .ok u w /\ Rv E w r u := by
 cases op <;> simp only [intBin] at hr <;> try (simp only [Option.some.injEq] at hr; subst hr)
 all_goals first
  | (refine ⟨_, ?_, rfl⟩; simp [binOp, Op.intArith, wr_eq]; done)
  | (refine ⟨_, ?_, rfl⟩; simp [binOp, Op.intCmp]; done)
  | (split at hr; simp at hr; rename_i hz; simp only [Option.some.injEq] at hr; subst hr; refine ⟨_, ?_, rfl⟩; simp [binOp, Op.intDiv, hz, wr_eq])
  | (obtain ⟨u, h1, h2⟩ := bitsOf_sound (E := E) (P := P) (w := w) hr; exact ⟨u, by simpa [binOp] using h1, h2⟩)
  | simp at hr
theorem shiftBin_sound {op : BinOp} {k k' : IntKind} {a b : Int} {r : AV} {t : TypeId} (hs : isShift op = true) (hr : shiftBin op k a b = some r) : ∃ u, (binOp op t (.int k a) (.int k' b)).run P w = .ok u w /\ Rv E w r u := by
 unfold shiftBin at hr
 split at hr
 ·simp at hr
 ·rename_i hb
  cases op <;> simp [isShift] at hs <;> simp only [Option.some.injEq] at hr <;> subst hr
  ·exact ⟨_, by simp [binOp, Op.shift, hb], rfl⟩
  ·exact ⟨_, by simp [binOp, Op.shift, hb], rfl⟩
theorem natsEq_iff : ∀ (x y : List UInt8), natsEq (x.map (·.toNat)) (y.map (·.toNat)) = (x == y)
 | [], [] => rfl
 | [], _ :: _ => rfl
 | _ :: _, [] => rfl
 | a :: x, b :: y => by
  have : (a.toNat).beq b.toNat = (a == b) := by
   by_cases h : a = b
   ·subst h; simp
   ·have h' : a.toNat ≠ b.toNat := fun e => h (UInt8.toNat_inj.1 e)
    have e1 : (a == b) = false := by simpa using h
    rw [e1]
    cases e2 : (a.toNat).beq b.toNat
    ·rfl
    ·exact absurd (Nat.eq_of_beq_eq_true e2) h'
  simp only [List.map_cons, natsEq, natsEq_iff x y, this]
  rfl
theorem natsLess_iff : ∀ (x y : List UInt8), natsLess (x.map (·.toNat)) (y.map (·.toNat)) = Op.bytesLess x y
 | _, [] => by simp [natsLess, Op.bytesLess]
 | [], _ :: _ => rfl
 | a :: x, b :: y => by
  have h1 : (a.toNat).beq b.toNat = (a == b) := by
   by_cases h : a = b
   ·subst h; simp
   ·have h' : a.toNat ≠ b.toNat := fun e => h (UInt8.toNat_inj.1 e)
    have e1 : (a == b) = false := by simpa using h
    rw [e1]
    cases e2 : (a.toNat).beq b.toNat
    ·rfl
    ·exact absurd (Nat.eq_of_beq_eq_true e2) h'
  have h2 : (a.toNat).blt b.toNat = decide (a < b) := by
   by_cases h : a.toNat < b.toNat
   ·have : a < b := h
    simp [this, Nat.blt, Nat.ble_eq, Nat.succ_le_of_lt h]
   ·have hn : ¬ (a < b) := h
    simp only [hn, decide_false]
    cases e : Nat.blt a.toNat b.toNat
    ·rfl
    ·exact absurd (Nat.le_of_ble_eq_true e) (by omega)
  simp only [List.map_cons, natsLess, Op.bytesLess, natsLess_iff x y, h1, h2]
theorem strBin_sound {op : BinOp} {a b : List Nat} {sa sb : ByteArray} {r : AV} {t : TypeId} (ha : sa.data.toList.map (·.toNat) = a) (hb : sb.data.toList.map (·.toNat) = b)
  (hr : strBin op a b = some r) : ∃ u, (binOp op t (.string sa) (.string sb)).run P w = .ok u w /\ Rv E w r u := by
 have eq1 : natsEq a b = (sa.toList == sb.toList) := by rw [<- ha, <- hb, natsEq_iff, ByteArray.toList_eq, ByteArray.toList_eq]
 have eq2 : natsLess a b = Op.bytesLess sa.toList sb.toList := by rw [<- ha, <- hb, natsLess_iff, ByteArray.toList_eq, ByteArray.toList_eq]
 by_cases hop : op = .add
 ·subst hop
  simp only [strBin] at hr
  split at hr
  ·rename_i hlen
   simp only [Option.some.injEq] at hr; subst hr
   have h1 : a.length = sa.size := by rw [<- ha]; simp
   have h2 : b.length = sb.size := by rw [<- hb]; simp
   refine ⟨.string (sa ++ sb), ?_, sa ++ sb, rfl, ?_⟩
   ·have : ¬ (9223372036854775807 < ((sa.size : Int) + (sb.size : Int))) := by omega
    have e : IntKind.i64.max = 9223372036854775807 := by decide
    simp [binOp, Op.stringOp, e, this]
   ·rw [<- ha, <- hb, <- List.map_append, ByteArray.data_append, Array.toList_append]
  ·simp at hr
 ·cases op <;> simp only [strBin, eq1, eq2, Option.some.injEq, reduceCtorEq] at hr <;> try subst hr
  all_goals first
   | (refine ⟨_, ?_, rfl⟩; simp [binOp, Op.stringOp]; done)
   | exact absurd rfl hop
theorem binA_sound {op : BinOp} {x y r : AV} {vx vy : Value} {t : TypeId} {X Y : Operand} (hx : Rv E w x vx) (hy : Rv E w y vy) (hr : binA op x y = some r)
  (hb : (∃ a, x = .bool a) -> P.underlying t = some .bool) : ∃ u, (do eqGuard op t X Y vx vy; binOp op t vx vy : Sem Value).run P w = .ok u w /\ Rv E w r u := by
 cases x <;> cases y <;> simp only [binA, reduceCtorEq] at hr
 case bool.bool a b =>
  have hx : vx = .bool a := hx
  have hy : vy = .bool b := hy
  subst hx; subst hy
  have hg : (eqGuard op t X Y (.bool a) (.bool b)).run P w = .ok () w := by unfold eqGuard; cases op <;> simp
  have hq' : ∀ n, (Op.equalIn (n + 1) t (.bool a) (.bool b)).run P w = .ok (a == b) w := fun n => by
   simp [Op.equalIn, underlying, hb ⟨a, rfl⟩]
  have hq : (Op.equal t (.bool a) (.bool b)).run P w = .ok (a == b) w := hq' 9999
  simp only [Sem.run_bind, hg, Result.andThen]
  exact boolBin_sound hr hq (fun h => by subst h; rfl) (fun h => by subst h; rfl)
 case int.int k a k' b =>
  have hx : vx = .int k a := hx
  have hy : vy = .int k' b := hy
  subst hx; subst hy
  have hg : (eqGuard op t X Y (.int k a) (.int k' b)).run P w = .ok () w := by unfold eqGuard; cases op <;> simp
  simp only [Sem.run_bind, hg, Result.andThen]
  cases hsh : isShift op
  ·simp only [hsh, cond_false] at hr
   split at hr
   ·rename_i hk; subst hk; exact intBin_sound hr
   ·simp at hr
  ·simp only [hsh, cond_true] at hr; exact shiftBin_sound hsh hr
 case str.str a b =>
  obtain ⟨sa, rfl, ha⟩ := hx
  obtain ⟨sb, rfl, hb'⟩ := hy
  have hg : (eqGuard op t X Y (.string sa) (.string sb)).run P w = .ok () w := by unfold eqGuard; cases op <;> simp
  simp only [Sem.run_bind, hg, Result.andThen]
  exact strBin_sound ha hb' hr
inductive NilV : Nat -> Value -> Bool -> Prop
 | p0 : NilV 0 (.pointer none) true
 | p1 (a : Addr) : NilV 0 (.pointer (some a)) false
 | s0 : NilV 1 (.slice none 0 0) true
 | s1 (a : Addr) (n k : Nat) : NilV 1 (.slice (some a) n k) false
 | m0 : NilV 2 (.map none) true
 | m1 (b : Nat) : NilV 2 (.map (some b)) false
 | f0 : NilV 3 .nilFunc true
 | f1 (f : Fn) (x y : Array Value) : NilV 3 (.func f x y) false
 | i0 : NilV 4 .nilIface true
 | i1 (t : TypeId) (y : Value) : NilV 4 (.iface t y) false
theorem isNil_sound {c : Nat} {x : AV} {v : Value} {b : Bool} (hc : c < 5) (hx : Rv E w x v) (hb : isNil c x = some b) : NilV c v b := by
 obtain rfl | rfl | rfl | rfl | rfl : c = 0 \/ c = 1 \/ c = 2 \/ c = 3 \/ c = 4 := by omega
 all_goals (cases x <;> simp [isNil] at hb <;> subst hb)
 all_goals first
  | (have hx : v = _ := hx; subst hx; constructor; done)
  | (obtain ⟨_, _, hx⟩ := hx; subst hx; constructor; done)
  | (obtain ⟨_, hx, _⟩ := hx; subst hx; constructor; done)
  | (obtain ⟨_, _, hx, _⟩ := hx; subst hx; constructor; done)
  | (obtain ⟨_, _, _, _, _, hx, _⟩ := hx; subst hx; constructor; done)
theorem nilClass_lt {d : TypeDesc} {c : Nat} (h : nilClass d = some c) : c < 5 := by
 cases d <;> simp [nilClass] at h <;> omega
theorem eqNilA_sound {op : BinOp} {x y r : AV} {vx vy : Value} {t : TypeId} {d : TypeDesc} {c : Nat} {X Y : Operand} (hd : P.underlying t = some d) (hc : nilClass d = some c)
  (hop : op = .eql \/ op = .neq) (hk : c = 4 -> (∃ v, X = .const v) \/ (∃ v, Y = .const v))
  (hx : Rv E w x vx) (hy : Rv E w y vy) (hr : eqNilA c op x y = some r) : ∃ u, (do eqGuard op t X Y vx vy; binOp op t vx vy : Sem Value).run P w = .ok u w /\ Rv E w r u := by
 unfold eqNilA at hr
 cases ha : isNil c x with
 | none => simp [ha] at hr
 | some a =>
  cases hb : isNil c y with
  | none => simp [ha, hb] at hr
  | some b =>
   simp only [ha, hb, Option.bind_some] at hr
   cases hab : a || b
   ·simp [hab] at hr
   ·simp only [hab, cond_true] at hr
    have h1 := isNil_sound (nilClass_lt hc) hx ha
    have h2 := isNil_sound (nilClass_lt hc) hy hb
    clear ha hb hx hy
    have hg : (eqGuard op t X Y vx vy).run P w = .ok () w := by
     unfold eqGuard
     rcases hop with rfl | rfl <;> cases d <;> simp [nilClass] at hc <;> subst hc <;> cases h1 <;> cases h2 <;>
      (first | (simp; done) | (rcases hk rfl with ⟨v, rfl⟩ | ⟨v, rfl⟩ <;> simp; done))
    have hq' : ∀ n, (Op.equalIn (n + 1) t vx vy).run P w = .ok (a == b) w := fun n => by
     simp only [Op.equalIn, underlying, Sem.run_bind, run_program, Result.andThen, hd]
     cases d <;> simp [nilClass] at hc <;> subst hc <;> cases h1 <;> cases h2 <;> first | (simp; done) | (simp at hab; done)
    have hq : (Op.equal t vx vy).run P w = .ok (a == b) w := hq' 9999
    simp only [Sem.run_bind, hg, Result.andThen]
    have hbin : ∀ (_ : op = .eql), binOp op t vx vy = (do pure (.bool (<- Op.equal t vx vy)) : Sem Value) := fun h => by
     subst h
     cases d <;> simp [nilClass] at hc <;> subst hc <;> cases h1 <;> cases h2 <;> rfl
    have hbin' : ∀ (_ : op = .neq), binOp op t vx vy = (do pure (.bool (!(<- Op.equal t vx vy))) : Sem Value) := fun h => by
     subst h
     cases d <;> simp [nilClass] at hc <;> subst hc <;> cases h1 <;> cases h2 <;> rfl
    exact boolBin_sound hr hq hbin hbin'
theorem unA_sound {op : UnOp} {x r : AV} {v : Value} (hx : Rv E w x v) (hr : unA op x = some r) : ∃ u, (Op.unary op v).run P w = .ok u w /\ Rv E w r u := by
 cases op <;> cases x <;> simp [unA] at hr <;> subst hr <;> (have hx : v = _ := hx) <;> subst hx
 ·exact ⟨_, rfl, by simp [wr_eq, Rv]⟩
 ·exact ⟨_, rfl, rfl⟩
end
end Go.AM
namespace Go.AM
section
variable {E : Env} {st : St} {w : World} {P : Program}
theorem faddrA_sound {off : Nat} {x r : AV} {v : Value} (hx : Rv E w x v) (hr : faddrA off x = some r) : ∃ a, v = .pointer (some a) /\ Rv E w r (.pointer (some (a.add off))) := by
 cases x <;> simp [faddrA] at hr <;> subst hr
 ·obtain ⟨b, hb, rfl⟩ := hx
  exact ⟨_, rfl, b, hb, by rw [add_at]⟩
 ·obtain ⟨a, rfl, hf, hm⟩ := hx
  exact ⟨_, rfl, a, by rw [add_add], hf, hm⟩
theorem fieldAt_sound {s : TypeId} {fs : Array Field} {f : Nat} {fd : Field} {i : TypeInfo} {x r : AV} {v : Value} (hs : P.underlying s = some (.struct fs)) (hf : fs[f]? = some fd)
  (hi : P.info? fd.type = some i) (hz : i.size ≠ 0) (hx : Rv E w x v) (hr : faddrA fd.offset x = some r) : ∃ u, (Instr.fieldAt s v f).run P w = .ok u w /\ Rv E w r u := by
 obtain ⟨a, rfl, h⟩ := faddrA_sound hx hr
 exact ⟨_, by simp [Instr.fieldAt, underlying, hs, hf, Instr.sureAddr, fieldPlace, run_sizeOf' hi, hz], h⟩
theorem iaddrA_sound {t e : TypeId} {i : TypeInfo} {x y r : AV} {v u : Value} (ht : P.underlying t = some (.slice e)) (hi : P.info? e = some i)
  (hx : Rv E w x v) (hy : Rv E w y u) (hr : iaddrA i.size x y = some r) : ∃ q, (Instr.indexAt t v u).run P w = .ok q w /\ Rv E w r q := by
 unfold iaddrA at hr
 cases y <;> try (simp only [reduceCtorEq] at hr; done)
 rename_i k n
 have hy : u = .int k n := hy
 subst hy
 cases n <;> try (simp only [reduceCtorEq] at hr; done)
 rename_i n
 simp only at hr
 cases x <;> simp only [reduceCtorEq] at hr
 ·rename_i m cs ex
  cases hb : (n + 1).ble m
  ·simp [hb] at hr
  ·simp only [hb, cond_true] at hr
   have hb := Nat.le_of_ble_eq_true hb
   cases cs with
   | nil => simp at hr
   | cons c cs =>
    simp only [Option.some.injEq] at hr; subst hr
    obtain ⟨a, cap, rfl, h1, h2, h3, h4⟩ := hx
    refine ⟨.pointer (some (a.add (n * i.size))), ?_, a, rfl, h3 (by simp), h4⟩
    have hlt : n < m := by omega
    simp [Instr.indexAt, asIntOf, underlying, ht, hlt, run_sizeOf' hi]
 ·rename_i id off m s cap lo
  cases hb : (n + 1).ble m && s.beq i.size
  ·simp [hb] at hr
  ·simp only [hb, cond_true, Option.some.injEq] at hr; subst hr
   simp only [Bool.and_eq_true] at hb
   have hb := Nat.le_of_ble_eq_true hb.1
   obtain ⟨b, c, e', m', h0, rfl, h1, h2⟩ := hx
   refine ⟨.pointer (some ((⟨b, off, none⟩ : Addr).add (n * i.size))), ?_, b, h0, by rw [add_at]⟩
   have hlt : n < m := by omega
   simp [Instr.indexAt, asIntOf, underlying, ht, hlt, run_sizeOf' hi]
theorem aaddrA_sound {t e : TypeId} {len : Nat} {i : TypeInfo} {x y r : AV} {v u : Value} (ht : P.underlying t = some (.array len e)) (hi : P.info? e = some i)
  (hx : Rv E w x v) (hy : Rv E w y u) (hr : aaddrA len i.size x y = some r) : ∃ q, (Instr.indexAt t v u).run P w = .ok q w /\ Rv E w r q := by
 unfold aaddrA at hr
 cases y <;> try (simp only [reduceCtorEq] at hr; done)
 rename_i k n
 have hy : u = .int k n := hy
 subst hy
 cases n <;> try (simp only [reduceCtorEq] at hr; done)
 rename_i n
 simp only at hr
 cases hb : (n + 1).ble len
 ·simp [hb] at hr
 ·simp only [hb, cond_true] at hr
  have hb := Nat.le_of_ble_eq_true hb
  obtain ⟨a, rfl, h⟩ := faddrA_sound hx hr
  refine ⟨_, ?_, h⟩
  have hlt : n < len := by omega
  simp [Instr.indexAt, asIntOf, underlying, ht, hlt, run_sizeOf' hi, Instr.sureAddr]
theorem partA_sound {t : TypeId} {d : TypeDesc} {i : TypeInfo} {off : Nat} {cs : List AV} {vs : List Value} {r : AV} (hd : P.underlying t = some d) (hi : P.info? t = some i)
  (hx : RvL E w cs vs) (hr : partA (aggOf d) off i.size cs = some r) : ∃ u, (part t vs.toArray off).run P w = .ok u w /\ Rv E w r u := by
 unfold partA at hr
 cases hag : aggOf d with
 | true =>
  simp only [hag, cond_true] at hr
  cases hb : (off + i.size).ble cs.length
  ·simp [hb] at hr
  ·simp only [hb, cond_true, Option.some.injEq] at hr; subst hr
   refine ⟨.agg (vs.toArray.extract off (off + i.size)), ?_, _, rfl, ?_⟩
   ·simp [part, run_isAgg hd, hag, run_sizeOf' hi]
   ·have := (hx.drop off).take i.size
    simpa [List.extract_eq_take_drop] using this
 | false =>
  simp only [hag, cond_false] at hr
  obtain ⟨u, h1, h2⟩ := hx.get _ hr
  exact ⟨u, by simp [part, run_isAgg hd, hag, h1], h2⟩
theorem fieldA_sound {s : TypeId} {fs : Array Field} {f : Nat} {fd : Field} {d : TypeDesc} {i : TypeInfo} {x r : AV} {v : Value} (hs : P.underlying s = some (.struct fs)) (hf : fs[f]? = some fd)
  (hd : P.underlying fd.type = some d) (hi : P.info? fd.type = some i) (hx : Rv E w x v) (hr : fieldA (aggOf d) fd.offset i.size x = some r) :
  ∃ u, (Instr.field s v f).run P w = .ok u w /\ Rv E w r u := by
 cases x <;> simp only [fieldA, reduceCtorEq] at hr
 obtain ⟨vs, rfl, h⟩ := hx
 obtain ⟨u, h1, h2⟩ := partA_sound (vs := vs.toList) hd hi h hr
 exact ⟨u, by simpa [Instr.field, underlying, hs, hf, asAgg] using h1, h2⟩
theorem aindexA_sound {t e : TypeId} {len : Nat} {d : TypeDesc} {i : TypeInfo} {x y r : AV} {v u : Value} (ht : P.underlying t = some (.array len e))
  (hd : P.underlying e = some d) (hi : P.info? e = some i) (hx : Rv E w x v) (hy : Rv E w y u) (hr : aindexA (aggOf d) len i.size x y = some r) :
  ∃ q, (Instr.index t v u).run P w = .ok q w /\ Rv E w r q := by
 unfold aindexA at hr
 cases y <;> try (simp only [reduceCtorEq] at hr; done)
 rename_i k n
 have hy : u = .int k n := hy
 subst hy
 cases n <;> try (simp only [reduceCtorEq] at hr; done)
 rename_i n
 simp only at hr
 cases hb : (n + 1).ble len
 ·simp [hb] at hr
 ·simp only [hb, cond_true] at hr
  have hb := Nat.le_of_ble_eq_true hb
  cases x <;> simp only [fieldA, reduceCtorEq] at hr
  obtain ⟨vs, rfl, h⟩ := hx
  obtain ⟨q, h1, h2⟩ := partA_sound (vs := vs.toList) hd hi h hr
  have hlt : n < len := by omega
  exact ⟨q, by simpa [Instr.index, asIntOf, underlying, ht, hlt, run_sizeOf' hi] using h1, h2⟩
theorem sindexA_sound {t : TypeId} {x y r : AV} {v u : Value} (ht : P.underlying t = some .string) (hx : Rv E w x v) (hy : Rv E w y u) (hr : sindexA x y = some r) :
  ∃ q, (Instr.index t v u).run P w = .ok q w /\ Rv E w r q := by
 unfold sindexA at hr
 cases y <;> try (simp only [reduceCtorEq] at hr; done)
 rename_i k n
 have hy : u = .int k n := hy
 subst hy
 cases n <;> try (simp only [reduceCtorEq] at hr; done)
 rename_i n
 simp only at hr
 cases x <;> simp only [reduceCtorEq] at hr
 rename_i l
 obtain ⟨s, rfl, hs⟩ := hx
 cases hl : l[n]? with
 | none => simp [hl] at hr
 | some b =>
  simp only [hl, Option.some.injEq] at hr; subst hr
  have hb : (s.data.toList)[n]?.map (·.toNat) = some b := by rw [<- List.getElem?_map, hs, hl]
  cases hb' : (s.data.toList)[n]? with
  | none => simp [hb'] at hb
  | some c =>
   simp only [hb', Option.map_some, Option.some.injEq] at hb
   have hlt : n < s.size := by
    have := (List.getElem?_eq_some_iff.1 hb').1
    simpa using this
   have hg : s[n]? = some c := by
    rw [ByteArray.getElem?_lt' s n hlt]
    have : s.data[n]? = some c := by simpa using hb'
    rw [Array.getElem?_eq_getElem (by simpa using hlt)] at this
    injection this with this
    exact congrArg some this
   exact ⟨.int .u8 c.toNat, by simp [Instr.index, asIntOf, underlying, ht, hg], by rw [<- hb]; rfl⟩
theorem convA_sound {s t : TypeId} {ds : TypeDesc} {k : IntKind} {x r : AV} {v : Value} (hs : P.underlying s = some ds) (ht : P.underlying t = some (.int k)) (hx : Rv E w x v) (hr : convA k x = some r) :
  ∃ u, (convert s t v).run P w = .ok u w /\ Rv E w r u := by
 cases x <;> simp only [convA, reduceCtorEq] at hr
 rename_i k' n
 have hx : v = .int k' n := hx
 subst hx
 simp only [Option.some.injEq] at hr; subst hr
 refine ⟨.int k (k.wrap n), ?_, by simp [Rv, wr_eq]⟩
 simp only [convert, underlying, Sem.run_bind, run_program, Result.andThen, hs, ht]
 simp [Conv.intToInt]
theorem extractA_sound {i : Nat} {x r : AV} {v : Value} (hx : Rv E w x v) (hr : extractA i x = some r) : ∃ u, (Instr.extract v i).run P w = .ok u w /\ Rv E w r u := by
 cases x <;> simp only [extractA, reduceCtorEq] at hr
 obtain ⟨vs, rfl, h⟩ := hx
 obtain ⟨u, h1, h2⟩ := h.get _ hr
 refine ⟨u, ?_, h2⟩
 have : vs[i]? = some u := by simpa using h1
 simp [Instr.extract, this]
theorem RvEs.length : ∀ {es : List (AV × AV)} {l : List MapEntry}, RvEs E w es l -> es.length = l.length
 | [], _, h => by subst h; rfl
 | (_, _) :: es, _, ⟨x, xs, h, _, _, h2⟩ => by subst h; simp [RvEs.length h2]
def lenOk (x : AV) (d : TypeDesc) : Prop :=
 match x with
 | .str _ => d = .string
 | .nilmap => ∃ k e, d = .map k e
 | .map _ => ∃ k e, d = .map k e
 | _ => ∃ e, d = .slice e
theorem lenA_sound {t ty : TypeId} {ts : Array TypeId} {d : TypeDesc} {x r : AV} {v : Value} (ht0 : ts[0]? = some t) (ht : P.underlying t = some d)
  (hcl : lenOk x d)
  (hs : Sat E st w) (hx : Rv E w x v) (hr : lenA st x = some r) : ∃ u, (Builtin.len_ ts ty #[v]).run P w = .ok u w /\ Rv E w r u := by
 unfold lenOk at hcl
 cases x <;> simp only [lenA, reduceCtorEq] at hr <;> try (simp only [Option.some.injEq] at hr; subst hr)
 ·obtain ⟨s, rfl, hl⟩ := hx
  simp only at hcl; subst hcl
  have : s.size = s.data.toList.length := by simp
  exact ⟨goInt s.size, by simp [Builtin.len_, ht0, underlying, ht], by rw [<- hl]; simp [Rv, goInt]⟩
 ·have hx : v = .slice none 0 0 := hx
  obtain ⟨e, rfl⟩ := hcl; subst hx
  exact ⟨goInt 0, by simp [Builtin.len_, ht0, underlying, ht], rfl⟩
 ·obtain ⟨e, rfl⟩ := hcl
  obtain ⟨a, cap, rfl, _⟩ := hx
  exact ⟨goInt _, by simp [Builtin.len_, ht0, underlying, ht], rfl⟩
 ·obtain ⟨e, rfl⟩ := hcl
  obtain ⟨b, c, e', m', h0, rfl, _⟩ := hx
  exact ⟨goInt _, by simp [Builtin.len_, ht0, underlying, ht], rfl⟩
 ·have hx : v = .map none := hx
  obtain ⟨k, e, rfl⟩ := hcl; subst hx
  exact ⟨goInt 0, by simp [Builtin.len_, ht0, underlying, ht], rfl⟩
 ·obtain ⟨k, e, rfl⟩ := hcl
  rename_i id
  obtain ⟨b, hb, rfl⟩ := hx
  cases ho : st.get id with
  | none => simp [ho] at hr
  | some o =>
   cases o with
   | loop s => simp [ho] at hr
   | map es =>
    simp only [ho, Option.some.injEq] at hr; subst hr
    obtain ⟨l, clock, h1, h2⟩ := hs.obj id _ b ho hb
    have hg : (getObj b).run P w = .ok (.map l clock) w := by simp [getObj, Sem.run, h1]
    exact ⟨goInt l.size, by simp [Builtin.len_, ht0, underlying, ht, hg], by rw [RvEs.length h2]; simp [Rv, goInt]⟩
   | row _ => simp [ho] at hr
   | fro _ => simp [ho] at hr
theorem capA_sound {t ty e : TypeId} {ts : Array TypeId} {x r : AV} {v : Value} (ht0 : ts[0]? = some t) (ht : P.underlying t = some (.slice e)) (hx : Rv E w x v) (hr : capA x = some r) :
  ∃ u, (Builtin.cap_ ts ty #[v]).run P w = .ok u w /\ Rv E w r u := by
 unfold capA at hr
 split at hr <;> simp only [Option.some.injEq, reduceCtorEq] at hr <;> subst hr
 ·have hx : v = .slice none 0 0 := hx
  subst hx
  exact ⟨goInt 0, by simp [Builtin.cap_, ht0, underlying, ht], rfl⟩
 ·obtain ⟨a, cap, rfl, _, hc, _⟩ := hx
  exact ⟨goInt cap, by simp [Builtin.cap_, ht0, underlying, ht], by rw [hc rfl]; rfl⟩
 ·obtain ⟨b, c, e', m', h0, rfl, _, hc, _⟩ := hx
  exact ⟨goInt c, by simp [Builtin.cap_, ht0, underlying, ht], by rw [hc _ rfl]; rfl⟩
theorem maxA_sound {x y r : AV} {v u : Value} (hx : Rv E w x v) (hy : Rv E w y u) (hr : maxA x y = some r) : ∃ q, (Builtin.max2 v u).run P w = .ok q w /\ Rv E w r q := by
 unfold maxA at hr
 split at hr <;> simp only [Option.some.injEq, reduceCtorEq] at hr
 subst hr
 rename_i k a k' b
 have hx : v = .int k a := hx
 have hy : u = .int k' b := hy
 subst hx; subst hy
 exact ⟨_, rfl, rfl⟩
theorem minA_sound {x y r : AV} {v u : Value} (hx : Rv E w x v) (hy : Rv E w y u) (hr : minA x y = some r) : ∃ q, (Builtin.min2 v u).run P w = .ok q w /\ Rv E w r q := by
 unfold minA at hr
 split at hr <;> simp only [Option.some.injEq, reduceCtorEq] at hr
 subst hr
 rename_i k a k' b
 have hx : v = .int k a := hx
 have hy : u = .int k' b := hy
 subst hx; subst hy
 exact ⟨_, rfl, rfl⟩
theorem foldA_sound {f : AV -> AV -> Option AV} {g : Value -> Value -> Sem Value} (hf : ∀ x y r v u, Rv E w x v -> Rv E w y u -> f x y = some r -> ∃ q, (g v u).run P w = .ok q w /\ Rv E w r q) :
  ∀ (l : List AV) (x r : AV) (v : Value) (vs : List Value), Rv E w x v -> RvL E w l vs -> foldA f x l = some r -> ∃ q, (vs.foldlM g v).run P w = .ok q w /\ Rv E w r q
 | [], x, r, v, vs, hx, hl, hr => by
  cases hl; simp only [foldA, Option.some.injEq] at hr; subst hr; exact ⟨v, by simp, hx⟩
 | y :: l, x, r, v, _, hx, ⟨u, us, rfl, h1, h2⟩, hr => by
  simp only [foldA] at hr
  cases hz : f x y with
  | none => simp [hz] at hr
  | some z =>
   simp only [hz, Option.bind_some] at hr
   obtain ⟨q, h3, h4⟩ := hf x y z v u hx h1 hz
   obtain ⟨q', h5, h6⟩ := foldA_sound hf l z r q us h4 h2 hr
   exact ⟨q', by simp [h3, h5], h6⟩
end
end Go.AM
