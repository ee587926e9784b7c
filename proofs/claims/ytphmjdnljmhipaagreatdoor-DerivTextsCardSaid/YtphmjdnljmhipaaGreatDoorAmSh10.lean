import Derived.Test.YtphmjdnljmhipaaGreatDoorAmSh9
import Derived.Test.YtphmjdnljmhipaaGreatDoorAmSh4
set_option linter.unusedSimpArgs false
set_option linter.unusedVariables false
set_option maxRecDepth 100000
namespace Go.AM.D16
open Go Go.AM
noncomputable section
open Nat (reduceEqDiff reduceAdd)
def Ir (lo : Nat) (s : St) (sl : AV) (l : List Int) : Prop := (sl = .lst 0 [] true /\ l = []) \/ ∃ id, sl = .own id 0 l.length 1 none l.length /\ lo <= id /\ id < s.next /\ s.get id = some (.row (l.map (AV.int .i64)))
theorem Ir.len {lo : Nat} {s : St} {sl : AV} {l : List Int} (h : Ir lo s sl l) (s' : St) : (bif lenFits 0 sl then lenA s' sl else none) = some (.int .i64 (.ofNat l.length)) := by
 rcases h with ⟨rfl, rfl⟩ | ⟨id, rfl, _⟩ <;> rfl
theorem Ir.at {lo : Nat} {s : St} {sl : AV} {l : List Int} (h : Ir lo s sl l) {k : Nat} {x : Int} (hx : l[k]? = some x) : ∃ p, iaddrA 1 sl (.int .i64 (.ofNat k)) = some p /\ loadA false 1 s p = some (.int .i64 x) := by
 have hk := (List.getElem?_eq_some_iff.1 hx).1
 rcases h with ⟨_, rfl⟩ | ⟨id, rfl, _, _, hg⟩
 ·simp at hk
 ·refine ⟨.ptr id (0 + k * 1), ?_, ?_⟩
  ·simp only [iaddrA]
   rw [Nat.ble_eq_true_of_le (show k + 1 <= l.length from hk)]; rfl
  ·simp only [loadA, cellsAt, hg, Option.bind_some, Nat.zero_add, Nat.mul_one]
   have : ((l.map (AV.int .i64)).drop k).take 1 = [.int .i64 x] := by
    rw [List.drop_eq_getElem_cons (by simpa using hk)]
    simp only [List.take_succ_cons, List.take_zero, List.getElem_map]
    have := (List.getElem?_eq_some_iff.1 hx).2
    rw [this]
   rw [this]; rfl
theorem Ir.app {lo : Nat} {s : St} {sl : AV} {l : List Int} (h : Ir lo s sl l) (x : Int) (hlo : lo <= s.next) (hb : l.length <= 100000) :
  ∃ sl' s', appendA 8 1 s sl 1 [.int .i64 x] = some (sl', s') /\ s.next <= s'.next /\ (∀ i, i < lo -> s'.get i = s.get i) /\ Ir lo s' sl' (l ++ [x]) := by
 rcases h with ⟨rfl, rfl⟩ | ⟨id, rfl, hid, hid2, hg⟩
 ·exact ⟨.own s.next 0 (0 + 1) 1 none (0 + 1), s.new (.row [.int .i64 x]), rfl, by simp, fun i hi => by rw [St.get_new, if_neg (by omega)], .inr ⟨s.next, rfl, hlo, by simp, by rw [St.get_new, if_pos rfl]; rfl⟩⟩
 ·refine ⟨.own s.next 0 (l.length + 1) 1 none (l.length + 1), (s.del id).new (.row (l.map (AV.int .i64) ++ [.int .i64 x])), ?_, by simp [St.del, St.new], fun i hi => ?_, .inr ⟨s.next, by simp, hlo, by simp [St.del, St.new], ?_⟩⟩
  ·have h0 : Nat.beq 1 0 = false := rfl
   have h1 : ((l.length + 1) * 8).ble 140737488355328 = true := Nat.ble_eq_true_of_le (by omega)
   have h2 : (l.length + 1).ble 140737488355328 = true := Nat.ble_eq_true_of_le (by omega)
   have h3 : (0 + l.length * 1).ble (l.map (AV.int .i64)).length = true := Nat.ble_eq_true_of_le (by simp)
   have h4 : fitsA (l.length + 1) l.length none = none := by
    have : (l.length + 1).ble l.length = false := by
     cases hc : (l.length + 1).ble l.length with
     | false => rfl
     | true => have := Nat.le_of_ble_eq_true hc; omega
    simp only [fitsA, this]; rfl
   have h5 : (l.length * 1).beq (l.map (AV.int .i64)).length = true := by rw [List.length_map, Nat.mul_one]; exact Nat.beq_refl _
   have h6 : [AV.int .i64 x].all AV.one = true := rfl
   unfold appendA
   simp only [h0, cond_false, hg, h1, h2, h3, h4, h5, h6]; rfl
  ·rw [St.get_new, if_neg (by simp only [St.next_del]; omega), St.get_del, if_neg (by omega)]
  ·have : (s.del id).next = s.next := rfl
   rw [<- this, St.get_new, if_pos rfl]; simp
def g215_0 : List MOper := [⟨(some 12), .mv (.t 0), none⟩, ⟨(some 13), .mv (.t 5), none⟩, ⟨(some 14), .iaddr 1 (.t 12) (.t 13), none⟩, ⟨(some 15), .load false 1 (.t 14), none⟩, ⟨(some 16), .mv (.t 1), none⟩, ⟨(some 17), .bin false .eql (.t 15) (.t 16), none⟩]
def bf215_0 : MCode := (.seq (.region g215_0)
 (.cond (.t 17)
 (.seq (.region [⟨(some 4), .mv (.c (.bool true)), none⟩])
 .ret)
 .skip))
def cf215_0 : List MOper := [⟨(some 6), .mv (.t 5), none⟩, ⟨(some 7), .mv (.t 0), none⟩, ⟨(some 8), .len 0 (.t 7), none⟩, ⟨(some 9), .bin false .lss (.t 6) (.t 8), none⟩]
def kf215 : MFunc := ⟨18, (.seq (.region [⟨(some 4), .mv (.c (.bool false)), none⟩])
 (.seq (.seq (.region [⟨(some 5), .mv (.c (.int .i64 (.ofNat 0))), none⟩])
 (.block 0 (.loop (lb2 9 5 10 11 0 1 cf215_0 bf215_0))))
 (.seq (.region [⟨(some 4), .mv (.c (.bool false)), none⟩])
 .ret))), [.t 4]⟩
theorem t215 : tbl 215 = some kf215 := by kernel_rfl
def g168_0 : List MOper := [⟨(some 26), .faddr 2 (.t 2), none⟩, ⟨(some 27), .load false 1 (.t 26), none⟩, ⟨(some 28), .mv (.t 5), none⟩, ⟨(some 29), .iaddr 3 (.t 27) (.t 28), none⟩, ⟨(some 30), .load true 3 (.t 29), none⟩, ⟨(some 31), .mv (.t 1), none⟩, ⟨(some 32), .call (.c (.func (.func 168) [] [])) [(.t 30), (.t 31)], none⟩, ⟨(some 1), .mv (.t 32), none⟩]
def g168_2 : List MOper := [⟨(some 6), .faddr 0 (.t 2), none⟩, ⟨(some 7), .load false 1 (.t 6), none⟩, ⟨(some 8), .bin false .eql (.t 7) (.c (.int .i64 (.ofNat 1))), none⟩]
def g168_3 : List MOper := [⟨(some 9), .mv (.t 1), none⟩, ⟨(some 10), .faddr 1 (.t 2), none⟩, ⟨(some 11), .load false 1 (.t 10), none⟩, ⟨(some 12), .call (.c (.func (.func 215) [] [])) [(.t 9), (.t 11)], none⟩]
def g168_5 : List MOper := [⟨(some 14), .mv (.t 1), none⟩, ⟨(some 15), .faddr 1 (.t 2), none⟩, ⟨(some 16), .load false 1 (.t 15), none⟩, ⟨(some 17), .bslice 1 [(.int .i64 (.ofNat 0))] [(0, 1, (.t 16))], none⟩, ⟨(some 18), .append 8 1 none (.t 14) (.t 17), none⟩, ⟨(some 4), .mv (.t 18), none⟩]
def bf168_0 : MCode := (.region g168_0)
def cf168_0 : List MOper := [⟨(some 19), .mv (.t 5), none⟩, ⟨(some 20), .faddr 2 (.t 2), none⟩, ⟨(some 21), .load false 1 (.t 20), none⟩, ⟨(some 22), .len 0 (.t 21), none⟩, ⟨(some 23), .bin false .lss (.t 19) (.t 22), none⟩]
def kf168 : MFunc := ⟨34, (.seq (.region [⟨(some 2), .box true (.t 0), none⟩, ⟨(some 4), .mv (.c .nilsl), none⟩])
 (.seq (.seq (.region g168_2)
 (.cond (.t 8)
 (.seq (.seq (.region g168_3)
 (.cond (.t 12)
 (.seq (.region [⟨(some 13), .mv (.t 1), none⟩, ⟨(some 4), .mv (.t 13), none⟩])
 .ret)
 .skip))
 (.seq (.region g168_5)
 .ret))
 .skip))
 (.seq (.seq (.region [⟨(some 5), .mv (.c (.int .i64 (.ofNat 0))), none⟩])
 (.block 0 (.loop (lb2 23 5 24 25 0 1 cf168_0 bf168_0))))
 (.seq (.region [⟨(some 33), .mv (.t 1), none⟩, ⟨(some 4), .mv (.t 33), none⟩])
 .ret)))), [.t 4]⟩
theorem t168 : tbl 168 = some kf168 := by kernel_rfl
def g167_0 : List MOper := [⟨(some 10), .mv (.t 0), none⟩, ⟨(some 11), .mv (.t 3), none⟩, ⟨(some 12), .iaddr 3 (.t 10) (.t 11), none⟩, ⟨(some 13), .load true 3 (.t 12), none⟩, ⟨(some 14), .call (.c (.func (.func 140) [] [])) [(.t 13)], none⟩, ⟨(some 15), .un .not (.t 14), none⟩]
def bf167_0 : MCode := (.seq (.region g167_0)
 (.cond (.t 15)
 (.seq (.region [⟨(some 2), .mv (.c (.bool false)), none⟩])
 .ret)
 .skip))
def cf167_0 : List MOper := [⟨(some 4), .mv (.t 3), none⟩, ⟨(some 5), .mv (.t 0), none⟩, ⟨(some 6), .len 0 (.t 5), none⟩, ⟨(some 7), .bin false .lss (.t 4) (.t 6), none⟩]
def kf167 : MFunc := ⟨16, (.seq (.region [⟨(some 2), .mv (.c (.bool false)), none⟩])
 (.seq (.seq (.region [⟨(some 3), .mv (.c (.int .i64 (.ofNat 0))), none⟩])
 (.block 0 (.loop (lb2 7 3 8 9 0 1 cf167_0 bf167_0))))
 (.seq (.region [⟨(some 2), .mv (.c (.bool true)), none⟩])
 .ret))), [.t 2]⟩
theorem t167 : tbl 167 = some kf167 := by kernel_rfl
def g141_0 : List MOper := [⟨(some 16), .mv (.t 0), none⟩, ⟨(some 17), .mv (.t 4), none⟩, ⟨(some 18), .iaddr 3 (.t 16) (.t 17), none⟩, ⟨(some 19), .load true 3 (.t 18), none⟩, ⟨(some 20), .mv (.t 3), none⟩, ⟨(some 21), .call (.c (.func (.func 168) [] [])) [(.t 19), (.t 20)], none⟩, ⟨(some 3), .mv (.t 21), none⟩]
def g141_3 : List MOper := [⟨(some 6), .mv (.t 0), none⟩, ⟨(some 7), .call (.c (.func (.func 167) [] [])) [(.t 6)], none⟩, ⟨(some 8), .un .not (.t 7), none⟩]
def bf141_0 : MCode := (.region g141_0)
def cf141_0 : List MOper := [⟨(some 10), .mv (.t 4), none⟩, ⟨(some 11), .mv (.t 0), none⟩, ⟨(some 12), .len 0 (.t 11), none⟩, ⟨(some 13), .bin false .lss (.t 10) (.t 12), none⟩]
def kf141 : MFunc := ⟨23, (.seq (.region [⟨(some 2), .mv (.c .nilsl), none⟩])
 (.seq (.region [⟨(some 5), .bslice 0 [] [], none⟩, ⟨(some 3), .mv (.t 5), none⟩])
 (.seq (.seq (.region g141_3)
 (.cond (.t 8)
 (.seq (.region [⟨(some 9), .mv (.t 3), none⟩, ⟨(some 2), .mv (.t 9), none⟩])
 .ret)
 .skip))
 (.seq (.seq (.region [⟨(some 4), .mv (.c (.int .i64 (.ofNat 0))), none⟩])
 (.block 0 (.loop (lb2 13 4 14 15 0 1 cf141_0 bf141_0))))
 (.seq (.region [⟨(some 22), .mv (.t 3), none⟩, ⟨(some 2), .mv (.t 22), none⟩])
 .ret))))), [.t 2]⟩
theorem t141 : tbl 141 = some kf141 := by kernel_rfl
def g116_1 : List MOper := [⟨(some 3), .load true 3 (.t 1), none⟩, ⟨(some 4), .call (.c (.func (.func 140) [] [])) [(.t 3)], none⟩, ⟨(some 5), .mv (.t 4), none⟩, ⟨(some 6), .load true 3 (.t 1), (some (5, true))⟩, ⟨(some 7), .bslice 1 [(.int .i64 (.ofNat 0)), (.int .i64 (.ofNat 0)), .nilsl] [(0, 3, (.t 6))], (some (5, true))⟩, ⟨(some 8), .call (.c (.func (.func 141) [] [])) [(.t 7)], (some (5, true))⟩, ⟨(some 9), .len 0 (.t 8), (some (5, true))⟩, ⟨(some 10), .bin false .eql (.t 9) (.c (.int .i64 (.ofNat 0))), (some (5, true))⟩, ⟨(some 11), .pick (.t 5) (.t 10) (.c (.bool false)), none⟩, ⟨(some 2), .mv (.t 11), none⟩]
def kf116 : MFunc := ⟨12, (.seq (.region [⟨(some 1), .box true (.t 0), none⟩, ⟨(some 2), .mv (.c (.bool false)), none⟩])
 (.seq (.region g116_1)
 .ret)), [.t 2]⟩
theorem t116 : tbl 116 = some kf116 := by kernel_rfl
theorem in_run {lo : Nat} {st : St} {sl : AV} {l : List Int} (h : Ir lo st sl l) (x : Int) (n : Nat) (Y : Yenv) (hn : l.length + 1 < n) (hb : l.length <= 100000) : R n Y 215 [sl, .int .i64 x] st = .ret (.bool (decide (x ∈ l))) st := by
 obtain ⟨m, rfl⟩ : ∃ m, n = m + 1 := ⟨n - 1, by omega⟩
 have b00 : Nat.beq 0 0 = true := rfl
 have hlen := h.len st
 obtain ⟨fA1, hA1⟩ : ∃ fA, fA = frOf 0 [sl, .int .i64 x] Fr.nil := ⟨_, rfl⟩
 have gA1_0 : fA1.get 0 = some (sl) := by rw [hA1]; simp only [frOf, Fr.get_set, reduceAdd, reduceEqDiff, ↓reduceIte]
 have gA1_1 : fA1.get 1 = some (.int .i64 x) := by rw [hA1]; simp only [frOf, Fr.get_set, reduceAdd, reduceEqDiff, ↓reduceIte]
 have dA1 : fA1.ds = [] := by rw [hA1]; rfl
 obtain ⟨fR2, hR2, kR2, oR2_4⟩ : ∃ fr', arun ((gT m).cg Y) [⟨(some 4), .mv (.c (.bool false)), none⟩] fA1 st = .ok fr' st /\ Kp [0, 1] fA1 fr' /\ fr'.get 4 = some (.bool false) := ⟨_, by simp only [amE, reduceEqDiff, ↓reduceIte, reduceCtorEq, reduceAdd] <;> rfl, Kp.refl.s, gh⟩
 have gR2_0 := kR2.g 0 gA1_0
 have gR2_1 := kR2.g 1 gA1_1
 have dR2 := kR2.1.trans dA1
 obtain ⟨fR3, hR3, kR3, oR3_5⟩ : ∃ fr', arun ((gT m).cg Y) [⟨(some 5), .mv (.c (.int .i64 (.ofNat 0))), none⟩] fR2 st = .ok fr' st /\ Kp [0, 1] fR2 fr' /\ fr'.get 5 = some (.int .i64 (.ofNat 0)) := ⟨_, by simp only [amE, reduceEqDiff, ↓reduceIte, reduceCtorEq, reduceAdd] <;> rfl, Kp.refl.s, gh⟩
 have gR3_0 := kR3.g 0 gR2_0
 have gR3_1 := kR3.g 1 gR2_1
 have dR3 := kR3.1.trans dR2
 have hC : ∀ k fr s, k <= l.length -> Kp [0, 1] fR3 fr -> fr.get 5 = some (.int .i64 (.ofNat k)) -> (s = st /\ x ∉ l.take k) ->
   ∃ fr', arun ((gT m).cg Y) cf215_0 fr s = .ok fr' s /\ Kp [5, 0, 1] fr fr' /\ fr'.get 9 = some (.bool (decide (k < l.length))) /\ (s = st /\ x ∉ l.take k) := by
  intro k fr s hk hkp gi ⟨hst, hq⟩
  subst hst
  have q0 := hkp.at (k := 0) (by decide) gR3_0
  refine ⟨?c0, ?c1, ?c2, ?c3, rfl, hq⟩
  case c1 =>
   simp only [amE, reduceEqDiff, ↓reduceIte, reduceCtorEq, reduceAdd, cf215_0, q0, gi, hlen, lssD]
   rfl
  case c2 => repeat (first | exact Kp.refl | refine Kp.set (by decide) ?_)
  case c3 => simp only [Fr.get_set, reduceEqDiff, ↓reduceIte]
 have hB : ∀ k fr s, k < l.length -> Kp [0, 1] fR3 fr -> fr.get 5 = some (.int .i64 (.ofNat k)) -> (s = st /\ x ∉ l.take k) ->
   (∃ FR s', acode (gT m) Y m bf215_0 none fr s = .norm FR s' /\ Kp [5, 0, 1] fr FR /\ (s' = st /\ x ∉ l.take (k + 1))) ∨
   (∃ FR s', acode (gT m) Y m bf215_0 none fr s = .ret FR s' /\ (s' = st /\ FR.ds = [] /\ FR.get 4 = some (.bool true) /\ x ∈ l)) := by
  intro k fr s hk hkp gi ⟨hst, hq⟩
  subst hst
  obtain ⟨y, hy, -⟩ := drop_at hk
  obtain ⟨p, ia, ld⟩ := h.at hy
  have q0 := hkp.at (k := 0) (by decide) gR3_0
  have q1 := hkp.at (k := 1) (by decide) gR3_1
  have eq : binB false .eql (.int .i64 y) (.int .i64 x) = some (.bool (y == x)) := rfl
  have htk : l.take (k + 1) = l.take k ++ [y] := by rw [List.take_add_one, hy]; rfl
  generalize hE : (y == x) = E at *
  obtain ⟨fR4, hR4, kR4, oR4_17⟩ : ∃ fr', arun ((gT m).cg Y) g215_0 fr s = .ok fr' s /\ Kp [0, 1, 5] fr fr' /\ fr'.get 17 = some (.bool E) := ⟨_, by simp only [amE, reduceEqDiff, ↓reduceIte, reduceCtorEq, reduceAdd, q0, q1, gi, g215_0, ia, ld, eq] <;> rfl, Kp.refl.s.s.s.s.s.s, gh⟩
  cases E with
  | false =>
   refine .inl ⟨fR4, s, ?q4, kR4.sub (by decide), rfl, ?r4⟩
   case q4 => simp only [amE, reduceEqDiff, ↓reduceIte, reduceCtorEq, reduceAdd, bf215_0, hR4, oR4_17]
   case r4 =>
    have : y ≠ x := by simpa using hE
    rw [htk]; simp only [List.mem_append, List.mem_singleton, not_or]; exact ⟨hq, fun e => this e.symm⟩
  | true =>
   obtain ⟨fR5, hR5, kR5, oR5_4⟩ : ∃ fr', arun ((gT m).cg Y) [⟨(some 4), .mv (.c (.bool true)), none⟩] fR4 s = .ok fr' s /\ Kp [] fR4 fr' /\ fr'.get 4 = some (.bool true) := ⟨_, by simp only [amE, reduceEqDiff, ↓reduceIte, reduceCtorEq, reduceAdd] <;> rfl, Kp.refl.s, gh⟩
   refine .inr ⟨fR5, s, ?q5, rfl, kR5.1.trans (kR4.1.trans (hkp.1.trans dR3)), oR5_4, ?z5⟩
   case q5 => simp only [amE, reduceEqDiff, ↓reduceIte, reduceCtorEq, reduceAdd, bf215_0, hR4, hR5, oR4_17]
   case z5 =>
    have : y = x := by simpa using hE
    rw [<- this]; exact List.mem_of_getElem? hy
 rcases floop (Γ := (gT m)) (Y := Y) (m := m) (N := l.length) (c := 9) (i := 5) (j1 := 10) (j2 := 11) (b := 0) (b1 := 1) (ro := none) (C := cf215_0) (B := bf215_0) (L := [0, 1]) (fr0 := fR3) (by decide) (by decide) (by decide) (by omega)
  (Q := fun k _ s => s = st /\ x ∉ l.take k) (fun _ _ _ _ _ _ h => h) hC hB l.length 0 fR3 st m (by omega) (by omega) Kp.refl oR3_5 ⟨rfl, by simp⟩
  with ⟨FR, s', h1, h2, h3, h4⟩ | ⟨FR, s', h1, h2, h3, h4, h5⟩
 ·subst h3
  rw [List.take_length] at h4
  rw [decide_eq_false h4]
  refine fun_of (mf := kf215) (fr := FR.set 4 (some (.bool false))) t215 rfl (.inl ?w1) (h2.1.trans dR3) ?w2
  case w1 =>
   rw [<- hA1]
   simp only [amE, reduceEqDiff, ↓reduceIte, reduceCtorEq, reduceAdd, kf215, b00, hR2, hR3, h1]
  case w2 => simp only [kf215, amE, Fr.get_set, ↓reduceIte]
 ·subst h2
  rw [decide_eq_true h5]
  refine fun_of (mf := kf215) (fr := FR) t215 rfl (.inl ?w3) h3 (by simp only [kf215, amE, h4])
  case w3 =>
   rw [<- hA1]
   simp only [amE, reduceEqDiff, ↓reduceIte, reduceCtorEq, reduceAdd, kf215, b00, hR2, hR3, h1]
mutual
theorem vT_len : ∀ (t : Tm) (o : List Int), (vT t o).length <= o.length + t.size
 | .mk k n _ _ l, o => by
  unfold vT Tm.size
  split
  ·split
   ·omega
   ·simp
  ·have := vL_len l o; omega
theorem vL_len : ∀ (l : List Tm) (o : List Int), (vL l o).length <= o.length + Tm.sizeL l
 | [], o => by rw [vL_nil]; omega
 | t :: l, o => by
  rw [vL_cons]
  have h1 := vT_len t o
  have h2 := vL_len l (vT t o)
  unfold Tm.sizeL; omega
end
theorem vL_take : ∀ (l : List Tm) (k : Nat) (t : Tm) (o : List Int), l[k]? = some t -> vL (l.take (k + 1)) o = vT t (vL (l.take k) o)
 | [], k, t, o, h => by simp at h
 | x :: l, 0, t, o, h => by
  simp only [List.getElem?_cons_zero, Option.some.injEq] at h; subst h
  simp only [List.take_succ_cons, List.take_zero, vL_cons, vL_nil]
 | x :: l, k + 1, t, o, h => by
  simp only [List.getElem?_cons_succ] at h
  simp only [List.take_succ_cons, vL_cons]
  exact vL_take l k t _ h
theorem sizeL_take : ∀ (l : List Tm) (k : Nat) (t : Tm), l[k]? = some t -> Tm.sizeL (l.take k) + t.size <= Tm.sizeL l
 | [], k, t, h => by simp at h
 | x :: l, 0, t, h => by
  simp only [List.getElem?_cons_zero, Option.some.injEq] at h; subst h
  simp only [List.take_zero, Tm.sizeL]; omega
 | x :: l, k + 1, t, h => by
  simp only [List.getElem?_cons_succ] at h
  have := sizeL_take l k t h
  simp only [List.take_succ_cons, Tm.sizeL]; omega
def VarsR (n : Nat) (Y : Yenv) (t : Tm) : Prop := ∀ (F : Nat -> Prop) (lo : Nat) (st : St) (cs : List AV) (sl : AV) (o : List Int), RepT F st t cs -> (∀ i, F i -> i < lo) -> lo <= st.next -> Ir lo st sl o -> o.length + t.size <= 50000 -> o.length + t.size + 2 < n -> t.fz <= n ->
 ∃ sl' st', R n Y 168 [.agg cs, sl] st = .ret sl' st' /\ st.next <= st'.next /\ (∀ i, i < lo -> st'.get i = st.get i) /\ Ir lo st' sl' (vT t o)
theorem vars_run (t : Tm) : ∀ (n : Nat) (Y : Yenv), VarsR n Y t := by
 induction hs : t.fz using Nat.strongRecOn generalizing t with
 | _ s ih =>
 intro n Y F lo st cs sl o hr hF hlo hir hb hn hfn
 cases t with
 | mk k0 n0 nl ex l =>
 simp only [RepT] at hr
 obtain ⟨sk, xs, rfl, hsl, hrs⟩ := hr
 simp only [Tm.fz] at hs
 simp only [Tm.size] at hb hn
 simp only [Tm.fz] at hfn
 obtain ⟨m, rfl⟩ : ∃ m, n = m + 1 := ⟨n - 1, by omega⟩
 have b00 : Nat.beq 0 0 = true := rfl
 have hxl := hrs.len
 have e1 : binB false .eql (.int .i64 k0) (.int .i64 (.ofNat 1)) = some (.bool (k0 == 1)) := rfl
 have cin : ((gT m).cg Y).fn 215 [sl, .int .i64 n0] st = .ret (.bool (decide (n0 ∈ o))) st := in_run hir n0 m Y (by omega) (by omega)
 have hv : vT (.mk k0 n0 nl ex l) o = if k0 = 1 then (if n0 ∈ o then o else o ++ [n0]) else vL l o := by conv => lhs; unfold vT
 rw [hv]
 generalize hB : (k0 == 1) = B at *
 obtain ⟨fA6, hA6⟩ : ∃ fA, fA = frOf 0 [.agg [.int .i64 k0, .int .i64 n0, sk], sl] Fr.nil := ⟨_, rfl⟩
 have gA6_0 : fA6.get 0 = some (.agg [.int .i64 k0, .int .i64 n0, sk]) := by rw [hA6]; simp only [frOf, Fr.get_set, reduceAdd, reduceEqDiff, ↓reduceIte]
 have gA6_1 : fA6.get 1 = some (sl) := by rw [hA6]; simp only [frOf, Fr.get_set, reduceAdd, reduceEqDiff, ↓reduceIte]
 have dA6 : fA6.ds = [] := by rw [hA6]; rfl
 obtain ⟨fR7, hR7, kR7, oR7_2, oR7_4⟩ : ∃ fr', arun ((gT m).cg Y) [⟨(some 2), .box true (.t 0), none⟩, ⟨(some 4), .mv (.c .nilsl), none⟩] fA6 st = .ok fr' st /\ Kp [1] fA6 fr' /\ fr'.get 2 = some (.fptr [.int .i64 k0, .int .i64 n0, sk] 0) /\ fr'.get 4 = some (.nilsl) := ⟨_, by simp only [amE, reduceEqDiff, ↓reduceIte, reduceCtorEq, reduceAdd, gA6_0] <;> rfl, Kp.refl.s.s, gn gh, gh⟩
 have gR7_1 := kR7.g 1 gA6_1
 have dR7 := kR7.1.trans dA6
 obtain ⟨fR8, hR8, kR8, oR8_8⟩ : ∃ fr', arun ((gT m).cg Y) g168_2 fR7 st = .ok fr' st /\ Kp [1, 2] fR7 fr' /\ fr'.get 8 = some (.bool B) := ⟨_, by simp only [amE, reduceEqDiff, ↓reduceIte, reduceCtorEq, reduceAdd, oR7_2, g168_2, faf, ld0f, e1] <;> rfl, Kp.refl.s.s.s, gh⟩
 have gR8_1 := kR8.g 1 gR7_1
 have gR8_2 := kR8.g 2 oR7_2
 have dR8 := kR8.1.trans dR7
 cases B with
 | true =>
  rw [if_pos (by simpa using hB)]
  generalize hI : decide (n0 ∈ o) = I at *
  obtain ⟨fR9, hR9, kR9, oR9_12⟩ : ∃ fr', arun ((gT m).cg Y) g168_3 fR8 st = .ok fr' st /\ Kp [1, 2] fR8 fr' /\ fr'.get 12 = some (.bool I) := ⟨_, by simp only [amE, reduceEqDiff, ↓reduceIte, reduceCtorEq, reduceAdd, gR8_1, gR8_2, g168_3, faf, ld1f, cin] <;> rfl, Kp.refl.s.s.s.s, gh⟩
  have gR9_1 := kR9.g 1 gR8_1
  have gR9_2 := kR9.g 2 gR8_2
  have dR9 := kR9.1.trans dR8
  cases I with
  | true =>
   obtain ⟨fR10, hR10, kR10, oR10_4⟩ : ∃ fr', arun ((gT m).cg Y) [⟨(some 13), .mv (.t 1), none⟩, ⟨(some 4), .mv (.t 13), none⟩] fR9 st = .ok fr' st /\ Kp [] fR9 fr' /\ fr'.get 4 = some (sl) := ⟨_, by simp only [amE, reduceEqDiff, ↓reduceIte, reduceCtorEq, reduceAdd, gR9_1] <;> rfl, Kp.refl.s.s, gh⟩
   have dR10 := kR10.1.trans dR9
   refine ⟨sl, st, fun_of (mf := kf168) (fr := fR10) t168 rfl (.inl ?q10) dR10 (by simp only [kf168, amE, oR10_4]), Nat.le_refl _, fun _ _ => rfl, by rw [if_pos (of_decide_eq_true hI)]; exact hir⟩
   case q10 =>
    rw [<- hA6]
    simp only [amE, reduceEqDiff, ↓reduceIte, reduceCtorEq, reduceAdd, kf168, b00, hR7, hR8, hR9, hR10, oR8_8, oR9_12]
  | false =>
   obtain ⟨sl', st', happ, hnx, hsm, hir'⟩ := hir.app n0 hlo (by omega)
   have fl : fillA [.int .i64 (.ofNat 0)] [(0, 1, .int .i64 n0)] = some [.int .i64 n0] := rfl
   have ct : contentA 1 st (.lst 1 [.int .i64 n0] true) = some (1, [.int .i64 n0]) := rfl
   obtain ⟨fR11, hR11, kR11, oR11_4⟩ : ∃ fr', arun ((gT m).cg Y) g168_5 fR9 st = .ok fr' st' /\ Kp [] fR9 fr' /\ fr'.get 4 = some (sl') := ⟨_, by simp only [amE, reduceEqDiff, ↓reduceIte, reduceCtorEq, reduceAdd, gR9_1, gR9_2, g168_5, faf, ld1f, fl, ct, happ, tag0] <;> rfl, Kp.refl.s.s.s.s.s.s, gh⟩
   have dR11 := kR11.1.trans dR9
   refine ⟨sl', st', fun_of (mf := kf168) (fr := fR11) t168 rfl (.inl ?q11) dR11 (by simp only [kf168, amE, oR11_4]), hnx, hsm, by rw [if_neg (of_decide_eq_false hI)]; exact hir'⟩
   case q11 =>
    rw [<- hA6]
    simp only [amE, reduceEqDiff, ↓reduceIte, reduceCtorEq, reduceAdd, kf168, b00, hR7, hR8, hR9, hR11, oR8_8, oR9_12]
 | false =>
  rw [if_neg (by simpa using hB)]
  obtain ⟨fR12, hR12, kR12, oR12_5⟩ : ∃ fr', arun ((gT m).cg Y) [⟨(some 5), .mv (.c (.int .i64 (.ofNat 0))), none⟩] fR8 st = .ok fr' st /\ Kp [1, 2] fR8 fr' /\ fr'.get 5 = some (.int .i64 (.ofNat 0)) := ⟨_, by simp only [amE, reduceEqDiff, ↓reduceIte, reduceCtorEq, reduceAdd] <;> rfl, Kp.refl.s, gh⟩
  have gR12_1 := kR12.g 1 gR8_1
  have gR12_2 := kR12.g 2 gR8_2
  have dR12 := kR12.1.trans dR8
  have hC : ∀ k fr s, k <= xs.length -> Kp [2] fR12 fr -> fr.get 5 = some (.int .i64 (.ofNat k)) -> (st.next <= s.next /\ (∀ i, i < lo -> s.get i = st.get i) /\ ∃ sk, fr.get 1 = some sk /\ Ir lo s sk (vL (l.take k) o)) ->
    ∃ fr', arun ((gT m).cg Y) cf168_0 fr s = .ok fr' s /\ Kp [5, 2] fr fr' /\ fr'.get 23 = some (.bool (decide (k < xs.length))) /\ (st.next <= s.next /\ (∀ i, i < lo -> s.get i = st.get i) /\ ∃ sk, fr'.get 1 = some sk /\ Ir lo s sk (vL (l.take k) o)) := by
   intro k fr s hk hkp gi ⟨hnx, hsm, sq, q1, hq⟩
   have q2 := hkp.at (k := 2) (by decide) gR12_2
   have hlen := hsl.len s
   refine ⟨?c0, ?c1, ?c2, ?c3, hnx, hsm, sq, ?c4, hq⟩
   case c1 =>
    simp only [amE, reduceEqDiff, ↓reduceIte, reduceCtorEq, reduceAdd, cf168_0, q2, gi, faf, ld2f, hlen, lssD]
    rfl
   case c2 => repeat (first | exact Kp.refl | refine Kp.set (by decide) ?_)
   case c3 => simp only [Fr.get_set, reduceEqDiff, ↓reduceIte]
   case c4 => simp only [Fr.get_set, reduceEqDiff, ↓reduceIte, q1]
  have hB : ∀ k fr s, k < xs.length -> Kp [2] fR12 fr -> fr.get 5 = some (.int .i64 (.ofNat k)) -> (st.next <= s.next /\ (∀ i, i < lo -> s.get i = st.get i) /\ ∃ sk, fr.get 1 = some sk /\ Ir lo s sk (vL (l.take k) o)) ->
    (∃ FR s', acode (gT m) Y m bf168_0 none fr s = .norm FR s' /\ Kp [5, 2] fr FR /\ (st.next <= s'.next /\ (∀ i, i < lo -> s'.get i = st.get i) /\ ∃ sk, FR.get 1 = some sk /\ Ir lo s' sk (vL (l.take (k + 1)) o))) ∨
    (∃ FR s', acode (gT m) Y m bf168_0 none fr s = .ret FR s' /\ False) := by
   intro k fr s hk hkp gi ⟨hnx, hsm, sq, q1, hq⟩
   obtain ⟨t, ht, hdr⟩ := drop_at (l := l) (k := k) (by omega)
   obtain ⟨x, hx, hrx⟩ := hrs.at ht
   obtain ⟨p, ia, ld⟩ := hsl.at hx
   have hsame : Same F st s := fun i hi => hsm i (hF i hi)
   have ld := ld s hsame
   have hfz := Tm.fzL_mem (List.mem_of_getElem? ht)
   have hsz := sizeL_take l k t ht
   have hvl := vL_len (l.take k) o
   obtain ⟨s1, s', hcall, hnx', hsm', hir'⟩ := ih t.fz (by omega) t rfl m Y F lo s x sq (vL (l.take k) o) (hrx.mono hsame fun _ h => h) hF (by omega) hq (by omega) (by omega) (by omega)
   have hcall' : ((gT m).cg Y).fn 168 [.agg x, sq] s = .ret s1 s' := hcall
   have q2 := hkp.at (k := 2) (by decide) gR12_2
   obtain ⟨fR13, hR13, kR13, oR13_1⟩ : ∃ fr', arun ((gT m).cg Y) g168_0 fr s = .ok fr' s' /\ Kp [2, 5] fr fr' /\ fr'.get 1 = some (s1) := ⟨_, by simp only [amE, reduceEqDiff, ↓reduceIte, reduceCtorEq, reduceAdd, q1, q2, gi, g168_0, faf, ld2f, ia, ld, hcall'] <;> rfl, Kp.refl.s.s.s.s.s.s.s.s, gh⟩
   refine .inl ⟨fR13, s', ?q13, kR13.sub (by decide), by omega, fun i hi => (hsm' i hi).trans (hsm i hi), s1, oR13_1, by rw [vL_take l k t o ht]; exact hir'⟩
   case q13 => simp only [amE, reduceEqDiff, ↓reduceIte, reduceCtorEq, reduceAdd, bf168_0, hR13]
  rcases floop (Γ := (gT m)) (Y := Y) (m := m) (N := xs.length) (c := 23) (i := 5) (j1 := 24) (j2 := 25) (b := 0) (b1 := 1) (ro := none) (C := cf168_0) (B := bf168_0) (L := [2]) (fr0 := fR12) (by decide) (by decide) (by decide) hsl.2.1
   (Q := fun k fr s => st.next <= s.next /\ (∀ i, i < lo -> s.get i = st.get i) /\ ∃ sk, fr.get 1 = some sk /\ Ir lo s sk (vL (l.take k) o)) (fun k fr s x v hx ⟨h1, h2, sk, h3, h4⟩ => ⟨h1, h2, sk, by rw [Fr.get_set, if_neg (by omega)]; exact h3, h4⟩) hC hB xs.length 0 fR12 st m (by omega) (by omega) Kp.refl oR12_5 ⟨Nat.le_refl _, fun _ _ => rfl, sl, gR12_1, by simpa only [List.take_zero, vL_nil] using hir⟩
   with ⟨FR, s', h1, h2, h3, h4, sk', h5, h6⟩ | ⟨FR, s', h1, h2⟩
  ·rw [hxl, List.take_length] at h6
   refine ⟨sk', s', fun_of (mf := kf168) (fr := (FR.set 33 (some sk')).set 4 (some sk')) t168 rfl (.inl ?w1) (h2.1.trans dR12) ?w2, h3, h4, h6⟩
   case w1 =>
    rw [<- hA6]
    simp only [amE, reduceEqDiff, ↓reduceIte, reduceCtorEq, reduceAdd, kf168, b00, hR7, hR8, hR12, oR8_8, h1, h5]
   case w2 => simp only [kf168, amE, Fr.get_set, ↓reduceIte]
  ·exact absurd h2 id
theorem all_run (l : List Tm) (n : Nat) (Y : Yenv) (F : Nat -> Prop) (st : St) (sl : AV) (xs : List (List AV)) (hsl : SlR F st sl xs) (hrs : RepTs F st l xs) (hn : Tm.fzL l + l.length + 2 < n) : R n Y 167 [sl] st = .ret (.bool (l.all rIs)) st := by
 obtain ⟨m, rfl⟩ : ∃ m, n = m + 1 := ⟨n - 1, by omega⟩
 have b00 : Nat.beq 0 0 = true := rfl
 have hxl := hrs.len
 have hlen := hsl.len st
 obtain ⟨fA14, hA14⟩ : ∃ fA, fA = frOf 0 [sl] Fr.nil := ⟨_, rfl⟩
 have gA14_0 : fA14.get 0 = some (sl) := by rw [hA14]; simp only [frOf, Fr.get_set, reduceAdd, reduceEqDiff, ↓reduceIte]
 have dA14 : fA14.ds = [] := by rw [hA14]; rfl
 obtain ⟨fR15, hR15, kR15, oR15_2⟩ : ∃ fr', arun ((gT m).cg Y) [⟨(some 2), .mv (.c (.bool false)), none⟩] fA14 st = .ok fr' st /\ Kp [0] fA14 fr' /\ fr'.get 2 = some (.bool false) := ⟨_, by simp only [amE, reduceEqDiff, ↓reduceIte, reduceCtorEq, reduceAdd] <;> rfl, Kp.refl.s, gh⟩
 have gR15_0 := kR15.g 0 gA14_0
 have dR15 := kR15.1.trans dA14
 obtain ⟨fR16, hR16, kR16, oR16_3⟩ : ∃ fr', arun ((gT m).cg Y) [⟨(some 3), .mv (.c (.int .i64 (.ofNat 0))), none⟩] fR15 st = .ok fr' st /\ Kp [0] fR15 fr' /\ fr'.get 3 = some (.int .i64 (.ofNat 0)) := ⟨_, by simp only [amE, reduceEqDiff, ↓reduceIte, reduceCtorEq, reduceAdd] <;> rfl, Kp.refl.s, gh⟩
 have gR16_0 := kR16.g 0 gR15_0
 have dR16 := kR16.1.trans dR15
 have hC : ∀ k fr s, k <= xs.length -> Kp [0] fR16 fr -> fr.get 3 = some (.int .i64 (.ofNat k)) -> (s = st /\ (l.drop k).all rIs = l.all rIs) ->
   ∃ fr', arun ((gT m).cg Y) cf167_0 fr s = .ok fr' s /\ Kp [3, 0] fr fr' /\ fr'.get 7 = some (.bool (decide (k < xs.length))) /\ (s = st /\ (l.drop k).all rIs = l.all rIs) := by
  intro k fr s hk hkp gi ⟨hst, hq⟩
  subst hst
  have q0 := hkp.at (k := 0) (by decide) gR16_0
  refine ⟨?c0, ?c1, ?c2, ?c3, rfl, hq⟩
  case c1 =>
   simp only [amE, reduceEqDiff, ↓reduceIte, reduceCtorEq, reduceAdd, cf167_0, q0, gi, hlen, lssD]
   rfl
  case c2 => repeat (first | exact Kp.refl | refine Kp.set (by decide) ?_)
  case c3 => simp only [Fr.get_set, reduceEqDiff, ↓reduceIte]
 have hB : ∀ k fr s, k < xs.length -> Kp [0] fR16 fr -> fr.get 3 = some (.int .i64 (.ofNat k)) -> (s = st /\ (l.drop k).all rIs = l.all rIs) ->
   (∃ FR s', acode (gT m) Y m bf167_0 none fr s = .norm FR s' /\ Kp [3, 0] fr FR /\ (s' = st /\ (l.drop (k + 1)).all rIs = l.all rIs)) ∨
   (∃ FR s', acode (gT m) Y m bf167_0 none fr s = .ret FR s' /\ (s' = st /\ FR.ds = [] /\ FR.get 2 = some (.bool false) /\ l.all rIs = false)) := by
  intro k fr s hk hkp gi ⟨hst, hq⟩
  subst hst
  obtain ⟨t, ht, hdr⟩ := drop_at (l := l) (k := k) (by omega)
  obtain ⟨x, hx, hrx⟩ := hrs.at ht
  obtain ⟨p, ia, ld⟩ := hsl.at hx
  have ld := ld s (Same.refl _ _)
  have hfz := Tm.fzL_mem (List.mem_of_getElem? ht)
  have hcall : ((gT m).cg Y).fn 140 [.agg x] s = .ret (.bool (rIs t)) s := is_run t m Y F s x hrx (by omega)
  have q0 := hkp.at (k := 0) (by decide) gR16_0
  rw [hdr, List.all_cons] at hq
  generalize rIs t = ok at *
  obtain ⟨fR17, hR17, kR17, oR17_15⟩ : ∃ fr', arun ((gT m).cg Y) g167_0 fr s = .ok fr' s /\ Kp [0, 3] fr fr' /\ fr'.get 15 = some (.bool (!ok)) := ⟨_, by simp only [amE, reduceEqDiff, ↓reduceIte, reduceCtorEq, reduceAdd, q0, gi, g167_0, ia, ld, hcall, unN, Bool.not_true, Bool.not_false] <;> rfl, Kp.refl.s.s.s.s.s.s, gh⟩
  cases ok with
  | true =>
   refine .inl ⟨fR17, s, ?q17, kR17.sub (by decide), rfl, by simpa using hq⟩
   case q17 => simp only [amE, reduceEqDiff, ↓reduceIte, reduceCtorEq, reduceAdd, bf167_0, hR17, oR17_15, Bool.not_true]
  | false =>
   obtain ⟨fR18, hR18, kR18, oR18_2⟩ : ∃ fr', arun ((gT m).cg Y) [⟨(some 2), .mv (.c (.bool false)), none⟩] fR17 s = .ok fr' s /\ Kp [] fR17 fr' /\ fr'.get 2 = some (.bool false) := ⟨_, by simp only [amE, reduceEqDiff, ↓reduceIte, reduceCtorEq, reduceAdd] <;> rfl, Kp.refl.s, gh⟩
   refine .inr ⟨fR18, s, ?q18, rfl, kR18.1.trans (kR17.1.trans (hkp.1.trans dR16)), oR18_2, by rw [<- hq]; rfl⟩
   case q18 => simp only [amE, reduceEqDiff, ↓reduceIte, reduceCtorEq, reduceAdd, bf167_0, hR17, hR18, oR17_15, Bool.not_false]
 rcases floop (Γ := (gT m)) (Y := Y) (m := m) (N := xs.length) (c := 7) (i := 3) (j1 := 8) (j2 := 9) (b := 0) (b1 := 1) (ro := none) (C := cf167_0) (B := bf167_0) (L := [0]) (fr0 := fR16) (by decide) (by decide) (by decide) hsl.2.1
  (Q := fun k _ s => s = st /\ (l.drop k).all rIs = l.all rIs) (fun _ _ _ _ _ _ h => h) hC hB xs.length 0 fR16 st m (by omega) (by omega) Kp.refl oR16_3 ⟨rfl, rfl⟩
  with ⟨FR, s', h1, h2, h3, h4⟩ | ⟨FR, s', h1, h2, h3, h4, h5⟩
 ·subst h3
  rw [hxl, List.drop_length, List.all_nil] at h4
  rw [<- h4]
  refine fun_of (mf := kf167) (fr := FR.set 2 (some (.bool true))) t167 rfl (.inl ?w1) (h2.1.trans dR16) ?w2
  case w1 =>
   rw [<- hA14]
   simp only [amE, reduceEqDiff, ↓reduceIte, reduceCtorEq, reduceAdd, kf167, b00, hR15, hR16, h1]
  case w2 => simp only [kf167, amE, Fr.get_set, ↓reduceIte]
 ·subst h2
  rw [h5]
  refine fun_of (mf := kf167) (fr := FR) t167 rfl (.inl ?w3) h3 (by simp only [kf167, amE, h4])
  case w3 =>
   rw [<- hA14]
   simp only [amE, reduceEqDiff, ↓reduceIte, reduceCtorEq, reduceAdd, kf167, b00, hR15, hR16, h1]
theorem rIs_size {t : Tm} (h : rIs t = true) : t.size <= 2000 := by
 unfold rIs at h
 simp only [Bool.and_eq_true] at h
 have := ((rcT_spec t 2000 1 (by omega) (by omega) (by omega) (by omega)).1.1 h.1).1
 omega
theorem vars1_run (t : Tm) (n : Nat) (Y : Yenv) (F : Nat -> Prop) (st : St) (cs : List AV) (hr : RepT F st t cs) (hF : ∀ i, F i -> i < st.next) (hi : rIs t = true) (hn : t.fz + 4000 < n) :
  ∃ sl' st', R n Y 141 [.lst 1 cs true] st = .ret sl' st' /\ Keeps st st' /\ Ir st.next st' sl' (vL [t] []) := by
 obtain ⟨m, rfl⟩ : ∃ m, n = m + 1 := ⟨n - 1, by omega⟩
 have b00 : Nat.beq 0 0 = true := rfl
 have hsz := rIs_size hi
 have hsl : SlR F st (.lst 1 cs true) [cs] := by
  have := SlR.lst F st (n := 1) (xs := [cs]) (ex := true) (fun x hx => by simp only [List.mem_singleton] at hx; subst hx; exact hr.cells3) (by simp) rfl
  simpa using this
 have hrs : RepTs F st [t] [cs] := by simp only [RepTs]; exact ⟨_, _, rfl, hr, rfl⟩
 have hz : Tm.fzL [t] = t.fz := by simp [Tm.fzL]
 have call : ((gT m).cg Y).fn 167 [.lst 1 cs true] st = .ret (.bool true) st := by
  have := all_run [t] m Y F st (.lst 1 cs true) [cs] hsl hrs (by rw [hz]; simp; omega)
  simp only [List.all_cons, hi, List.all_nil, Bool.and_true] at this
  exact this
 obtain ⟨sv, s1, cv, hnx, hsm, hir⟩ := vars_run t m Y F st.next st cs (.lst 0 [] true) [] hr hF (Nat.le_refl _) (.inl ⟨rfl, rfl⟩) (by simp; omega) (by simp; omega) (by omega)
 have cv' : ((gT m).cg Y).fn 168 [.agg cs, .lst 0 [] true] st = .ret sv s1 := cv
 have fl : fillA [] [] = some [] := rfl
 obtain ⟨p, ia, ld⟩ := hsl.at (k := 0) (x := cs) rfl
 have ld := ld st (Same.refl _ _)
 have ln : ∀ s : St, (bif lenFits 0 (.lst 1 cs true) then lenA s (.lst 1 cs true) else none) = some (.int .i64 (.ofNat 1)) := fun _ => rfl
 generalize (AV.lst 1 cs true) = sl at *
 obtain ⟨fA19, hA19⟩ : ∃ fA, fA = frOf 0 [sl] Fr.nil := ⟨_, rfl⟩
 have gA19_0 : fA19.get 0 = some (sl) := by rw [hA19]; simp only [frOf, Fr.get_set, reduceAdd, reduceEqDiff, ↓reduceIte]
 have dA19 : fA19.ds = [] := by rw [hA19]; rfl
 obtain ⟨fR20, hR20, kR20, oR20_2⟩ : ∃ fr', arun ((gT m).cg Y) [⟨(some 2), .mv (.c .nilsl), none⟩] fA19 st = .ok fr' st /\ Kp [0] fA19 fr' /\ fr'.get 2 = some (.nilsl) := ⟨_, by simp only [amE, reduceEqDiff, ↓reduceIte, reduceCtorEq, reduceAdd] <;> rfl, Kp.refl.s, gh⟩
 have gR20_0 := kR20.g 0 gA19_0
 have dR20 := kR20.1.trans dA19
 obtain ⟨fR21, hR21, kR21, oR21_3⟩ : ∃ fr', arun ((gT m).cg Y) [⟨(some 5), .bslice 0 [] [], none⟩, ⟨(some 3), .mv (.t 5), none⟩] fR20 st = .ok fr' st /\ Kp [0] fR20 fr' /\ fr'.get 3 = some (.lst 0 [] true) := ⟨_, by simp only [amE, reduceEqDiff, ↓reduceIte, reduceCtorEq, reduceAdd, fl] <;> rfl, Kp.refl.s.s, gh⟩
 have gR21_0 := kR21.g 0 gR20_0
 have dR21 := kR21.1.trans dR20
 obtain ⟨fR22, hR22, kR22, oR22_8⟩ : ∃ fr', arun ((gT m).cg Y) g141_3 fR21 st = .ok fr' st /\ Kp [0, 3] fR21 fr' /\ fr'.get 8 = some (.bool false) := ⟨_, by simp only [amE, reduceEqDiff, ↓reduceIte, reduceCtorEq, reduceAdd, gR21_0, g141_3, call, unN, Bool.not_true, Bool.not_false] <;> rfl, Kp.refl.s.s.s, by simp only [Fr.get_set, reduceEqDiff, ↓reduceIte, amB]⟩
 have gR22_0 := kR22.g 0 gR21_0
 have gR22_3 := kR22.g 3 oR21_3
 have dR22 := kR22.1.trans dR21
 obtain ⟨fR23, hR23, kR23, oR23_4⟩ : ∃ fr', arun ((gT m).cg Y) [⟨(some 4), .mv (.c (.int .i64 (.ofNat 0))), none⟩] fR22 st = .ok fr' st /\ Kp [0, 3] fR22 fr' /\ fr'.get 4 = some (.int .i64 (.ofNat 0)) := ⟨_, by simp only [amE, reduceEqDiff, ↓reduceIte, reduceCtorEq, reduceAdd] <;> rfl, Kp.refl.s, gh⟩
 have gR23_0 := kR23.g 0 gR22_0
 have gR23_3 := kR23.g 3 gR22_3
 have dR23 := kR23.1.trans dR22
 have hC : ∀ k fr s, k <= 1 -> Kp [0] fR23 fr -> fr.get 4 = some (.int .i64 (.ofNat k)) -> ((k = 0 -> s = st /\ fr.get 3 = some (.lst 0 [] true)) /\ (k = 1 -> s = s1 /\ fr.get 3 = some sv)) ->
   ∃ fr', arun ((gT m).cg Y) cf141_0 fr s = .ok fr' s /\ Kp [4, 0] fr fr' /\ fr'.get 13 = some (.bool (decide (k < 1))) /\ ((k = 0 -> s = st /\ fr'.get 3 = some (.lst 0 [] true)) /\ (k = 1 -> s = s1 /\ fr'.get 3 = some sv)) := by
  intro k fr s hk hkp gi ⟨hq0, hq1⟩
  have q0 := hkp.at (k := 0) (by decide) gR23_0
  have ln := ln s
  refine ⟨?c0, ?c1, ?c2, ?c3, fun h => ⟨(hq0 h).1, ?c4⟩, fun h => ⟨(hq1 h).1, ?c5⟩⟩
  case c1 =>
   simp only [amE, reduceEqDiff, ↓reduceIte, reduceCtorEq, reduceAdd, cf141_0, q0, gi, ln, lssD]
   rfl
  case c2 => repeat (first | exact Kp.refl | refine Kp.set (by decide) ?_)
  case c3 => simp only [Fr.get_set, reduceEqDiff, ↓reduceIte]
  case c4 => simp only [Fr.get_set, reduceEqDiff, ↓reduceIte, (hq0 h).2]
  case c5 => simp only [Fr.get_set, reduceEqDiff, ↓reduceIte, (hq1 h).2]
 have hB : ∀ k fr s, k < 1 -> Kp [0] fR23 fr -> fr.get 4 = some (.int .i64 (.ofNat k)) -> ((k = 0 -> s = st /\ fr.get 3 = some (.lst 0 [] true)) /\ (k = 1 -> s = s1 /\ fr.get 3 = some sv)) ->
   (∃ FR s', acode (gT m) Y m bf141_0 none fr s = .norm FR s' /\ Kp [4, 0] fr FR /\ ((k + 1 = 0 -> s' = st /\ FR.get 3 = some (.lst 0 [] true)) /\ (k + 1 = 1 -> s' = s1 /\ FR.get 3 = some sv))) ∨
   (∃ FR s', acode (gT m) Y m bf141_0 none fr s = .ret FR s' /\ False) := by
  intro k fr s hk hkp gi ⟨hq0, hq1⟩
  obtain rfl : k = 0 := by omega
  obtain ⟨rfl, q3⟩ := hq0 rfl
  have q0 := hkp.at (k := 0) (by decide) gR23_0
  obtain ⟨fR24, hR24, kR24, oR24_3⟩ : ∃ fr', arun ((gT m).cg Y) g141_0 fr s = .ok fr' s1 /\ Kp [0, 4] fr fr' /\ fr'.get 3 = some (sv) := ⟨_, by simp only [amE, reduceEqDiff, ↓reduceIte, reduceCtorEq, reduceAdd, q0, q3, gi, g141_0, ia, ld, cv'] <;> rfl, Kp.refl.s.s.s.s.s.s.s, gh⟩
  refine .inl ⟨fR24, s1, ?q24, kR24.sub (by decide), fun h => (by omega), fun _ => ⟨rfl, oR24_3⟩⟩
  case q24 => simp only [amE, reduceEqDiff, ↓reduceIte, reduceCtorEq, reduceAdd, bf141_0, hR24]
 rcases floop (Γ := (gT m)) (Y := Y) (m := m) (N := 1) (c := 13) (i := 4) (j1 := 14) (j2 := 15) (b := 0) (b1 := 1) (ro := none) (C := cf141_0) (B := bf141_0) (L := [0]) (fr0 := fR23) (by decide) (by decide) (by decide) (by decide)
  (Q := fun k fr s => (k = 0 -> s = st /\ fr.get 3 = some (.lst 0 [] true)) /\ (k = 1 -> s = s1 /\ fr.get 3 = some sv)) (fun k fr s x v hx ⟨h1, h2⟩ => ⟨fun h => ⟨(h1 h).1, by rw [Fr.get_set, if_neg (by omega)]; exact (h1 h).2⟩, fun h => ⟨(h2 h).1, by rw [Fr.get_set, if_neg (by omega)]; exact (h2 h).2⟩⟩) hC hB 1 0 fR23 st m (by omega) (by omega) Kp.refl oR23_4 ⟨fun _ => ⟨rfl, gR23_3⟩, fun h => (by cases h)⟩
  with ⟨FR, s', h1, h2, -, h4⟩ | ⟨FR, s', h1, h2⟩
 ·obtain ⟨rfl, h4⟩ := h4 rfl
  refine ⟨sv, s', fun_of (mf := kf141) (fr := (FR.set 22 (some sv)).set 2 (some sv)) t141 rfl (.inl ?w1) (h2.1.trans dR23) ?w2, ⟨hnx, hsm⟩, by rw [vL_cons, vL_nil]; exact hir⟩
  case w1 =>
   rw [<- hA19]
   simp only [amE, reduceEqDiff, ↓reduceIte, reduceCtorEq, reduceAdd, kf141, b00, hR20, hR21, hR22, hR23, oR22_8, h1, h4]
  case w2 => simp only [kf141, amE, Fr.get_set, ↓reduceIte]
 ·exact absurd h2 id
theorem rGround_run (t : Tm) (n : Nat) (Y : Yenv) (F : Nat -> Prop) (st : St) (cs : List AV) (hr : RepT F st t cs) (hF : ∀ i, F i -> i < st.next) (hn : t.fz + 4001 < n) : ∃ st', R n Y 116 [.agg cs] st = .ret (.bool (gr t)) st' /\ Keeps st st' := by
 obtain ⟨m, rfl⟩ : ∃ m, n = m + 1 := ⟨n - 1, by omega⟩
 have b00 : Nat.beq 0 0 = true := rfl
 have c1 : ((gT m).cg Y).fn 140 [.agg cs] st = .ret (.bool (rIs t)) st := is_run t m Y F st cs hr (by omega)
 have hv : rIs t = true -> ∃ sl' st', R m Y 141 [.lst 1 cs true] st = .ret sl' st' /\ Keeps st st' /\ Ir st.next st' sl' (vL [t] []) := fun h => vars1_run t m Y F st cs hr hF h (by omega)
 have hc3 := hr.cells3
 obtain ⟨a, b, c, rfl⟩ : ∃ a b c, cs = [a, b, c] := by
  match cs, hc3.1 with
  | [a, b, c], _ => exact ⟨a, b, c, rfl⟩
 have fl : fillA [.int .i64 (.ofNat 0), .int .i64 (.ofNat 0), .nilsl] [(0, 3, .agg [a, b, c])] = some [a, b, c] := rfl
 rw [<- rGround_eq]
 have hres : rGround t = (rIs t && decide ((vL [t] []).length = 0)) := rfl
 rw [hres]
 generalize rIs t = B at *
 obtain ⟨fA25, hA25⟩ : ∃ fA, fA = frOf 0 [.agg [a, b, c]] Fr.nil := ⟨_, rfl⟩
 have gA25_0 : fA25.get 0 = some (.agg [a, b, c]) := by rw [hA25]; simp only [frOf, Fr.get_set, reduceAdd, reduceEqDiff, ↓reduceIte]
 have dA25 : fA25.ds = [] := by rw [hA25]; rfl
 obtain ⟨fR26, hR26, kR26, oR26_1⟩ : ∃ fr', arun ((gT m).cg Y) [⟨(some 1), .box true (.t 0), none⟩, ⟨(some 2), .mv (.c (.bool false)), none⟩] fA25 st = .ok fr' st /\ Kp [] fA25 fr' /\ fr'.get 1 = some (.fptr [a, b, c] 0) := ⟨_, by simp only [amE, reduceEqDiff, ↓reduceIte, reduceCtorEq, reduceAdd, gA25_0] <;> rfl, Kp.refl.s.s, gn gh⟩
 have dR26 := kR26.1.trans dA25
 cases B with
 | false =>
  obtain ⟨fR27, hR27, kR27, oR27_2⟩ : ∃ fr', arun ((gT m).cg Y) g116_1 fR26 st = .ok fr' st /\ Kp [] fR26 fr' /\ fr'.get 2 = some (.bool false) := ⟨_, by simp only [amE, reduceEqDiff, ↓reduceIte, reduceCtorEq, reduceAdd, oR26_1, g116_1, ld3f, c1, Bool.not_true, Bool.not_false] <;> rfl, Kp.refl.s.s.s.s.s.s.s.s.s.s, gh⟩
  have dR27 := kR27.1.trans dR26
  refine ⟨st, fun_of (mf := kf116) (fr := fR27) t116 rfl (.inl ?q27) dR27 (by simp only [kf116, amE, oR27_2, Bool.false_and]), Keeps.refl st⟩
  case q27 =>
   rw [<- hA25]
   simp only [amE, reduceEqDiff, ↓reduceIte, reduceCtorEq, reduceAdd, kf116, hR26, hR27]
 | true =>
  obtain ⟨sv, s1, cv, kv, hir⟩ := hv rfl
  have cv' : ((gT m).cg Y).fn 141 [.lst 1 [a, b, c] true] st = .ret sv s1 := cv
  have ln := hir.len s1
  have eq0 : binB false .eql (.int .i64 (.ofNat (vL [t] []).length)) (.int .i64 (.ofNat 0)) = some (.bool (decide ((vL [t] []).length = 0))) := by
   show some (AV.bool (Int.ofNat (vL [t] []).length == Int.ofNat 0)) = _
   congr 2
   by_cases h : (vL [t] []).length = 0
   ·rw [h]; rfl
   ·rw [decide_eq_false h]; simp; exact fun e => h (by rw [e]; rfl)
  obtain ⟨fR28, hR28, kR28, oR28_2⟩ : ∃ fr', arun ((gT m).cg Y) g116_1 fR26 st = .ok fr' s1 /\ Kp [] fR26 fr' /\ fr'.get 2 = some (.bool (decide ((vL [t] []).length = 0))) := ⟨_, by simp only [amE, reduceEqDiff, ↓reduceIte, reduceCtorEq, reduceAdd, oR26_1, g116_1, ld3f, c1, fl, cv', ln, eq0, Bool.not_true, Bool.not_false] <;> rfl, Kp.refl.s.s.s.s.s.s.s.s.s.s, gh⟩
  have dR28 := kR28.1.trans dR26
  refine ⟨s1, fun_of (mf := kf116) (fr := fR28) t116 rfl (.inl ?q28) dR28 (by simp only [kf116, amE, oR28_2, Bool.true_and]), kv⟩
  case q28 =>
   rw [<- hA25]
   simp only [amE, reduceEqDiff, ↓reduceIte, reduceCtorEq, reduceAdd, kf116, hR26, hR28]
end
end Go.AM.D16
