import Derived.Test.YtphmjdnljmhipaaGreatDoorAmSh4
set_option linter.unusedSimpArgs false
set_option linter.unusedVariables false
set_option maxRecDepth 100000
namespace Go.AM.D16
open Go Go.AM
noncomputable section
open Nat (reduceEqDiff reduceAdd)
theorem intBeq_refl (n : Int) : intBeq n n = true := by cases n <;> exact Nat.beq_refl _
theorem bb_refl (b : Bool) : (bif b then b else !b) = true := by cases b <;> rfl
theorem avsBeq_app : ∀ {a b : List AV}, avsBeq a a = true -> avsBeq b b = true -> avsBeq (a ++ b) (a ++ b) = true
 | [], b, _, h => h
 | x :: a, b, h, k => by
  simp only [avsBeq, Bool.and_eq_true, List.cons_append] at h ⊢
  exact ⟨h.1, avsBeq_app h.2 k⟩
theorem SlR.beq {F : Nat -> Prop} {st : St} {sl : AV} {xs : List (List AV)} (h : SlR F st sl xs) (hx : avsBeq xs.flatten xs.flatten = true) : avBeq sl sl = true := by
 rcases h.2.2 with ⟨rfl, _⟩ | ⟨ex, rfl⟩ | ⟨id, cap, lo, rfl, _⟩
 ·rfl
 ·simp only [avBeq, Nat.beq_refl, bb_refl, hx, Bool.and_true]
 ·cases cap <;> simp only [avBeq, Nat.beq_refl, onBeq, Bool.and_true]
mutual
theorem RepT.beq {F : Nat -> Prop} {st : St} : ∀ (t : Tm) (cs : List AV), RepT F st t cs -> avsBeq cs cs = true
 | .mk k n nl ex l, cs, h => by
  simp only [RepT] at h
  obtain ⟨sl, xs, rfl, h2, h3⟩ := h
  simp only [avsBeq, avBeq, intBeq_refl, h2.beq (RepTs.beq l xs h3), decide_true, Bool.and_true]
theorem RepTs.beq {F : Nat -> Prop} {st : St} : ∀ (l : List Tm) (xs : List (List AV)), RepTs F st l xs -> avsBeq xs.flatten xs.flatten = true
 | [], xs, h => by simp only [RepTs] at h; subst h; rfl
 | t :: l, xs, h => by
  simp only [RepTs] at h
  obtain ⟨x, ys, rfl, h2, h3⟩ := h
  rw [List.flatten_cons]; exact avsBeq_app (RepT.beq t x h2) (RepTs.beq l ys h3)
end
mutual
theorem RepD.beq {F : Nat -> Prop} {st : St} : ∀ (t : Dv) (cs : List AV), RepD F st t cs -> avsBeq cs cs = true
 | .mk r nv ev vs nl ex l, cs, h => by
  simp only [RepD] at h
  obtain ⟨s1, x1, s2, x2, rfl, h2, h3, h4, h5⟩ := h
  simp only [avsBeq, avBeq, intBeq_refl, h2.beq (RepTs.beq vs x1 h3), h4.beq (RepDs.beq l x2 h5), decide_true, Bool.and_true]
theorem RepDs.beq {F : Nat -> Prop} {st : St} : ∀ (l : List Dv) (xs : List (List AV)), RepDs F st l xs -> avsBeq xs.flatten xs.flatten = true
 | [], xs, h => by simp only [RepDs] at h; subst h; rfl
 | t :: l, xs, h => by
  simp only [RepDs] at h
  obtain ⟨x, ys, rfl, h2, h3⟩ := h
  rw [List.flatten_cons]; exact avsBeq_app (RepD.beq t x h2) (RepDs.beq l ys h3)
end
theorem stw1 {st : St} {id : Nat} {x v : AV} (h : st.get id = some (.row [x])) (hv : AV.one v = true) : storeA 1 st (.ptr id 0) v = some (st.put id (.row [v])) := by
 simp only [storeA, h, one_cells hv]
 show (bif (true && (true && (AV.one v && true)) : Bool) then _ else _) = _
 rw [hv]; rfl
def Wy (P : Nat -> Prop) (s : St) (sl : AV) (w : Nat) : Prop := (sl = .nilsl /\ w = 0) \/ ∃ id cs, sl = .own id 0 w 1 none w /\ P id /\ s.get id = some (.row cs) /\ cs.length = w /\ 1 <= w /\ cs.all AV.one = true
theorem Wy.mono {P P' : Nat -> Prop} {s s' : St} {sl : AV} {w : Nat} (h : Wy P s sl w) (k : Same P s s') (hP : ∀ i, P i -> P' i) : Wy P' s' sl w := by
 rcases h with h | ⟨id, cs, h1, h2, h3, h4⟩
 ·exact .inl h
 ·exact .inr ⟨id, cs, h1, hP _ h2, k.get h2 h3, h4⟩
theorem Wy.len {P : Nat -> Prop} {s : St} {sl : AV} {w : Nat} (h : Wy P s sl w) (s' : St) : (bif lenFits 0 sl then lenA s' sl else none) = some (.int .i64 (.ofNat w)) := by
 rcases h with ⟨rfl, rfl⟩ | ⟨id, cs, rfl, _⟩ <;> rfl
def Out (P : Nat -> Prop) (o : Nat) (s : St) (sl : AV) (c : Nat) : Prop := (sl = .nilsl /\ c = 0) \/ ∃ id cs, sl = .own id 0 c 1 none c /\ id < s.next /\ s.get id = some (.row cs) /\ cs.length = c /\ ¬ P id /\ id ≠ o
theorem Out.one {P : Nat -> Prop} {o : Nat} {s : St} {sl : AV} {c : Nat} (h : Out P o s sl c) : AV.one sl = true := by
 rcases h with ⟨rfl, _⟩ | ⟨id, cs, rfl, _⟩ <;> rfl
theorem Out.beq {P : Nat -> Prop} {o : Nat} {s : St} {sl : AV} {c : Nat} (h : Out P o s sl c) : avBeq sl sl = true := by
 rcases h with ⟨rfl, _⟩ | ⟨id, cs, rfl, _⟩
 ·rfl
 ·simp only [avBeq, Nat.beq_refl, onBeq, Bool.and_true]
theorem Out.len {P : Nat -> Prop} {o : Nat} {s : St} {sl : AV} {c : Nat} (h : Out P o s sl c) (s' : St) : (bif lenFits 0 sl then lenA s' sl else none) = some (.int .i64 (.ofNat c)) := by
 rcases h with ⟨rfl, rfl⟩ | ⟨id, cs, rfl, _⟩ <;> rfl
theorem Out.keep {P P' : Nat -> Prop} {o : Nat} {s s' : St} {sl : AV} {c : Nat} (h : Out P o s sl c) (k : Keeps s s') (hP : ∀ i, P' i -> P i \/ s.next <= i) : Out P' o s' sl c := by
 rcases h with h | ⟨id, cs, h1, h2, h3, h4, h5, h6⟩
 ·exact .inl h
 ·exact .inr ⟨id, cs, h1, Nat.lt_of_lt_of_le h2 k.1, k.get h2 h3, h4, fun hp => (hP id hp).elim h5 (fun h => by omega), h6⟩
theorem Out.sub {P P' : Nat -> Prop} {o : Nat} {s : St} {sl : AV} {c : Nat} (h : Out P o s sl c) (hP : ∀ i, P' i -> P i) : Out P' o s sl c := by
 rcases h with h | ⟨id, cs, h1, h2, h3, h4, h5, h6⟩
 ·exact .inl h
 ·exact .inr ⟨id, cs, h1, h2, h3, h4, fun hp => h5 (hP id hp), h6⟩
theorem Out.app {P : Nat -> Prop} {o : Nat} {s s2 : St} {sl v : AV} {c : Nat} (h : Out P o s sl c) (k : Keeps s s2) (hP : ∀ i, P i -> i < s.next) (ho : o < s.next) (hv : AV.one v = true) (hc : c <= 100000) :
  ∃ sl' s3, appendA 24 1 s2 sl 1 [v] = some (sl', s3) /\ s3.next = s2.next + 1 /\ Same P s s3 /\ s3.get o = s.get o /\ Out P o s3 sl' (c + 1) := by
 have hk := k.1
 have hnP : ¬ P s2.next := fun h => by have := hP _ h; omega
 rcases h with ⟨rfl, rfl⟩ | ⟨id, cs, rfl, hid, hg, hcl, hnp, hno⟩
 ·refine ⟨.own s2.next 0 1 1 none 1, s2.new (.row [v]), rfl, rfl, fun i hi => ?_, ?_, .inr ⟨s2.next, [v], rfl, by simp, by rw [St.get_new, if_pos rfl], rfl, hnP, by omega⟩⟩
  ·have := hP i hi
   rw [St.get_new, if_neg (by omega), k.2 i this]
  ·rw [St.get_new, if_neg (by omega), k.2 o ho]
 ·have hg2 := k.get hid hg
  refine ⟨.own s2.next 0 (c + 1) 1 none (c + 1), (s2.del id).new (.row (cs ++ [v])), ?_, rfl, fun i hi => ?_, ?_, .inr ⟨s2.next, cs ++ [v], rfl, by simp [St.del, St.new], ?_, by simp [hcl], hnP, by omega⟩⟩
  ·have h0 : Nat.beq 1 0 = false := rfl
   have h1 : ((c + 1) * 24).ble 140737488355328 = true := Nat.ble_eq_true_of_le (by omega)
   have h2 : (c + 1).ble 140737488355328 = true := Nat.ble_eq_true_of_le (by omega)
   have h3 : (0 + c * 1).ble cs.length = true := Nat.ble_eq_true_of_le (by omega)
   have h4 : fitsA (c + 1) c none = none := by
    have : (c + 1).ble c = false := by
     cases hc : (c + 1).ble c with
     | false => rfl
     | true => have := Nat.le_of_ble_eq_true hc; omega
    simp only [fitsA, this]; rfl
   have h5 : (c * 1).beq cs.length = true := by rw [hcl, Nat.mul_one]; exact Nat.beq_refl _
   have h6 : [v].all AV.one = true := by show (AV.one v && true) = true; rw [hv]; rfl
   unfold appendA
   simp only [h0, cond_false, hg2, h1, h2, h3, h4, h5, h6]; rfl
  ·have := hP i hi
   have hne : i ≠ id := fun e => hnp (e ▸ hi)
   rw [St.get_new, if_neg (by simp only [St.next_del]; omega), St.get_del, if_neg hne, k.2 i this]
  ·rw [St.get_new, if_neg (by simp only [St.next_del]; omega), St.get_del, if_neg (fun e => hno e.symm), k.2 o ho]
  ·have : (s2.del id).next = s2.next := rfl
   rw [<- this, St.get_new, if_pos rfl]
theorem Wy.app {P : Nat -> Prop} {s : St} {sl : AV} {w : Nat} (h : Wy P s sl w) (k : Int) (hw : w <= 100000) :
  ∃ sl1 sl2 s2, sliceA 1 sl none (some (.int .i64 (.ofNat w))) (some (.int .i64 (.ofNat w))) = some sl1 /\ appendA 8 1 s sl1 1 [.int .i64 k] = some (sl2, s2) /\ Keeps s s2 /\ s2.next = s.next + 1 /\ Wy (fun i => i = s.next) s2 sl2 (w + 1) := by
 rcases h with ⟨rfl, rfl⟩ | ⟨id, cs, rfl, hp, hg, hcl, hw1, hone⟩
 ·exact ⟨.nilsl, .own s.next 0 1 1 none 1, s.new (.row [.int .i64 k]), rfl, rfl, Keeps.new _ _, rfl, .inr ⟨s.next, [.int .i64 k], rfl, rfl, by rw [St.get_new, if_pos rfl], rfl, by omega, rfl⟩⟩
 ·refine ⟨.own id 0 w 1 (some w) 0, .own s.next 0 (w + 1) 1 none (w + 1), s.new (.row (cs ++ [.int .i64 k])), ?_, ?_, Keeps.new _ _, rfl, .inr ⟨s.next, cs ++ [.int .i64 k], rfl, rfl, by rw [St.get_new, if_pos rfl], by simp [hcl], by omega, by simp [hone, AV.one]⟩⟩
  ·have h1 : w.ble w = true := Nat.ble_eq_true_of_le (Nat.le_refl w)
   have h0 : Nat.ble 0 w = true := Nat.ble_eq_true_of_le (Nat.zero_le w)
   show sliceN 1 (.own id 0 w 1 none w) none (some w) (some w) = _
   simp only [sliceN, Option.getD_none, Option.getD_some, h1, h0, Option.isSome_some, Nat.zero_mul, Nat.sub_zero]
   rfl
  ·have h0 : Nat.beq 1 0 = false := rfl
   have h1 : ((w + 1) * 8).ble 140737488355328 = true := Nat.ble_eq_true_of_le (by omega)
   have h2 : (w + 1).ble 140737488355328 = true := Nat.ble_eq_true_of_le (by omega)
   have h3 : (0 + w * 1).ble cs.length = true := Nat.ble_eq_true_of_le (by omega)
   have h4 : fitsA (w + 1) 0 (some w) = some false := by
    have : (w + 1).ble w = false := by
     cases hc : (w + 1).ble w with
     | false => rfl
     | true => have := Nat.le_of_ble_eq_true hc; omega
    simp only [fitsA, this]
   have h6 : [AV.int .i64 k].all AV.one = true := rfl
   have h7 : (cs.drop 0).take (w * 1) = cs := by rw [List.drop_zero, List.take_of_length_le (by omega)]
   unfold appendA
   simp only [h0, cond_false, hg, h1, h2, h3, h4, h6, h7]; rfl
end
end Go.AM.D16
