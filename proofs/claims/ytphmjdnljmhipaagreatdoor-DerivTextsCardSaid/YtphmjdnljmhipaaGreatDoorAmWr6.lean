import Derived.Test.YtphmjdnljmhipaaGreatDoorAmWr5
import Derived.Test.YtphmjdnljmhipaaGreatDoorAmSh15
set_option linter.unusedSimpArgs false
set_option linter.unusedVariables false
set_option maxRecDepth 100000
namespace Go.AM.D16
open Go Go.AM
noncomputable section
open Nat (reduceEqDiff reduceAdd)
def KLo (lo : Nat) (s s' : St) : Prop := s.next <= s'.next /\ ∀ i, i < lo -> s'.get i = s.get i
theorem KLo.refl (lo : Nat) (s : St) : KLo lo s s := ⟨Nat.le_refl _, fun _ _ => rfl⟩
theorem KLo.trans {lo : Nat} {a b c : St} (h : KLo lo a b) (k : KLo lo b c) : KLo lo a c := ⟨Nat.le_trans h.1 k.1, fun i hi => (k.2 i hi).trans (h.2 i hi)⟩
theorem KLo.same {lo : Nat} {s s' : St} (h : KLo lo s s') {F : Nat -> Prop} (hF : ∀ i, F i -> i < lo) : Same F s s' := fun i hi => h.2 i (hF i hi)
def Bu (lo : Nat) (st : St) (sl : AV) (l : List Nat) : Prop := (sl = .nilsl /\ l = []) \/ ∃ id, sl = .own id 0 l.length 1 none l.length /\ lo <= id /\ id < st.next /\ st.get id = some (.row (cel l))
theorem tagA_get (tg : Option Nat) (x v : AV) (s : St) : (tagA tg x v s).next = s.next /\ ∀ i, (tagA tg x v s).get i = s.get i := by
 unfold tagA
 split
 ·split
  ·exact ⟨rfl, fun _ => rfl⟩
  ·split
   ·rename_i t _
    cases t.beq _ <;> exact ⟨rfl, fun _ => rfl⟩
   ·exact ⟨rfl, fun _ => rfl⟩
  ·exact ⟨rfl, fun _ => rfl⟩
 ·exact ⟨rfl, fun _ => rfl⟩
theorem Bu.app {lo : Nat} {st : St} {l s : List Nat} {sl : AV} (h : Bu lo st sl l) (hlo : lo <= st.next) (hs : s ≠ []) (hb : l.length + s.length <= 140737488355328) :
  ∃ v s2, appendA 1 1 st sl s.length (cel s) = some (v, s2) /\ Bu lo (tagA (some 5) sl v s2) v (l ++ s) /\ KLo lo st (tagA (some 5) sl v s2) := by
 have hsl : s.length ≠ 0 := fun e => hs (List.length_eq_zero_iff.1 e)
 have h0 : s.length.beq 0 = false := by
  cases hc : s.length.beq 0
  ·rfl
  ·exact absurd (Nat.eq_of_beq_eq_true hc) hsl
 rcases h with ⟨rfl, rfl⟩ | ⟨id, rfl, h2, h3, h4⟩
 ·have a1 : (s.length * 1).ble 140737488355328 = true := Nat.ble_eq_true_of_le (by simp at hb; omega)
  have a2 : s.length.ble 140737488355328 = true := Nat.ble_eq_true_of_le (by simp at hb; omega)
  obtain ⟨t1, t2⟩ := tagA_get (some 5) .nilsl (.own st.next 0 s.length 1 none s.length) (st.new (.row (cel s)))
  refine ⟨.own st.next 0 s.length 1 none s.length, st.new (.row (cel s)), ?_, .inr ⟨st.next, rfl, hlo, by rw [t1]; simp, by rw [t2, St.get_new, if_pos rfl]; rfl⟩, by rw [t1]; simp, fun i hi => by rw [t2, St.get_new, if_neg (by omega)]⟩
  unfold appendA; simp only [h0, cond_false, a1, a2]; rfl
 ·have a1 : ((l.length + s.length) * 1).ble 140737488355328 = true := Nat.ble_eq_true_of_le (by omega)
  have a2 : (l.length + s.length).ble 140737488355328 = true := Nat.ble_eq_true_of_le hb
  have a3 : (0 + l.length * 1).ble (cel l).length = true := Nat.ble_eq_true_of_le (by rw [cel_len]; omega)
  have a4 : fitsA (l.length + s.length) l.length none = none := by
   have : (l.length + s.length).ble l.length = false := by
    cases hc : (l.length + s.length).ble l.length with
    | false => rfl
    | true => have := Nat.le_of_ble_eq_true hc; omega
   simp only [fitsA, this]; rfl
  have a5 : (l.length * 1).beq (cel l).length = true := by rw [cel_len, Nat.mul_one]; exact Nat.beq_refl _
  have hn : (st.del id).next = st.next := rfl
  obtain ⟨t1, t2⟩ := tagA_get (some 5) (.own id 0 l.length 1 none l.length) (.own st.next 0 (l.length + s.length) 1 none (l.length + s.length)) ((st.del id).new (.row (cel l ++ cel s)))
  refine ⟨.own st.next 0 (l.length + s.length) 1 none (l.length + s.length), (st.del id).new (.row (cel l ++ cel s)), ?_, .inr ⟨st.next, by simp, hlo, by rw [t1]; simp, by rw [t2, St.get_new, if_pos hn.symm, cel_app]⟩, by rw [t1]; simp, fun i hi => by rw [t2, St.get_new, if_neg (by rw [hn]; omega), St.get_del, if_neg (by omega)]⟩
  unfold appendA
  simp only [h0, cond_false, h4, a1, a2, a3, a4, a5, cel_one]; rfl
theorem Bu.len {lo : Nat} {st : St} {l : List Nat} {sl : AV} (h : Bu lo st sl l) (s : St) : (bif lenFits 0 sl then lenA s sl else none) = some (.int .i64 (.ofNat l.length)) := by
 rcases h with ⟨rfl, rfl⟩ | ⟨id, rfl, _⟩ <;> rfl
def pk (o : Nat) (ts : List (List Nat)) (k : Nat) : List Nat := if k = 0 then [] else o :: cm (ts.take k)
theorem pk_succ {o : Nat} {ts : List (List Nat)} {k : Nat} {t : List Nat} (h : ts[k]? = some t) : pk o ts (k + 1) = pk o ts k ++ [if k = 0 then o else 44] ++ t := by
 unfold pk
 rw [if_neg (by omega), take_snoc h]
 by_cases hk : k = 0
 ·subst hk; simp [cm, cmr]
 ·have hlt := (List.getElem?_eq_some_iff.1 h).1
  rw [if_neg hk, if_neg hk, cm_snoc (by simp; exact ⟨hk, fun e => by subst e; simp at hlt⟩)]; simp
theorem pk_len (o : Nat) (ts : List (List Nat)) (k : Nat) : (pk o ts k).length <= (cm ts).length + 1 := by
 unfold pk
 by_cases hk : k = 0
 ·rw [if_pos hk]; simp
 ·rw [if_neg hk]; simp only [List.length_cons]; have := cm_take ts k; omega
theorem pk_brk (o c : Nat) (ts : List (List Nat)) : brk o c ts = pk o ts ts.length ++ (if ts.length = 0 then [] else [c]) := by
 unfold pk
 cases ts with
 | nil => rfl
 | cons t ts => rw [if_neg (by simp), if_neg (by simp), List.take_length]; rfl
theorem eql0 (k : Nat) : binB false .eql (.int .i64 (.ofNat k)) (.int .i64 (.ofNat 0)) = some (.bool (decide (k = 0))) := by
 show some (AV.bool (decide ((Int.ofNat k) = Int.ofNat 0))) = _
 congr 2
 simp
theorem gtr0 (k : Nat) : binB false .gtr (.int .i64 (.ofNat k)) (.int .i64 (.ofNat 0)) = some (.bool (decide (0 < k))) := by
 show some (AV.bool (decide ((Int.ofNat k) > Int.ofNat 0))) = _
 congr 2
 simp
theorem bs1u (c : Nat) : fillA [.int .u8 (.ofNat 0)] [(0, 1, .int .u8 (.ofNat c))] = some [.int .u8 (.ofNat c)] := rfl
theorem cn1u (c : Nat) (s : St) : contentA 1 s (.lst 1 [.int .u8 (.ofNat c)] true) = some ([c].length, cel [c]) := rfl
theorem cnstr (l : List Nat) (s : St) : contentA 1 s (.str l) = some (l.length, cel l) := rfl
def g88_1 : List MOper := [⟨(some 20), .mv (.t 0), none⟩, ⟨(some 21), .bslice 1 [(.int .u8 (.ofNat 0))] [(0, 1, (.c (.int .u8 (.ofNat 40))))], none⟩, ⟨(some 22), .append 1 1 (some 5) (.t 20) (.t 21), none⟩, ⟨(some 0), .mv (.t 22), none⟩]
def g88_2 : List MOper := [⟨(some 23), .mv (.t 0), none⟩, ⟨(some 24), .bslice 1 [(.int .u8 (.ofNat 0))] [(0, 1, (.c (.int .u8 (.ofNat 44))))], none⟩, ⟨(some 25), .append 1 1 (some 5) (.t 23) (.t 24), none⟩, ⟨(some 0), .mv (.t 25), none⟩]
def g88_3 : List MOper := [⟨(some 26), .mv (.t 0), none⟩, ⟨(some 27), .faddr 2 (.t 3), none⟩, ⟨(some 28), .load false 1 (.t 27), none⟩, ⟨(some 29), .mv (.t 5), none⟩, ⟨(some 30), .iaddr 3 (.t 28) (.t 29), none⟩, ⟨(some 31), .load true 3 (.t 30), none⟩, ⟨(some 32), .call (.c (.func (.func 88) [] [])) [(.t 26), (.t 31)], none⟩, ⟨(some 0), .mv (.t 32), none⟩]
def g88_5 : List MOper := [⟨(some 6), .mv (.t 0), none⟩, ⟨(some 7), .faddr 1 (.t 3), none⟩, ⟨(some 8), .load false 1 (.t 7), none⟩, ⟨(some 9), .call (.c (.func (.func 84) [] [])) [(.t 8)], none⟩, ⟨(some 10), .append 1 1 (some 5) (.t 6) (.t 9), none⟩, ⟨(some 0), .mv (.t 10), none⟩]
def g88_7 : List MOper := [⟨(some 33), .faddr 2 (.t 3), none⟩, ⟨(some 34), .load false 1 (.t 33), none⟩, ⟨(some 35), .len 0 (.t 34), none⟩, ⟨(some 36), .bin false .gtr (.t 35) (.c (.int .i64 (.ofNat 0))), none⟩]
def g88_8 : List MOper := [⟨(some 37), .mv (.t 0), none⟩, ⟨(some 38), .bslice 1 [(.int .u8 (.ofNat 0))] [(0, 1, (.c (.int .u8 (.ofNat 41))))], none⟩, ⟨(some 39), .append 1 1 (some 5) (.t 37) (.t 38), none⟩, ⟨(some 0), .mv (.t 39), none⟩]
def bf88_0 : MCode := (.seq (.seq (.region [⟨(some 18), .mv (.t 5), none⟩, ⟨(some 19), .bin false .eql (.t 18) (.c (.int .i64 (.ofNat 0))), none⟩])
 (.cond (.t 19)
 (.region g88_1)
 (.region g88_2)))
 (.region g88_3))
def cf88_0 : List MOper := [⟨(some 11), .mv (.t 5), none⟩, ⟨(some 12), .faddr 2 (.t 3), none⟩, ⟨(some 13), .load false 1 (.t 12), none⟩, ⟨(some 14), .len 0 (.t 13), none⟩, ⟨(some 15), .bin false .lss (.t 11) (.t 14), none⟩]
def kf88 : MFunc := ⟨41, (.seq (.region [⟨(some 3), .box true (.t 1), none⟩, ⟨(some 4), .mv (.c .nilsl), none⟩])
 (.seq (.region g88_5)
 (.seq (.seq (.region [⟨(some 5), .mv (.c (.int .i64 (.ofNat 0))), none⟩])
 (.block 0 (.loop (lb2 15 5 16 17 0 1 cf88_0 bf88_0))))
 (.seq (.seq (.region g88_7)
 (.cond (.t 36)
 (.region g88_8)
 .skip))
 (.seq (.region [⟨(some 40), .mv (.t 0), none⟩, ⟨(some 4), .mv (.t 40), none⟩])
 .ret))))), [.t 4]⟩
theorem t88 : tbl 88 = some kf88 := by kernel_rfl
def g57_1 : List MOper := [⟨(some 21), .mv (.t 0), none⟩, ⟨(some 22), .bslice 1 [(.int .u8 (.ofNat 0))] [(0, 1, (.c (.int .u8 (.ofNat 123))))], none⟩, ⟨(some 23), .append 1 1 (some 5) (.t 21) (.t 22), none⟩, ⟨(some 0), .mv (.t 23), none⟩]
def g57_2 : List MOper := [⟨(some 24), .mv (.t 0), none⟩, ⟨(some 25), .bslice 1 [(.int .u8 (.ofNat 0))] [(0, 1, (.c (.int .u8 (.ofNat 44))))], none⟩, ⟨(some 26), .append 1 1 (some 5) (.t 24) (.t 25), none⟩, ⟨(some 0), .mv (.t 26), none⟩]
def g57_3 : List MOper := [⟨(some 27), .mv (.t 0), none⟩, ⟨(some 28), .faddr 1 (.t 3), none⟩, ⟨(some 29), .load false 1 (.t 28), none⟩, ⟨(some 30), .mv (.t 5), none⟩, ⟨(some 31), .iaddr 3 (.t 29) (.t 30), none⟩, ⟨(some 32), .load true 3 (.t 31), none⟩, ⟨(some 33), .call (.c (.func (.func 88) [] [])) [(.t 27), (.t 32)], none⟩, ⟨(some 0), .mv (.t 33), none⟩]
def g57_5 : List MOper := [⟨(some 50), .mv (.t 0), none⟩, ⟨(some 51), .bslice 1 [(.int .u8 (.ofNat 0))] [(0, 1, (.c (.int .u8 (.ofNat 40))))], none⟩, ⟨(some 52), .append 1 1 (some 5) (.t 50) (.t 51), none⟩, ⟨(some 0), .mv (.t 52), none⟩]
def g57_6 : List MOper := [⟨(some 53), .mv (.t 0), none⟩, ⟨(some 54), .bslice 1 [(.int .u8 (.ofNat 0))] [(0, 1, (.c (.int .u8 (.ofNat 44))))], none⟩, ⟨(some 55), .append 1 1 (some 5) (.t 53) (.t 54), none⟩, ⟨(some 0), .mv (.t 55), none⟩]
def g57_7 : List MOper := [⟨(some 56), .mv (.t 0), none⟩, ⟨(some 57), .faddr 2 (.t 3), none⟩, ⟨(some 58), .load false 1 (.t 57), none⟩, ⟨(some 59), .mv (.t 6), none⟩, ⟨(some 60), .iaddr 3 (.t 58) (.t 59), none⟩, ⟨(some 61), .load true 3 (.t 60), none⟩, ⟨(some 62), .call (.c (.func (.func 57) [] [])) [(.t 56), (.t 61)], none⟩, ⟨(some 0), .mv (.t 62), none⟩]
def g57_9 : List MOper := [⟨(some 7), .mv (.t 0), none⟩, ⟨(some 8), .faddr 0 (.t 3), none⟩, ⟨(some 9), .load false 1 (.t 8), none⟩, ⟨(some 10), .call (.c (.func (.func 84) [] [])) [(.t 9)], none⟩, ⟨(some 11), .append 1 1 (some 5) (.t 7) (.t 10), none⟩, ⟨(some 0), .mv (.t 11), none⟩]
def g57_11 : List MOper := [⟨(some 34), .faddr 1 (.t 3), none⟩, ⟨(some 35), .load false 1 (.t 34), none⟩, ⟨(some 36), .len 0 (.t 35), none⟩, ⟨(some 37), .bin false .gtr (.t 36) (.c (.int .i64 (.ofNat 0))), none⟩]
def g57_12 : List MOper := [⟨(some 38), .mv (.t 0), none⟩, ⟨(some 39), .bslice 1 [(.int .u8 (.ofNat 0))] [(0, 1, (.c (.int .u8 (.ofNat 125))))], none⟩, ⟨(some 40), .append 1 1 (some 5) (.t 38) (.t 39), none⟩, ⟨(some 0), .mv (.t 40), none⟩]
def g57_14 : List MOper := [⟨(some 63), .faddr 2 (.t 3), none⟩, ⟨(some 64), .load false 1 (.t 63), none⟩, ⟨(some 65), .len 0 (.t 64), none⟩, ⟨(some 66), .bin false .gtr (.t 65) (.c (.int .i64 (.ofNat 0))), none⟩]
def g57_15 : List MOper := [⟨(some 67), .mv (.t 0), none⟩, ⟨(some 68), .bslice 1 [(.int .u8 (.ofNat 0))] [(0, 1, (.c (.int .u8 (.ofNat 41))))], none⟩, ⟨(some 69), .append 1 1 (some 5) (.t 67) (.t 68), none⟩, ⟨(some 0), .mv (.t 69), none⟩]
def bf57_0 : MCode := (.seq (.seq (.region [⟨(some 19), .mv (.t 5), none⟩, ⟨(some 20), .bin false .eql (.t 19) (.c (.int .i64 (.ofNat 0))), none⟩])
 (.cond (.t 20)
 (.region g57_1)
 (.region g57_2)))
 (.region g57_3))
def cf57_0 : List MOper := [⟨(some 12), .mv (.t 5), none⟩, ⟨(some 13), .faddr 1 (.t 3), none⟩, ⟨(some 14), .load false 1 (.t 13), none⟩, ⟨(some 15), .len 0 (.t 14), none⟩, ⟨(some 16), .bin false .lss (.t 12) (.t 15), none⟩]
def bf57_1 : MCode := (.seq (.seq (.region [⟨(some 48), .mv (.t 6), none⟩, ⟨(some 49), .bin false .eql (.t 48) (.c (.int .i64 (.ofNat 0))), none⟩])
 (.cond (.t 49)
 (.region g57_5)
 (.region g57_6)))
 (.region g57_7))
def cf57_1 : List MOper := [⟨(some 41), .mv (.t 6), none⟩, ⟨(some 42), .faddr 2 (.t 3), none⟩, ⟨(some 43), .load false 1 (.t 42), none⟩, ⟨(some 44), .len 0 (.t 43), none⟩, ⟨(some 45), .bin false .lss (.t 41) (.t 44), none⟩]
def kf57 : MFunc := ⟨71, (.seq (.region [⟨(some 3), .box true (.t 1), none⟩, ⟨(some 4), .mv (.c .nilsl), none⟩])
 (.seq (.region g57_9)
 (.seq (.seq (.region [⟨(some 5), .mv (.c (.int .i64 (.ofNat 0))), none⟩])
 (.block 0 (.loop (lb2 16 5 17 18 0 1 cf57_0 bf57_0))))
 (.seq (.seq (.region g57_11)
 (.cond (.t 37)
 (.region g57_12)
 .skip))
 (.seq (.seq (.region [⟨(some 6), .mv (.c (.int .i64 (.ofNat 0))), none⟩])
 (.block 2 (.loop (lb2 45 6 46 47 2 3 cf57_1 bf57_1))))
 (.seq (.seq (.region g57_14)
 (.cond (.t 66)
 (.region g57_15)
 .skip))
 (.seq (.region [⟨(some 70), .mv (.t 0), none⟩, ⟨(some 4), .mv (.t 70), none⟩])
 .ret))))))), [.t 4]⟩
theorem t57 : tbl 57 = some kf57 := by kernel_rfl
def g22_1 : List MOper := [⟨(some 5), .load true 3 (.t 1), none⟩, ⟨(some 6), .call (.c (.func (.func 49) [] [])) [(.t 5)], none⟩, ⟨(some 7), .un .not (.t 6), none⟩]
def g22_3 : List MOper := [⟨(some 8), .load true 3 (.t 1), none⟩, ⟨(some 9), .call (.c (.func (.func 57) [] [])) [(.c .nilsl), (.t 8)], none⟩, ⟨(some 4), .mv (.t 9), none⟩]
def g22_4 : List MOper := [⟨(some 10), .mv (.t 4), none⟩, ⟨(some 11), .len 0 (.t 10), none⟩, ⟨(some 12), .bin false .gtr (.t 11) (.c (.int .i64 (.ofNat 100000))), none⟩]
def g22_6 : List MOper := [⟨(some 13), .mv (.t 4), none⟩, ⟨(some 14), .b2s (.t 13), none⟩, ⟨(some 2), .mv (.t 14), none⟩, ⟨(some 3), .mv (.c (.int .i64 (.ofNat 0))), none⟩]
def kf22 : MFunc := ⟨15, (.seq (.region [⟨(some 1), .box true (.t 0), none⟩, ⟨(some 2), .mv (.c (.str [])), none⟩, ⟨(some 3), .mv (.c (.int .i64 (.ofNat 0))), none⟩])
 (.seq (.seq (.region g22_1)
 (.cond (.t 7)
 (.seq (.region [⟨(some 2), .mv (.c (.str [])), none⟩, ⟨(some 3), .mv (.c (.int .i64 (.ofNat 160))), none⟩])
 .ret)
 .skip))
 (.seq (.region g22_3)
 (.seq (.seq (.region g22_4)
 (.cond (.t 12)
 (.seq (.region [⟨(some 2), .mv (.c (.str [])), none⟩, ⟨(some 3), .mv (.c (.int .i64 (.ofNat 2))), none⟩])
 .ret)
 .skip))
 (.seq (.region g22_6)
 .ret))))), [.t 2, .t 3]⟩
theorem t22 : tbl 22 = some kf22 := by kernel_rfl
theorem lp88 {m lo : Nat} {Y : Yenv} {F : Nat -> Prop} {fr : Fr} {st : St} {l : List Nat} {v slv x0 x1 x2 : AV} {xs : List (List AV)} {ts : List (List Nat)} (T : MCode)
  (g0 : fr.get 0 = some v) (g3 : fr.get 3 = some (.fptr [x0, x1, x2] 0)) (hv : x2 = slv) (h : Bu lo st v l) (hlo : lo <= st.next) (hsl : SlR F st slv xs) (hF : ∀ i, F i -> i < lo) (hlen : ts.length = xs.length) (hn : xs.length < m) (hb : l.length + (brk 40 41 ts).length <= 140737488355328)
  (hg : ∀ (k : Nat) (x : List AV) (t : List Nat), xs[k]? = some x -> ts[k]? = some t -> ∀ s v' l', Bu lo s v' l' -> KLo lo st s -> l'.length + t.length <= 140737488355328 -> ∃ v2 s', R m Y 88 [v', .agg x] s = .ret v2 s' /\ Bu lo s' v2 (l' ++ t) /\ KLo lo s s') :
  ∃ FR s' v2, acode (gT m) Y m (.seq (.seq (.region [⟨(some 5), .mv (.c (.int .i64 (.ofNat 0))), none⟩]) (.block 0 (.loop (lb2 15 5 16 17 0 1 cf88_0 bf88_0)))) (.seq (.seq (.region g88_7) (.cond (.t 36) (.region g88_8) .skip)) T)) none fr st = acode (gT m) Y m T none FR s' /\ Kp [3] fr FR /\ FR.get 0 = some v2 /\ Bu lo s' v2 (l ++ brk 40 41 ts) /\ KLo lo st s' := by
 have b00 : Nat.beq 0 0 = true := rfl
 have b11 : Nat.beq 1 1 = true := rfl
 have b22 : Nat.beq 2 2 = true := rfl
 have b33 : Nat.beq 3 3 = true := rfl
 have hln := fun s => hsl.len s
 have same : ∀ {s : St}, KLo lo st s -> Same F st s := fun k => k.same hF
 have hbk := pk_brk 40 41 ts
 have hcl : (cm ts).length + 2 <= (brk 40 41 ts).length \/ ts = [] := by
  cases ts with
  | nil => exact .inr rfl
  | cons t ts => left; simp only [brk, List.length_cons, List.length_append, List.length_nil]; omega
 subst hv
 obtain ⟨FR, s9, hloop, kpl, ⟨h09, v9, g09, bu9⟩⟩ : ∃ FR s9, aloop (acode (gT m) Y m (lb2 15 5 16 17 0 1 cf88_0 bf88_0) none) m (fr.set 5 (some (.int .i64 (.ofNat 0)))) st = .exit 0 FR s9 /\ Kp [3] (fr.set 5 (some (.int .i64 (.ofNat 0)))) FR /\ (KLo lo st s9 /\ ∃ v', FR.get 0 = some v' /\ Bu lo s9 v' (l ++ pk 40 ts xs.length)) := by
  rcases floop (Γ := (gT m)) (Y := Y) (m := m) (N := xs.length) (c := 15) (i := 5) (j1 := 16) (j2 := 17) (b := 0) (b1 := 1) (ro := none) (C := cf88_0) (B := bf88_0) (L := [3]) (fr0 := fr.set 5 (some (.int .i64 (.ofNat 0)))) (Post := fun _ _ => False) (by decide) (by decide) (by decide) hsl.2.1
   (Q := fun k fr' s => KLo lo st s /\ ∃ v', fr'.get 0 = some v' /\ Bu lo s v' (l ++ pk 40 ts k))
   (fun k fr' s q w hs ⟨h1, v', h2, h3⟩ => ⟨h1, v', by rcases hs with rfl | rfl | rfl <;> (rw [Fr.get_set, if_neg (by decide)]; exact h2), h3⟩)
   (fun k fr' s hk hp gi ⟨h1, v', h2, h3⟩ => by
    have q3 := hp.at (k := 3) (by decide) (gn g3 : (fr.set 5 (some (.int .i64 (.ofNat 0)))).get 3 = _)
    refine ⟨?fc, ?xc, ?kc, ?cc, h1, v', ?vc, h3⟩
    case xc => simp only [amE, reduceEqDiff, ↓reduceIte, reduceCtorEq, reduceAdd, cf88_0, q3, gi, faf, ld2f, hln s, lssN] <;> rfl
    case kc => repeat (first | exact Kp.refl | refine Kp.set (by decide) ?_)
    case cc => simp only [Fr.get_set, reduceEqDiff, ↓reduceIte]
    case vc => simp only [Fr.get_set, reduceEqDiff, ↓reduceIte, h2])
   (fun k fr' s hk hp gi ⟨h1, v', h2, h3⟩ => by
    left
    have q3 := hp.at (k := 3) (by decide) (gn g3 : (fr.set 5 (some (.int .i64 (.ofNat 0)))).get 3 = _)
    obtain ⟨x, hx, _⟩ := drop_at hk
    obtain ⟨t, ht, _⟩ := drop_at (l := ts) (k := k) (by omega)
    have hps := pk_succ (o := 40) ht
    have hpl := pk_len 40 ts (k + 1)
    have hcl' : (cm ts).length + 2 <= (brk 40 41 ts).length := hcl.resolve_right (fun e => by subst e; simp at ht)
    rw [hps] at hpl
    simp only [List.length_append, List.length_cons, List.length_nil] at hpl
    obtain ⟨v4, s4, ha, h5, k5⟩ := h3.app (s := [if k = 0 then 40 else 44]) (Nat.le_trans hlo h1.1) (by simp) (by simp only [List.length_append, List.length_cons, List.length_nil]; omega)
    have k6 := h1.trans k5
    obtain ⟨pp, hia, hld⟩ := hsl.at hx
    have ld := hld _ (same k6)
    obtain ⟨v6, s6, hc6, h7, k7⟩ := hg k x t hx ht _ v4 _ h5 k6 (by simp only [List.length_append, List.length_cons, List.length_nil]; omega)
    have e0 := eql0 k
    rw [hps, <- List.append_assoc, <- List.append_assoc]
    by_cases hk0 : k = 0
    ·rw [decide_eq_true hk0] at e0
     rw [if_pos hk0] at ha h7
     refine ⟨?fa, s6, ?xa, ?ka, k6.trans k7, v6, ?va, by rw [if_pos hk0]; exact h7⟩
     case xa =>
      simp only [amE, reduceEqDiff, ↓reduceIte, reduceCtorEq, reduceAdd, bf88_0, g88_1, g88_2, g88_3, gi, h2, q3, e0, bs1u, cn1u, ha, faf, ld2f, hia, ld, cg_fn, hc6] <;> rfl
     case ka => repeat (first | exact Kp.refl | refine Kp.set (by decide) ?_)
     case va => simp only [Fr.get_set, reduceEqDiff, ↓reduceIte]
    ·rw [decide_eq_false hk0] at e0
     rw [if_neg hk0] at ha h7
     refine ⟨?fb, s6, ?xb, ?kb, k6.trans k7, v6, ?vb, by rw [if_neg hk0]; exact h7⟩
     case xb =>
      simp only [amE, reduceEqDiff, ↓reduceIte, reduceCtorEq, reduceAdd, bf88_0, g88_1, g88_2, g88_3, gi, h2, q3, e0, bs1u, cn1u, ha, faf, ld2f, hia, ld, cg_fn, hc6] <;> rfl
     case kb => repeat (first | exact Kp.refl | refine Kp.set (by decide) ?_)
     case vb => simp only [Fr.get_set, reduceEqDiff, ↓reduceIte])
   xs.length 0 (fr.set 5 (some (.int .i64 (.ofNat 0)))) st m (by omega) hn Kp.refl gh ⟨KLo.refl lo st, v, gn g0, by simpa [pk] using h⟩ with h | ⟨_, _, _, h⟩
  ·exact h
  ·exact h.elim
 have q3 := kpl.at (k := 3) (by decide) (gn g3 : (fr.set 5 (some (.int .i64 (.ofNat 0)))).get 3 = _)
 have kf : Kp [3] fr FR := (Kp.set (by decide) Kp.refl).trans kpl
 rw [<- hlen] at bu9
 have gt := gtr0 xs.length
 rw [hbk, <- List.append_assoc]
 by_cases h0 : ts.length = 0
 ·rw [decide_eq_false (by omega)] at gt
  rw [if_pos h0, List.append_nil]
  refine ⟨?f1, s9, v9, ?x1, ?k1, ?v1, bu9, h09⟩
  case x1 => simp only [amE, reduceEqDiff, ↓reduceIte, reduceCtorEq, reduceAdd, g88_7, hloop, b00, b11, b22, b33, q3, faf, ld2f, hln s9, gt] <;> rfl
  case k1 => exact kf.trans (by repeat (first | exact Kp.refl | refine Kp.set (by decide) ?_))
  case v1 => simp only [Fr.get_set, reduceEqDiff, ↓reduceIte, g09]
 ·rw [decide_eq_true (by omega)] at gt
  rw [if_neg h0]
  have hpl := pk_len 40 ts ts.length
  have hcl' : (cm ts).length + 2 <= (brk 40 41 ts).length := hcl.resolve_right (fun e => h0 (by rw [e]; rfl))
  obtain ⟨v4, s4, ha, h5, k5⟩ := bu9.app (s := [41]) (Nat.le_trans hlo h09.1) (by simp) (by simp only [List.length_append, List.length_cons, List.length_nil]; omega)
  refine ⟨?f2, _, v4, ?x2, ?k2, ?v2, h5, h09.trans k5⟩
  case x2 => simp only [amE, reduceEqDiff, ↓reduceIte, reduceCtorEq, reduceAdd, g88_7, g88_8, hloop, b00, b11, b22, b33, q3, g09, faf, ld2f, hln s9, gt, bs1u, cn1u, ha] <;> rfl
  case k2 => exact kf.trans (by repeat (first | exact Kp.refl | refine Kp.set (by decide) ?_))
  case v2 => simp only [Fr.get_set, reduceEqDiff, ↓reduceIte]
theorem lp57a {m lo : Nat} {Y : Yenv} {F : Nat -> Prop} {fr : Fr} {st : St} {l : List Nat} {v slv x0 x1 x2 : AV} {xs : List (List AV)} {ts : List (List Nat)} (T : MCode)
  (g0 : fr.get 0 = some v) (g3 : fr.get 3 = some (.fptr [x0, x1, x2] 0)) (hv : x1 = slv) (h : Bu lo st v l) (hlo : lo <= st.next) (hsl : SlR F st slv xs) (hF : ∀ i, F i -> i < lo) (hlen : ts.length = xs.length) (hn : xs.length < m) (hb : l.length + (brk 123 125 ts).length <= 140737488355328)
  (hg : ∀ (k : Nat) (x : List AV) (t : List Nat), xs[k]? = some x -> ts[k]? = some t -> ∀ s v' l', Bu lo s v' l' -> KLo lo st s -> l'.length + t.length <= 140737488355328 -> ∃ v2 s', R m Y 88 [v', .agg x] s = .ret v2 s' /\ Bu lo s' v2 (l' ++ t) /\ KLo lo s s') :
  ∃ FR s' v2, acode (gT m) Y m (.seq (.seq (.region [⟨(some 5), .mv (.c (.int .i64 (.ofNat 0))), none⟩]) (.block 0 (.loop (lb2 16 5 17 18 0 1 cf57_0 bf57_0)))) (.seq (.seq (.region g57_11) (.cond (.t 37) (.region g57_12) .skip)) T)) none fr st = acode (gT m) Y m T none FR s' /\ Kp [3] fr FR /\ FR.get 0 = some v2 /\ Bu lo s' v2 (l ++ brk 123 125 ts) /\ KLo lo st s' := by
 have b00 : Nat.beq 0 0 = true := rfl
 have b11 : Nat.beq 1 1 = true := rfl
 have b22 : Nat.beq 2 2 = true := rfl
 have b33 : Nat.beq 3 3 = true := rfl
 have hln := fun s => hsl.len s
 have same : ∀ {s : St}, KLo lo st s -> Same F st s := fun k => k.same hF
 have hbk := pk_brk 123 125 ts
 have hcl : (cm ts).length + 2 <= (brk 123 125 ts).length \/ ts = [] := by
  cases ts with
  | nil => exact .inr rfl
  | cons t ts => left; simp only [brk, List.length_cons, List.length_append, List.length_nil]; omega
 subst hv
 obtain ⟨FR, s9, hloop, kpl, ⟨h09, v9, g09, bu9⟩⟩ : ∃ FR s9, aloop (acode (gT m) Y m (lb2 16 5 17 18 0 1 cf57_0 bf57_0) none) m (fr.set 5 (some (.int .i64 (.ofNat 0)))) st = .exit 0 FR s9 /\ Kp [3] (fr.set 5 (some (.int .i64 (.ofNat 0)))) FR /\ (KLo lo st s9 /\ ∃ v', FR.get 0 = some v' /\ Bu lo s9 v' (l ++ pk 123 ts xs.length)) := by
  rcases floop (Γ := (gT m)) (Y := Y) (m := m) (N := xs.length) (c := 16) (i := 5) (j1 := 17) (j2 := 18) (b := 0) (b1 := 1) (ro := none) (C := cf57_0) (B := bf57_0) (L := [3]) (fr0 := fr.set 5 (some (.int .i64 (.ofNat 0)))) (Post := fun _ _ => False) (by decide) (by decide) (by decide) hsl.2.1
   (Q := fun k fr' s => KLo lo st s /\ ∃ v', fr'.get 0 = some v' /\ Bu lo s v' (l ++ pk 123 ts k))
   (fun k fr' s q w hs ⟨h1, v', h2, h3⟩ => ⟨h1, v', by rcases hs with rfl | rfl | rfl <;> (rw [Fr.get_set, if_neg (by decide)]; exact h2), h3⟩)
   (fun k fr' s hk hp gi ⟨h1, v', h2, h3⟩ => by
    have q3 := hp.at (k := 3) (by decide) (gn g3 : (fr.set 5 (some (.int .i64 (.ofNat 0)))).get 3 = _)
    refine ⟨?fc, ?xc, ?kc, ?cc, h1, v', ?vc, h3⟩
    case xc => simp only [amE, reduceEqDiff, ↓reduceIte, reduceCtorEq, reduceAdd, cf57_0, q3, gi, faf, ld1f, hln s, lssN] <;> rfl
    case kc => repeat (first | exact Kp.refl | refine Kp.set (by decide) ?_)
    case cc => simp only [Fr.get_set, reduceEqDiff, ↓reduceIte]
    case vc => simp only [Fr.get_set, reduceEqDiff, ↓reduceIte, h2])
   (fun k fr' s hk hp gi ⟨h1, v', h2, h3⟩ => by
    left
    have q3 := hp.at (k := 3) (by decide) (gn g3 : (fr.set 5 (some (.int .i64 (.ofNat 0)))).get 3 = _)
    obtain ⟨x, hx, _⟩ := drop_at hk
    obtain ⟨t, ht, _⟩ := drop_at (l := ts) (k := k) (by omega)
    have hps := pk_succ (o := 123) ht
    have hpl := pk_len 123 ts (k + 1)
    have hcl' : (cm ts).length + 2 <= (brk 123 125 ts).length := hcl.resolve_right (fun e => by subst e; simp at ht)
    rw [hps] at hpl
    simp only [List.length_append, List.length_cons, List.length_nil] at hpl
    obtain ⟨v4, s4, ha, h5, k5⟩ := h3.app (s := [if k = 0 then 123 else 44]) (Nat.le_trans hlo h1.1) (by simp) (by simp only [List.length_append, List.length_cons, List.length_nil]; omega)
    have k6 := h1.trans k5
    obtain ⟨pp, hia, hld⟩ := hsl.at hx
    have ld := hld _ (same k6)
    obtain ⟨v6, s6, hc6, h7, k7⟩ := hg k x t hx ht _ v4 _ h5 k6 (by simp only [List.length_append, List.length_cons, List.length_nil]; omega)
    have e0 := eql0 k
    rw [hps, <- List.append_assoc, <- List.append_assoc]
    by_cases hk0 : k = 0
    ·rw [decide_eq_true hk0] at e0
     rw [if_pos hk0] at ha h7
     refine ⟨?fa, s6, ?xa, ?ka, k6.trans k7, v6, ?va, by rw [if_pos hk0]; exact h7⟩
     case xa =>
      simp only [amE, reduceEqDiff, ↓reduceIte, reduceCtorEq, reduceAdd, bf57_0, g57_1, g57_2, g57_3, gi, h2, q3, e0, bs1u, cn1u, ha, faf, ld1f, hia, ld, cg_fn, hc6] <;> rfl
     case ka => repeat (first | exact Kp.refl | refine Kp.set (by decide) ?_)
     case va => simp only [Fr.get_set, reduceEqDiff, ↓reduceIte]
    ·rw [decide_eq_false hk0] at e0
     rw [if_neg hk0] at ha h7
     refine ⟨?fb, s6, ?xb, ?kb, k6.trans k7, v6, ?vb, by rw [if_neg hk0]; exact h7⟩
     case xb =>
      simp only [amE, reduceEqDiff, ↓reduceIte, reduceCtorEq, reduceAdd, bf57_0, g57_1, g57_2, g57_3, gi, h2, q3, e0, bs1u, cn1u, ha, faf, ld1f, hia, ld, cg_fn, hc6] <;> rfl
     case kb => repeat (first | exact Kp.refl | refine Kp.set (by decide) ?_)
     case vb => simp only [Fr.get_set, reduceEqDiff, ↓reduceIte])
   xs.length 0 (fr.set 5 (some (.int .i64 (.ofNat 0)))) st m (by omega) hn Kp.refl gh ⟨KLo.refl lo st, v, gn g0, by simpa [pk] using h⟩ with h | ⟨_, _, _, h⟩
  ·exact h
  ·exact h.elim
 have q3 := kpl.at (k := 3) (by decide) (gn g3 : (fr.set 5 (some (.int .i64 (.ofNat 0)))).get 3 = _)
 have kf : Kp [3] fr FR := (Kp.set (by decide) Kp.refl).trans kpl
 rw [<- hlen] at bu9
 have gt := gtr0 xs.length
 rw [hbk, <- List.append_assoc]
 by_cases h0 : ts.length = 0
 ·rw [decide_eq_false (by omega)] at gt
  rw [if_pos h0, List.append_nil]
  refine ⟨?f1, s9, v9, ?x1, ?k1, ?v1, bu9, h09⟩
  case x1 => simp only [amE, reduceEqDiff, ↓reduceIte, reduceCtorEq, reduceAdd, g57_11, hloop, b00, b11, b22, b33, q3, faf, ld1f, hln s9, gt] <;> rfl
  case k1 => exact kf.trans (by repeat (first | exact Kp.refl | refine Kp.set (by decide) ?_))
  case v1 => simp only [Fr.get_set, reduceEqDiff, ↓reduceIte, g09]
 ·rw [decide_eq_true (by omega)] at gt
  rw [if_neg h0]
  have hpl := pk_len 123 ts ts.length
  have hcl' : (cm ts).length + 2 <= (brk 123 125 ts).length := hcl.resolve_right (fun e => h0 (by rw [e]; rfl))
  obtain ⟨v4, s4, ha, h5, k5⟩ := bu9.app (s := [125]) (Nat.le_trans hlo h09.1) (by simp) (by simp only [List.length_append, List.length_cons, List.length_nil]; omega)
  refine ⟨?f2, _, v4, ?x2, ?k2, ?v2, h5, h09.trans k5⟩
  case x2 => simp only [amE, reduceEqDiff, ↓reduceIte, reduceCtorEq, reduceAdd, g57_11, g57_12, hloop, b00, b11, b22, b33, q3, g09, faf, ld1f, hln s9, gt, bs1u, cn1u, ha] <;> rfl
  case k2 => exact kf.trans (by repeat (first | exact Kp.refl | refine Kp.set (by decide) ?_))
  case v2 => simp only [Fr.get_set, reduceEqDiff, ↓reduceIte]
theorem lp57b {m lo : Nat} {Y : Yenv} {F : Nat -> Prop} {fr : Fr} {st : St} {l : List Nat} {v slv x0 x1 x2 : AV} {xs : List (List AV)} {ts : List (List Nat)} (T : MCode)
  (g0 : fr.get 0 = some v) (g3 : fr.get 3 = some (.fptr [x0, x1, x2] 0)) (hv : x2 = slv) (h : Bu lo st v l) (hlo : lo <= st.next) (hsl : SlR F st slv xs) (hF : ∀ i, F i -> i < lo) (hlen : ts.length = xs.length) (hn : xs.length < m) (hb : l.length + (brk 40 41 ts).length <= 140737488355328)
  (hg : ∀ (k : Nat) (x : List AV) (t : List Nat), xs[k]? = some x -> ts[k]? = some t -> ∀ s v' l', Bu lo s v' l' -> KLo lo st s -> l'.length + t.length <= 140737488355328 -> ∃ v2 s', R m Y 57 [v', .agg x] s = .ret v2 s' /\ Bu lo s' v2 (l' ++ t) /\ KLo lo s s') :
  ∃ FR s' v2, acode (gT m) Y m (.seq (.seq (.region [⟨(some 6), .mv (.c (.int .i64 (.ofNat 0))), none⟩]) (.block 2 (.loop (lb2 45 6 46 47 2 3 cf57_1 bf57_1)))) (.seq (.seq (.region g57_14) (.cond (.t 66) (.region g57_15) .skip)) T)) none fr st = acode (gT m) Y m T none FR s' /\ Kp [3] fr FR /\ FR.get 0 = some v2 /\ Bu lo s' v2 (l ++ brk 40 41 ts) /\ KLo lo st s' := by
 have b00 : Nat.beq 0 0 = true := rfl
 have b11 : Nat.beq 1 1 = true := rfl
 have b22 : Nat.beq 2 2 = true := rfl
 have b33 : Nat.beq 3 3 = true := rfl
 have hln := fun s => hsl.len s
 have same : ∀ {s : St}, KLo lo st s -> Same F st s := fun k => k.same hF
 have hbk := pk_brk 40 41 ts
 have hcl : (cm ts).length + 2 <= (brk 40 41 ts).length \/ ts = [] := by
  cases ts with
  | nil => exact .inr rfl
  | cons t ts => left; simp only [brk, List.length_cons, List.length_append, List.length_nil]; omega
 subst hv
 obtain ⟨FR, s9, hloop, kpl, ⟨h09, v9, g09, bu9⟩⟩ : ∃ FR s9, aloop (acode (gT m) Y m (lb2 45 6 46 47 2 3 cf57_1 bf57_1) none) m (fr.set 6 (some (.int .i64 (.ofNat 0)))) st = .exit 2 FR s9 /\ Kp [3] (fr.set 6 (some (.int .i64 (.ofNat 0)))) FR /\ (KLo lo st s9 /\ ∃ v', FR.get 0 = some v' /\ Bu lo s9 v' (l ++ pk 40 ts xs.length)) := by
  rcases floop (Γ := (gT m)) (Y := Y) (m := m) (N := xs.length) (c := 45) (i := 6) (j1 := 46) (j2 := 47) (b := 2) (b1 := 3) (ro := none) (C := cf57_1) (B := bf57_1) (L := [3]) (fr0 := fr.set 6 (some (.int .i64 (.ofNat 0)))) (Post := fun _ _ => False) (by decide) (by decide) (by decide) hsl.2.1
   (Q := fun k fr' s => KLo lo st s /\ ∃ v', fr'.get 0 = some v' /\ Bu lo s v' (l ++ pk 40 ts k))
   (fun k fr' s q w hs ⟨h1, v', h2, h3⟩ => ⟨h1, v', by rcases hs with rfl | rfl | rfl <;> (rw [Fr.get_set, if_neg (by decide)]; exact h2), h3⟩)
   (fun k fr' s hk hp gi ⟨h1, v', h2, h3⟩ => by
    have q3 := hp.at (k := 3) (by decide) (gn g3 : (fr.set 6 (some (.int .i64 (.ofNat 0)))).get 3 = _)
    refine ⟨?fc, ?xc, ?kc, ?cc, h1, v', ?vc, h3⟩
    case xc => simp only [amE, reduceEqDiff, ↓reduceIte, reduceCtorEq, reduceAdd, cf57_1, q3, gi, faf, ld2f, hln s, lssN] <;> rfl
    case kc => repeat (first | exact Kp.refl | refine Kp.set (by decide) ?_)
    case cc => simp only [Fr.get_set, reduceEqDiff, ↓reduceIte]
    case vc => simp only [Fr.get_set, reduceEqDiff, ↓reduceIte, h2])
   (fun k fr' s hk hp gi ⟨h1, v', h2, h3⟩ => by
    left
    have q3 := hp.at (k := 3) (by decide) (gn g3 : (fr.set 6 (some (.int .i64 (.ofNat 0)))).get 3 = _)
    obtain ⟨x, hx, _⟩ := drop_at hk
    obtain ⟨t, ht, _⟩ := drop_at (l := ts) (k := k) (by omega)
    have hps := pk_succ (o := 40) ht
    have hpl := pk_len 40 ts (k + 1)
    have hcl' : (cm ts).length + 2 <= (brk 40 41 ts).length := hcl.resolve_right (fun e => by subst e; simp at ht)
    rw [hps] at hpl
    simp only [List.length_append, List.length_cons, List.length_nil] at hpl
    obtain ⟨v4, s4, ha, h5, k5⟩ := h3.app (s := [if k = 0 then 40 else 44]) (Nat.le_trans hlo h1.1) (by simp) (by simp only [List.length_append, List.length_cons, List.length_nil]; omega)
    have k6 := h1.trans k5
    obtain ⟨pp, hia, hld⟩ := hsl.at hx
    have ld := hld _ (same k6)
    obtain ⟨v6, s6, hc6, h7, k7⟩ := hg k x t hx ht _ v4 _ h5 k6 (by simp only [List.length_append, List.length_cons, List.length_nil]; omega)
    have e0 := eql0 k
    rw [hps, <- List.append_assoc, <- List.append_assoc]
    by_cases hk0 : k = 0
    ·rw [decide_eq_true hk0] at e0
     rw [if_pos hk0] at ha h7
     refine ⟨?fa, s6, ?xa, ?ka, k6.trans k7, v6, ?va, by rw [if_pos hk0]; exact h7⟩
     case xa =>
      simp only [amE, reduceEqDiff, ↓reduceIte, reduceCtorEq, reduceAdd, bf57_1, g57_5, g57_6, g57_7, gi, h2, q3, e0, bs1u, cn1u, ha, faf, ld2f, hia, ld, cg_fn, hc6] <;> rfl
     case ka => repeat (first | exact Kp.refl | refine Kp.set (by decide) ?_)
     case va => simp only [Fr.get_set, reduceEqDiff, ↓reduceIte]
    ·rw [decide_eq_false hk0] at e0
     rw [if_neg hk0] at ha h7
     refine ⟨?fb, s6, ?xb, ?kb, k6.trans k7, v6, ?vb, by rw [if_neg hk0]; exact h7⟩
     case xb =>
      simp only [amE, reduceEqDiff, ↓reduceIte, reduceCtorEq, reduceAdd, bf57_1, g57_5, g57_6, g57_7, gi, h2, q3, e0, bs1u, cn1u, ha, faf, ld2f, hia, ld, cg_fn, hc6] <;> rfl
     case kb => repeat (first | exact Kp.refl | refine Kp.set (by decide) ?_)
     case vb => simp only [Fr.get_set, reduceEqDiff, ↓reduceIte])
   xs.length 0 (fr.set 6 (some (.int .i64 (.ofNat 0)))) st m (by omega) hn Kp.refl gh ⟨KLo.refl lo st, v, gn g0, by simpa [pk] using h⟩ with h | ⟨_, _, _, h⟩
  ·exact h
  ·exact h.elim
 have q3 := kpl.at (k := 3) (by decide) (gn g3 : (fr.set 6 (some (.int .i64 (.ofNat 0)))).get 3 = _)
 have kf : Kp [3] fr FR := (Kp.set (by decide) Kp.refl).trans kpl
 rw [<- hlen] at bu9
 have gt := gtr0 xs.length
 rw [hbk, <- List.append_assoc]
 by_cases h0 : ts.length = 0
 ·rw [decide_eq_false (by omega)] at gt
  rw [if_pos h0, List.append_nil]
  refine ⟨?f1, s9, v9, ?x1, ?k1, ?v1, bu9, h09⟩
  case x1 => simp only [amE, reduceEqDiff, ↓reduceIte, reduceCtorEq, reduceAdd, g57_14, hloop, b00, b11, b22, b33, q3, faf, ld2f, hln s9, gt] <;> rfl
  case k1 => exact kf.trans (by repeat (first | exact Kp.refl | refine Kp.set (by decide) ?_))
  case v1 => simp only [Fr.get_set, reduceEqDiff, ↓reduceIte, g09]
 ·rw [decide_eq_true (by omega)] at gt
  rw [if_neg h0]
  have hpl := pk_len 40 ts ts.length
  have hcl' : (cm ts).length + 2 <= (brk 40 41 ts).length := hcl.resolve_right (fun e => h0 (by rw [e]; rfl))
  obtain ⟨v4, s4, ha, h5, k5⟩ := bu9.app (s := [41]) (Nat.le_trans hlo h09.1) (by simp) (by simp only [List.length_append, List.length_cons, List.length_nil]; omega)
  refine ⟨?f2, _, v4, ?x2, ?k2, ?v2, h5, h09.trans k5⟩
  case x2 => simp only [amE, reduceEqDiff, ↓reduceIte, reduceCtorEq, reduceAdd, g57_14, g57_15, hloop, b00, b11, b22, b33, q3, g09, faf, ld2f, hln s9, gt, bs1u, cn1u, ha] <;> rfl
  case k2 => exact kf.trans (by repeat (first | exact Kp.refl | refine Kp.set (by decide) ?_))
  case v2 => simp only [Fr.get_set, reduceEqDiff, ↓reduceIte]
theorem rval_run (t : Tm) : ∀ (n : Nat) (Y : Yenv) (F : Nat -> Prop) (st : St) (cs : List AV) (lo : Nat) (l : List Nat) (v : AV), RepT F st t cs -> (∀ i, F i -> i < lo) -> lo <= st.next -> Bu lo st v l -> t.i6 -> l.length + (txT t).length <= 140737488355328 -> t.fz <= n ->
  ∃ v' s', R n Y 88 [v, .agg cs] st = .ret v' s' /\ Bu lo s' v' (l ++ txT t) /\ KLo lo st s' := by
 induction hs : t.fz using Nat.strongRecOn generalizing t with
 | _ s ih =>
 intro n Y F st cs lo l v hr hF hlo h hi hb hn
 cases t with
 | mk k0 n0 nl ex ts =>
 simp only [RepT] at hr
 obtain ⟨sv, xs, rfl, hsl, hrs⟩ := hr
 simp only [Tm.fz] at hs
 simp only [Tm.i6] at hi
 simp only [txT] at hb ⊢
 simp only [List.length_append] at hb
 have hxl := hrs.len
 obtain ⟨m, rfl⟩ : ∃ m, n = m + 2 := ⟨n - 2, by omega⟩
 have hit := itoa_at m Y hi.1 st
 obtain ⟨v1, s1, ha, h1, k1⟩ := h.app hlo (itoaA_ne n0) (by omega)
 obtain ⟨fr1, hpre, q0, q3, qd⟩ : ∃ fr1, (∀ T, acode (gT (m + 1)) Y (m + 1) (.seq (.region [⟨(some 3), .box true (.t 1), none⟩, ⟨(some 4), .mv (.c .nilsl), none⟩]) (.seq (.region g88_5) T)) none (frOf 0 [v, .agg [.int .i64 k0, .int .i64 n0, sv]] Fr.nil) st = acode (gT (m + 1)) Y (m + 1) T none fr1 (tagA (some 5) v v1 s1)) /\ fr1.get 0 = some v1 /\ fr1.get 3 = some (.fptr [.int .i64 k0, .int .i64 n0, sv] 0) /\ fr1.ds = [] := by
  refine ⟨?f, fun T => ?x, ?a, ?b, ?c⟩
  case x => simp only [amE, reduceEqDiff, ↓reduceIte, reduceCtorEq, reduceAdd, g88_5, faf, ld1f, cg_fn, hit, cnstr, ha] <;> rfl
  case a => simp only [Fr.get_set, reduceEqDiff, ↓reduceIte]
  case b => simp only [Fr.get_set, reduceEqDiff, ↓reduceIte]
  case c => rfl
 obtain ⟨FR, s9, v9, hlp, kf, h09, bu9, k9⟩ := lp88 (m := m + 1) (Y := Y) (ts := txTs ts) (.seq (.region [⟨(some 40), .mv (.t 0), none⟩, ⟨(some 4), .mv (.t 40), none⟩]) .ret) q0 q3 rfl h1 (Nat.le_trans hlo k1.1) (hsl.mono (k1.same hF) fun _ h => h) hF (by rw [txTs_len, hxl]) (by omega) (by simp only [List.length_append]; omega)
  fun j x tx hx htx s' v' l' hbl hup hlen => by
   obtain ⟨t, ht, rfl⟩ := txTs_at htx
   obtain ⟨x', hx', hrx⟩ := hrs.at ht
   rw [hx] at hx'; injection hx' with hx'; subst hx'
   have hfz := Tm.fzL_mem (List.mem_of_getElem? ht)
   exact ih t.fz (by omega) t rfl (m + 1) Y F s' x lo l' v' (RepT.mono ((k1.same hF).trans (hup.same hF)) (fun _ h => h) t x hrx) hF (Nat.le_trans hlo (k1.trans hup).1) hbl (Tm.i6_at hi.2 ht) hlen (by omega)
 rw [List.append_assoc] at bu9
 refine ⟨v9, s9, fun_of (mf := kf88) (fr := ?g) t88 rfl (.inl ((hpre _).trans (hlp.trans ?y))) ?d ?r, bu9, k1.trans k9⟩
 case y => simp only [amE, reduceEqDiff, ↓reduceIte, reduceCtorEq, reduceAdd, h09] <;> rfl
 case d => exact kf.1.trans qd
 case r => simp only [kf88, amE, reduceEqDiff, ↓reduceIte]
theorem Text_run (t : Dv) : ∀ (n : Nat) (Y : Yenv) (F : Nat -> Prop) (st : St) (cs : List AV) (lo : Nat) (l : List Nat) (v : AV), RepD F st t cs -> (∀ i, F i -> i < lo) -> lo <= st.next -> Bu lo st v l -> t.i6 -> t.good gr = true -> l.length + (txD t).length <= 140737488355328 -> t.fz <= n ->
  ∃ v' s', R n Y 57 [v, .agg cs] st = .ret v' s' /\ Bu lo s' v' (l ++ txD t) /\ KLo lo st s' := by
 induction hs : t.fz using Nat.strongRecOn generalizing t with
 | _ s ih =>
 intro n Y F st cs lo l v hr hF hlo h hi hg hb hn
 cases t with
 | mk r0 nv ev vs nl ex ds =>
 simp only [RepD] at hr
 obtain ⟨s1v, x1, s2v, x2, rfl, hsl1, hrs1, hsl2, hrs2⟩ := hr
 simp only [Dv.fz] at hs
 simp only [Dv.i6] at hi
 simp only [txD] at hb ⊢
 simp only [List.length_append] at hb
 obtain ⟨g1, g2, _, _, _, g6⟩ := good_mk hg
 have hr64 : in64 r0 = true := by
  obtain ⟨u, rfl⟩ := Int.eq_ofNat_of_zero_le (show 0 <= r0 by omega)
  exact Nat.ble_eq_true_of_le (by omega)
 have hxl1 := hrs1.len
 have hxl2 := hrs2.len
 obtain ⟨m, rfl⟩ : ∃ m, n = m + 2 := ⟨n - 2, by omega⟩
 have hit := itoa_at m Y hr64 st
 obtain ⟨v1, s1, ha, h1, k1⟩ := h.app hlo (itoaA_ne r0) (by omega)
 obtain ⟨fr1, hpre, q0, q3, qd⟩ : ∃ fr1, (∀ T, acode (gT (m + 1)) Y (m + 1) (.seq (.region [⟨(some 3), .box true (.t 1), none⟩, ⟨(some 4), .mv (.c .nilsl), none⟩]) (.seq (.region g57_9) T)) none (frOf 0 [v, .agg [.int .i64 r0, s1v, s2v]] Fr.nil) st = acode (gT (m + 1)) Y (m + 1) T none fr1 (tagA (some 5) v v1 s1)) /\ fr1.get 0 = some v1 /\ fr1.get 3 = some (.fptr [.int .i64 r0, s1v, s2v] 0) /\ fr1.ds = [] := by
  refine ⟨?f, fun T => ?x, ?a, ?b, ?c⟩
  case x => simp only [amE, reduceEqDiff, ↓reduceIte, reduceCtorEq, reduceAdd, g57_9, faf, ld0f, cg_fn, hit, cnstr, ha] <;> rfl
  case a => simp only [Fr.get_set, reduceEqDiff, ↓reduceIte]
  case b => simp only [Fr.get_set, reduceEqDiff, ↓reduceIte]
  case c => rfl
 obtain ⟨FR, s9, v9, hlp, kf, h09, bu9, k9⟩ := lp57a (m := m + 1) (Y := Y) (ts := txTs vs) (.seq (.seq (.region [⟨(some 6), .mv (.c (.int .i64 (.ofNat 0))), none⟩]) (.block 2 (.loop (lb2 45 6 46 47 2 3 cf57_1 bf57_1)))) ( .seq (.seq (.region g57_14) (.cond (.t 66) (.region g57_15) .skip)) ( .seq (.region [⟨(some 70), .mv (.t 0), none⟩, ⟨(some 4), .mv (.t 70), none⟩]) (.ret)))) q0 q3 rfl h1 (Nat.le_trans hlo k1.1) (hsl1.mono (k1.same hF) fun _ h => h) hF (by rw [txTs_len, hxl1]) (by omega) (by simp only [List.length_append]; omega)
  fun j x tx hx htx s' v' l' hbl hup hlen => by
   obtain ⟨t, ht, rfl⟩ := txTs_at htx
   obtain ⟨x', hx', hrx⟩ := hrs1.at ht
   rw [hx] at hx'; injection hx' with hx'; subst hx'
   have hfz := Tm.fzL_mem (List.mem_of_getElem? ht)
   exact rval_run t (m + 1) Y F s' x lo l' v' (RepT.mono ((k1.same hF).trans (hup.same hF)) (fun _ h => h) t x hrx) hF (Nat.le_trans hlo (k1.trans hup).1) hbl (Tm.i6_at hi.1 ht) hlen (by omega)
 have k19 := k1.trans k9
 obtain ⟨FR2, s10, v10, hlp2, kf2, h10, bu10, k10⟩ := lp57b (m := m + 1) (Y := Y) (ts := txDs ds) (.seq (.region [⟨(some 70), .mv (.t 0), none⟩, ⟨(some 4), .mv (.t 70), none⟩]) .ret) h09 (kf.at (k := 3) (by decide) q3) rfl bu9 (Nat.le_trans hlo k19.1) (hsl2.mono (k19.same hF) fun _ h => h) hF (by rw [txDs_len, hxl2]) (by omega) (by simp only [List.length_append]; omega)
  fun j x tx hx htx s' v' l' hbl hup hlen => by
   obtain ⟨t, ht, rfl⟩ := txDs_at htx
   obtain ⟨x', hx', hrx⟩ := hrs2.at ht
   rw [hx] at hx'; injection hx' with hx'; subst hx'
   have hm := List.mem_of_getElem? ht
   have hfz := Dv.fzL_mem hm
   exact ih t.fz (by omega) t rfl (m + 1) Y F s' x lo l' v' (RepD.mono ((k19.same hF).trans (hup.same hF)) (fun _ h => h) t x hrx) hF (Nat.le_trans hlo (k19.trans hup).1) hbl (Dv.i6_at hi.2 ht) (goodL_mem g6 t hm) hlen (by omega)
 rw [List.append_assoc, List.append_assoc, <- List.append_assoc (itoaA r0)] at bu10
 refine ⟨v10, s10, fun_of (mf := kf57) (fr := ?g) t57 rfl (.inl ((hpre _).trans (hlp.trans (hlp2.trans ?y)))) ?d ?r, bu10, k19.trans k10⟩
 case y => simp only [amE, reduceEqDiff, ↓reduceIte, reduceCtorEq, reduceAdd, h10] <;> rfl
 case d => exact kf2.1.trans (kf.1.trans qd)
 case r => simp only [kf57, amE, reduceEqDiff, ↓reduceIte]
theorem rWrite_run (d : Dv) (n : Nat) (Y : Yenv) (F : Nat -> Prop) (st : St) (cs : List AV) (hr : RepD F st d cs) (hF : ∀ i, F i -> i < st.next) (hi : d.i6) (hn : d.fz + 4102 <= n) :
  ∃ st', R n Y 22 [.agg cs] st = .ret (.tuple [.str (wrS d), .int .i64 (.ofNat (wrE d))]) st' /\ Keeps st st' := by
 obtain ⟨m, rfl⟩ : ∃ m, n = m + 1 := ⟨n - 1, by omega⟩
 have hc3 := hr.cells3
 have ld3 : ∀ s, loadA true 3 s (.fptr cs 0) = some (.agg cs) := fun s => by
  simp only [loadA, cellsAt, Option.bind_some, List.drop_zero, ofCells, cond_true]
  rw [List.take_of_length_le (by omega), hc3.1]; rfl
 obtain ⟨s1, hd, k1⟩ := rIsD_run d m Y F st cs hr hF (by omega)
 unfold wrS wrE
 by_cases hdv : isDv d = true
 ·rw [hdv] at hd
  rw [if_pos hdv, if_pos hdv]
  obtain ⟨hg, hsz, _⟩ := (isDv_iff d).1 hdv
  have hlen := txD_len d hi hg
  have hF1 : ∀ i, F i -> i < s1.next := fun i h => Nat.lt_of_lt_of_le (hF i h) k1.1
  obtain ⟨v, s3, hw, bu3, up3⟩ := Text_run d m Y F s1 cs s1.next [] .nilsl (RepD.mono (Same.of k1 hF) (fun _ h => h) d cs hr) hF1 (Nat.le_refl _) (.inl ⟨rfl, rfl⟩) hi hg (by simp only [List.length_nil]; omega) (by omega)
  rw [List.nil_append] at bu3
  have hln := bu3.len s3
  have kp3 : Keeps st s3 := ⟨Nat.le_trans k1.1 up3.1, fun i hi => (up3.2 i (Nat.lt_of_lt_of_le hi k1.1)).trans (k1.2 i hi)⟩
  by_cases hl : (txD d).length > 100000
  ·rw [if_pos hl, if_pos hl]
   have gt : binB false .gtr (.int .i64 (.ofNat (txD d).length)) (.int .i64 (.ofNat 100000)) = some (.bool true) := by
    show some (AV.bool (decide ((Int.ofNat (txD d).length) > Int.ofNat 100000))) = _
    congr 2
    simp; omega
   refine ⟨s3, fun_of (mf := kf22) (fr := ?f0) t22 rfl (.inl ?x0) ?d0 ?r0, kp3⟩
   case x0 => simp only [amE, reduceEqDiff, ↓reduceIte, reduceCtorEq, reduceAdd, kf22, g22_1, g22_3, g22_4, cg_fn, ld3, hd, unN, hw, hln, gt, Bool.not_true, Bool.not_false] <;> rfl
   case d0 => rfl
   case r0 => rfl
  ·rw [if_neg hl, if_neg hl]
   have gt : binB false .gtr (.int .i64 (.ofNat (txD d).length)) (.int .i64 (.ofNat 100000)) = some (.bool false) := by
    show some (AV.bool (decide ((Int.ofNat (txD d).length) > Int.ofNat 100000))) = _
    congr 2
    simp; omega
   have bs : b2sA s3 v = some (.str (txD d)) := by
    have h8 := bytes_cel (txD d) (txD_8 d)
    rcases bu3 with ⟨rfl, he⟩ | ⟨id, rfl, _, _, hg⟩
    ·rw [he]; rfl
    ·have c1 : (0 + (txD d).length * 1).ble (cel (txD d)).length = true := Nat.ble_eq_true_of_le (by rw [cel_len]; omega)
     have c2 : ((cel (txD d)).drop 0).take ((txD d).length * 1) = cel (txD d) := by rw [List.drop_zero, List.take_of_length_le (by rw [cel_len]; omega)]
     simp only [b2sA, isStr, cond_false, contentA, hg, c1, c2, Nat.beq_refl, Bool.and_true, cond_true, Option.bind_some, h8, Option.map_some]
   refine ⟨s3, fun_of (mf := kf22) (fr := ?f1) t22 rfl (.inl ?x1) ?d1 ?r1, kp3⟩
   case x1 => simp only [amE, reduceEqDiff, ↓reduceIte, reduceCtorEq, reduceAdd, kf22, g22_1, g22_3, g22_4, g22_6, nd_b2s, cg_fn, ld3, hd, unN, hw, hln, gt, bs, Bool.not_true, Bool.not_false] <;> rfl
   case d1 => rfl
   case r1 => rfl
 ·have hdf : isDv d = false := by cases h : isDv d; rfl; exact absurd h hdv
  rw [hdf] at hd
  rw [if_neg hdv, if_neg hdv]
  refine ⟨s1, fun_of (mf := kf22) (fr := ?f2) t22 rfl (.inl ?x2) ?d2 ?r2, k1⟩
  case x2 => simp only [amE, reduceEqDiff, ↓reduceIte, reduceCtorEq, reduceAdd, kf22, g22_1, cg_fn, ld3, hd, unN, Bool.not_true, Bool.not_false] <;> rfl
  case d2 => rfl
  case r2 => rfl
end
end Go.AM.D16
