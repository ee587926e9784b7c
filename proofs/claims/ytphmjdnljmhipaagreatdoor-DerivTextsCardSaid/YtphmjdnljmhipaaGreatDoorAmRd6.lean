import Derived.Test.YtphmjdnljmhipaaGreatDoorAmRd5
set_option linter.unusedSimpArgs false
set_option linter.unusedVariables false
set_option maxRecDepth 100000
namespace Go.AM.D16
open Go Go.AM
noncomputable section
open Nat (reduceEqDiff reduceAdd)
theorem u8lss (a b : Nat) : binB false .lss (.int .u8 (.ofNat a)) (.int .u8 (.ofNat b)) = some (.bool (decide (a < b))) := by
 show some (AV.bool (decide ((Int.ofNat a) < Int.ofNat b))) = _
 congr 2; simp
theorem u8gtr (a b : Nat) : binB false .gtr (.int .u8 (.ofNat a)) (.int .u8 (.ofNat b)) = some (.bool (decide (b < a))) := by
 show some (AV.bool (decide ((Int.ofNat a) > Int.ofNat b))) = _
 congr 2; simp
theorem eqlNN (a b : Nat) : binB false .eql (.int .i64 (.ofNat a)) (.int .i64 (.ofNat b)) = some (.bool (decide (a = b))) := by
 show some (AV.bool (decide ((Int.ofNat a) = Int.ofNat b))) = _
 congr 2; simp; omega
def g93_0 : List MOper := [⟨(some 2), .mv (.c (.int .i64 (.ofNat 0))), none⟩]
def g93_1 : List (MOper × Nat) := [(⟨(some 5), .mv (.t 0), none⟩, 0), (⟨(some 6), .nilchk (.t 5), none⟩, 1), (⟨(some 7), .faddr 2 (.t 6), none⟩, 3), (⟨(some 8), .load false 1 (.t 7), none⟩, 7), (⟨(some 9), .mv (.t 8), none⟩, 15), (⟨(some 10), .mv (.t 0), (some (9, false))⟩, 31), (⟨(some 11), .nilchk (.t 10), (some (9, false))⟩, 63), (⟨(some 12), .faddr 1 (.t 11), (some (9, false))⟩, 127), (⟨(some 13), .load false 1 (.t 12), (some (9, false))⟩, 255), (⟨(some 14), .mv (.t 0), (some (9, false))⟩, 31), (⟨(some 15), .nilchk (.t 14), (some (9, false))⟩, 543), (⟨(some 16), .faddr 0 (.t 15), (some (9, false))⟩, 1567), (⟨(some 17), .load false 1 (.t 16), (some (9, false))⟩, 3615), (⟨(some 18), .len 1 (.t 17), (some (9, false))⟩, 7711), (⟨(some 19), .bin false .eql (.t 13) (.t 18), (some (9, false))⟩, 16383), (⟨(some 20), .pick (.t 9) (.c (.bool true)) (.t 19), none⟩, 32767), (⟨(some 21), .mv (.t 20), none⟩, 65535), (⟨(some 22), .mv (.t 0), (some (21, false))⟩, 131071), (⟨(some 23), .nilchk (.t 22), (some (21, false))⟩, 262143), (⟨(some 24), .faddr 0 (.t 23), (some (21, false))⟩, 524287), (⟨(some 25), .load false 1 (.t 24), (some (21, false))⟩, 1048575), (⟨(some 26), .mv (.t 0), (some (21, false))⟩, 131071), (⟨(some 27), .nilchk (.t 26), (some (21, false))⟩, 2228223), (⟨(some 28), .faddr 1 (.t 27), (some (21, false))⟩, 6422527), (⟨(some 29), .load false 1 (.t 28), (some (21, false))⟩, 14811135), (⟨(some 30), .sidx (.t 25) (.t 29), (some (21, false))⟩, 33554431), (⟨(some 31), .bin false .lss (.t 30) (.c (.int .u8 (.ofNat 48))), (some (21, false))⟩, 67108863), (⟨(some 32), .pick (.t 21) (.c (.bool true)) (.t 31), none⟩, 134217727), (⟨(some 33), .mv (.t 32), none⟩, 268435455), (⟨(some 34), .mv (.t 0), (some (33, false))⟩, 536870911), (⟨(some 35), .nilchk (.t 34), (some (33, false))⟩, 1073741823), (⟨(some 36), .faddr 0 (.t 35), (some (33, false))⟩, 2147483647), (⟨(some 37), .load false 1 (.t 36), (some (33, false))⟩, 4294967295), (⟨(some 38), .mv (.t 0), (some (33, false))⟩, 536870911), (⟨(some 39), .nilchk (.t 38), (some (33, false))⟩, 9126805503), (⟨(some 40), .faddr 1 (.t 39), (some (33, false))⟩, 26306674687), (⟨(some 41), .load false 1 (.t 40), (some (33, false))⟩, 60666413055), (⟨(some 42), .sidx (.t 37) (.t 41), (some (33, false))⟩, 137438953471), (⟨(some 43), .bin false .gtr (.t 42) (.c (.int .u8 (.ofNat 57))), (some (33, false))⟩, 274877906943), (⟨(some 44), .pick (.t 33) (.c (.bool true)) (.t 43), none⟩, 549755813887)]
def g93_2 : List MOper := [⟨(some 45), .mv (.t 0), none⟩, ⟨(some 46), .nilchk (.t 45), none⟩, ⟨(some 47), .faddr 2 (.t 46), none⟩, ⟨none, .store 1 (.t 47) (.c (.bool true)), none⟩]
def g93_3 : List MOper := [⟨(some 2), .mv (.c (.int .i64 (.ofNat 0))), none⟩]
def g93_4 : List MOper := [⟨(some 3), .mv (.c (.int .i64 (.ofNat 0))), none⟩]
def g93_5 : List MOper := [⟨(some 4), .mv (.c (.int .i64 (.ofNat 0))), none⟩]
def g93_6 : List (MOper × Nat) := [(⟨(some 48), .mv (.t 4), none⟩, 0), (⟨(some 49), .bin false .lss (.t 48) (.c (.int .i64 (.ofNat 9))), none⟩, 1), (⟨(some 50), .mv (.t 49), none⟩, 3), (⟨(some 51), .mv (.t 0), (some (50, true))⟩, 7), (⟨(some 52), .nilchk (.t 51), (some (50, true))⟩, 15), (⟨(some 53), .faddr 1 (.t 52), (some (50, true))⟩, 31), (⟨(some 54), .load false 1 (.t 53), (some (50, true))⟩, 63), (⟨(some 55), .mv (.t 0), (some (50, true))⟩, 7), (⟨(some 56), .nilchk (.t 55), (some (50, true))⟩, 135), (⟨(some 57), .faddr 0 (.t 56), (some (50, true))⟩, 391), (⟨(some 58), .load false 1 (.t 57), (some (50, true))⟩, 903), (⟨(some 59), .len 1 (.t 58), (some (50, true))⟩, 1927), (⟨(some 60), .bin false .lss (.t 54) (.t 59), (some (50, true))⟩, 4095), (⟨(some 61), .pick (.t 50) (.t 60) (.c (.bool false)), none⟩, 8191), (⟨(some 62), .mv (.t 61), none⟩, 16383), (⟨(some 63), .mv (.t 0), (some (62, true))⟩, 32767), (⟨(some 64), .nilchk (.t 63), (some (62, true))⟩, 65535), (⟨(some 65), .faddr 0 (.t 64), (some (62, true))⟩, 131071), (⟨(some 66), .load false 1 (.t 65), (some (62, true))⟩, 262143), (⟨(some 67), .mv (.t 0), (some (62, true))⟩, 32767), (⟨(some 68), .nilchk (.t 67), (some (62, true))⟩, 557055), (⟨(some 69), .faddr 1 (.t 68), (some (62, true))⟩, 1605631), (⟨(some 70), .load false 1 (.t 69), (some (62, true))⟩, 3702783), (⟨(some 71), .sidx (.t 66) (.t 70), (some (62, true))⟩, 8388607), (⟨(some 72), .bin false .geq (.t 71) (.c (.int .u8 (.ofNat 48))), (some (62, true))⟩, 16777215), (⟨(some 73), .pick (.t 62) (.t 72) (.c (.bool false)), none⟩, 33554431), (⟨(some 74), .mv (.t 73), none⟩, 67108863), (⟨(some 75), .mv (.t 0), (some (74, true))⟩, 134217727), (⟨(some 76), .nilchk (.t 75), (some (74, true))⟩, 268435455), (⟨(some 77), .faddr 0 (.t 76), (some (74, true))⟩, 536870911), (⟨(some 78), .load false 1 (.t 77), (some (74, true))⟩, 1073741823), (⟨(some 79), .mv (.t 0), (some (74, true))⟩, 134217727), (⟨(some 80), .nilchk (.t 79), (some (74, true))⟩, 2281701375), (⟨(some 81), .faddr 1 (.t 80), (some (74, true))⟩, 6576668671), (⟨(some 82), .load false 1 (.t 81), (some (74, true))⟩, 15166603263), (⟨(some 83), .sidx (.t 78) (.t 82), (some (74, true))⟩, 34359738367), (⟨(some 84), .bin false .leq (.t 83) (.c (.int .u8 (.ofNat 57))), (some (74, true))⟩, 68719476735), (⟨(some 85), .pick (.t 74) (.t 84) (.c (.bool false)), none⟩, 137438953471), (⟨(some 86), .mv (.t 85), none⟩, 274877906943), (⟨(some 87), .mv (.t 4), (some (86, true))⟩, 549755813887), (⟨(some 88), .bin false .eql (.t 87) (.c (.int .i64 (.ofNat 0))), (some (86, true))⟩, 1099511627775), (⟨(some 89), .mv (.t 88), (some (86, true))⟩, 2199023255551), (⟨(some 90), .mv (.t 3), (some (89, false))⟩, 4398046511103), (⟨(some 91), .bin false .gtr (.t 90) (.c (.int .i64 (.ofNat 0))), (some (89, false))⟩, 8796093022207), (⟨(some 92), .pick (.t 89) (.c (.bool true)) (.t 91), (some (86, true))⟩, 17592186044415), (⟨(some 93), .pick (.t 86) (.t 92) (.c (.bool false)), none⟩, 35184372088831)]
def g93_7 : List (MOper × Nat) := [(⟨(some 96), .mv (.t 3), none⟩, 0), (⟨(some 97), .bin false .mul (.c (.int .i64 (.ofNat 10))) (.t 96), none⟩, 1), (⟨(some 98), .mv (.t 0), none⟩, 0), (⟨(some 99), .nilchk (.t 98), none⟩, 4), (⟨(some 100), .faddr 0 (.t 99), none⟩, 12), (⟨(some 101), .load false 1 (.t 100), none⟩, 28), (⟨(some 102), .mv (.t 0), none⟩, 0), (⟨(some 103), .nilchk (.t 102), none⟩, 64), (⟨(some 104), .faddr 1 (.t 103), none⟩, 192), (⟨(some 105), .load false 1 (.t 104), none⟩, 448), (⟨(some 106), .sidx (.t 101) (.t 105), none⟩, 1020), (⟨(some 107), .conv .i64 (.t 106), none⟩, 2044), (⟨(some 108), .bin false .add (.t 97) (.t 107), none⟩, 4095), (⟨(some 109), .bin false .sub (.t 108) (.c (.int .i64 (.ofNat 48))), none⟩, 8191), (⟨(some 3), .mv (.t 109), none⟩, 16383)]
def g93_8 : List MOper := [⟨(some 110), .mv (.t 0), none⟩, ⟨(some 111), .nilchk (.t 110), none⟩, ⟨(some 112), .faddr 1 (.t 111), none⟩, ⟨(some 113), .load false 1 (.t 112), none⟩, ⟨(some 114), .bin false .add (.t 113) (.c (.int .i64 (.ofNat 1))), none⟩, ⟨(some 115), .nilchk (.t 110), none⟩, ⟨(some 116), .faddr 1 (.t 115), none⟩, ⟨none, .store 1 (.t 116) (.t 114), none⟩]
def g93_9 : List MOper := [⟨(some 94), .mv (.t 4), none⟩, ⟨(some 95), .bin false .add (.t 94) (.c (.int .i64 (.ofNat 1))), none⟩, ⟨(some 4), .mv (.t 95), none⟩]
def g93_10 : List MOper := [⟨(some 117), .mv (.t 3), none⟩, ⟨(some 2), .mv (.t 117), none⟩]
def bl93_0 : MCode := (.seq (.seq (.draw g93_6 []) (.cond (.t 93) .skip (.exit 0))) (.seq (.block 1 (.seq (.draw g93_7 []) (.region g93_8))) (.region g93_9)))
def kf93 : MFunc := ⟨118, (.seq (.region g93_0) (.seq (.seq (.draw g93_1 []) (.cond (.t 44) (.seq (.region g93_2) (.seq (.region g93_3) .ret)) .skip)) (.seq (.region g93_4) (.seq (.seq (.region g93_5) (.block 0 (.loop bl93_0))) (.seq (.region g93_10) .ret))))), [.t 2]⟩
theorem t93 : tbl 93 = some kf93 := by kernel_rfl
theorem rnmL_run {m q : Nat} {Y : Yenv} {s : List Nat} (hl : s.length < 9223372036854775807) : ∀ (j i p n : Nat) (fr : Fr) (st : St) (fuel : Nat), j < fuel -> 11 <= i + j -> i <= 9 -> n < 10 ^ i -> Rgr q st s p false -> fr.get 0 = some (.ptr q 0) -> fr.get 3 = some (.int .i64 (.ofNat n)) -> fr.get 4 = some (.int .i64 (.ofNat i)) ->
  match nmL s j i p n with
  | .ok n' p' => ∃ FR st', aloop (acode (gT m) Y m bl93_0 none) fuel fr st = .exit 0 FR st' /\ FR.get 3 = some (.int .i64 (.ofNat n')) /\ FR.ds = fr.ds /\ Rgr q st' s p' false /\ Keep1 q st st' /\ st'.next = st.next
  | .err p' => ∃ FR st' n', aloop (acode (gT m) Y m bl93_0 none) fuel fr st = .exit 0 FR st' /\ FR.get 3 = some (.int .i64 (.ofNat n')) /\ FR.ds = fr.ds /\ Rgr q st' s p' false /\ Keep1 q st st' /\ st'.next = st.next /\ dgt s p' = true
 | 0, i, _, _, _, _, _, _, hij, hi, _, _, _, _, _ => by omega
 | j + 1, i, p, n, fr, st, 0, hf, _, _, _, _, _, _, _ => by omega
 | j + 1, i, p, n, fr, st, fuel + 1, hf, hij, hi, hn, h, g0, g3, g4 => by
  have b11 : Nat.beq 1 1 = true := rfl
  have l0 := ld0 h
  have l1 := ld1 h
  have lt := lssN p s.length
  have a9 := lssN i 9
  have z0 := eql0 i
  have n0 := gtrN n 0
  obtain ⟨f1, hA, kA, oA⟩ : ∃ fr', adraw ((gT m).cg Y) g93_6 [] fr st = .ok fr' st /\ Kp [0, 3, 4] fr fr' /\ fr'.get 93 = some (.bool (dgt s p && (decide (i < 9) && (decide (i = 0) || decide (0 < n))))) := by
   by_cases hp : p < s.length
   ·rw [decide_eq_true hp] at lt
    have hx : s[p]? = some (s[p]) := List.getElem?_eq_getElem hp
    have ix := sidx_at hx
    have hg : dgt s p = (decide (48 <= s[p]) && decide (s[p] <= 57)) := by unfold dgt; rw [hx]
    have c1 := u8geq s[p] 48
    have c2 := u8leq s[p] 57
    rw [hg]
    generalize decide (48 <= s[p]) = A at *
    generalize decide (s[p] <= 57) = B at *
    generalize decide (i < 9) = C at *
    generalize decide (i = 0) = D at *
    generalize decide (0 < n) = E at *
    cases C
    ·exact ⟨_, adraw_seq rfl (by simp only [amE, reduceEqDiff, ↓reduceIte, reduceCtorEq, reduceAdd, g93_6, nd_sidx, g0, g3, g4, a9] <;> rfl), Kp.refl.s.s.s.s.s.s.s.s.s.s.s.s.s.s.s.s.s.s.s.s.s.s.s.s.s.s.s.s.s.s.s.s.s.s.s.s.s.s.s.s.s.s.s.s.s.s, by simp only [Fr.get_set, reduceEqDiff, ↓reduceIte, Bool.false_and, Bool.and_false]⟩
    cases A
    ·exact ⟨_, adraw_seq rfl (by simp only [amE, reduceEqDiff, ↓reduceIte, reduceCtorEq, reduceAdd, g93_6, nd_sidx, g0, g3, g4, a9, fa0, fa1, ncp, l0, l1, lnS, lt, ix, c1] <;> rfl), Kp.refl.s.s.s.s.s.s.s.s.s.s.s.s.s.s.s.s.s.s.s.s.s.s.s.s.s.s.s.s.s.s.s.s.s.s.s.s.s.s.s.s.s.s.s.s.s.s, by simp only [Fr.get_set, reduceEqDiff, ↓reduceIte, Bool.false_and, Bool.and_false]⟩
    cases B
    ·exact ⟨_, adraw_seq rfl (by simp only [amE, reduceEqDiff, ↓reduceIte, reduceCtorEq, reduceAdd, g93_6, nd_sidx, g0, g3, g4, a9, fa0, fa1, ncp, l0, l1, lnS, lt, ix, c1, c2] <;> rfl), Kp.refl.s.s.s.s.s.s.s.s.s.s.s.s.s.s.s.s.s.s.s.s.s.s.s.s.s.s.s.s.s.s.s.s.s.s.s.s.s.s.s.s.s.s.s.s.s.s, by simp only [Fr.get_set, reduceEqDiff, ↓reduceIte, Bool.false_and, Bool.and_false]⟩
    cases D <;> cases E <;> exact ⟨_, adraw_seq rfl (by simp only [amE, reduceEqDiff, ↓reduceIte, reduceCtorEq, reduceAdd, g93_6, nd_sidx, g0, g3, g4, a9, fa0, fa1, ncp, l0, l1, lnS, lt, ix, c1, c2, z0, n0] <;> rfl), Kp.refl.s.s.s.s.s.s.s.s.s.s.s.s.s.s.s.s.s.s.s.s.s.s.s.s.s.s.s.s.s.s.s.s.s.s.s.s.s.s.s.s.s.s.s.s.s.s, by simp only [Fr.get_set, reduceEqDiff, ↓reduceIte, Bool.true_and, Bool.and_true, Bool.or_true, Bool.or_false, Bool.true_or, Bool.false_or]⟩
   ·rw [decide_eq_false hp] at lt
    have hg : dgt s p = false := by unfold dgt; rw [List.getElem?_eq_none (by omega)]
    rw [hg]
    generalize decide (i < 9) = C at *
    cases C <;> exact ⟨_, adraw_seq rfl (by simp only [amE, reduceEqDiff, ↓reduceIte, reduceCtorEq, reduceAdd, g93_6, nd_sidx, g0, g3, g4, a9, fa0, fa1, ncp, l0, l1, lnS, lt] <;> rfl), Kp.refl.s.s.s.s.s.s.s.s.s.s.s.s.s.s.s.s.s.s.s.s.s.s.s.s.s.s.s.s.s.s.s.s.s.s.s.s.s.s.s.s.s.s.s.s.s.s, by simp only [Fr.get_set, reduceEqDiff, ↓reduceIte, Bool.false_and]⟩
  unfold nmL
  cases hdg : dgt s p with
  | false =>
   rw [hdg, Bool.false_and] at oA
   rw [if_neg (by decide)]
   refine ⟨f1, st, ?_, kA.at (by decide) g3, kA.1, h, Keep1.refl q st, rfl⟩
   rw [aloop]
   simp only [amE, reduceEqDiff, ↓reduceIte, reduceCtorEq, reduceAdd, bl93_0, hA, oA]
  | true =>
   rw [hdg, Bool.true_and] at oA
   rw [if_pos rfl]
   obtain ⟨hx, h48, h57, hpl⟩ := dgt_ch hdg
   by_cases hbad : (0 < i /\ n = 0) \/ 9 <= i
   ·have ob : (decide (i < 9) && (decide (i = 0) || decide (0 < n))) = false := by
     cases hc : (decide (i < 9) && (decide (i = 0) || decide (0 < n))) with
     | false => rfl
     | true =>
      simp only [Bool.and_eq_true, Bool.or_eq_true, decide_eq_true_eq] at hc
      omega
    rw [ob] at oA
    rw [if_pos hbad]
    refine ⟨f1, st, n, ?_, kA.at (by decide) g3, kA.1, h, Keep1.refl q st, rfl, hdg⟩
    rw [aloop]
    simp only [amE, reduceEqDiff, ↓reduceIte, reduceCtorEq, reduceAdd, bl93_0, hA, oA]
   ·have ob : (decide (i < 9) && (decide (i = 0) || decide (0 < n))) = true := by
     simp only [Bool.and_eq_true, Bool.or_eq_true, decide_eq_true_eq]
     omega
    rw [ob] at oA
    rw [if_neg hbad]
    have r0 := kA.at (k := 0) (by decide) g0
    have r3 := kA.at (k := 3) (by decide) g3
    have r4 := kA.at (k := 4) (by decide) g4
    have ix := sidx_at hx
    have i9 : i < 9 := by omega
    have hpw : 10 ^ i <= 10 ^ 8 := Nat.pow_le_pow_right (by decide) (by omega)
    have m1 := mul10 (n := n) (by omega)
    have m2 := conv8 (ch s p) (by omega)
    have m3 := addN (a := 10 * n) (b := ch s p) (by omega)
    have m4 := subN (a := 10 * n + ch s p) (b := 48) (by omega) (by omega)
    have e4 : 10 * n + ch s p - 48 = 10 * n + (ch s p - 48) := by omega
    rw [e4] at m4
    obtain ⟨f3, hC, kC, oC⟩ : ∃ fr', adraw ((gT m).cg Y) g93_7 [] f1 st = .ok fr' st /\ Kp [0, 4] f1 fr' /\ fr'.get 3 = some (.int .i64 (.ofNat (10 * n + (ch s p - 48)))) := ⟨_, adraw_seq rfl (by simp only [amE, reduceEqDiff, ↓reduceIte, reduceCtorEq, reduceAdd, g93_7, nd_sidx, nd_conv, r0, r3, ncp, fa0, fa1, l0, l1, ix, m1, m2, m3, m4] <;> rfl), Kp.refl.s.s.s.s.s.s.s.s.s.s.s.s.s.s.s, gh⟩
    have ad := add1 (i := p) (by omega)
    have sto := st31 (k := .i64) (v := .ofNat (p + 1)) h
    have s0 := kC.at (k := 0) (by decide) r0
    obtain ⟨s4, hs4⟩ : ∃ s4, s4 = st.put q (.row [.str s, .int .i64 (.ofNat (p + 1)), .bool false]) := ⟨_, rfl⟩
    rw [<- hs4] at sto
    have h4 : Rgr q s4 s (p + 1) false := by unfold Rgr; rw [hs4, St.get_put, if_pos rfl]
    have k4 : Keep1 q st s4 := by rw [hs4]; exact Keep1.put q st _
    obtain ⟨f4, hD, kD⟩ : ∃ fr', arun ((gT m).cg Y) g93_8 f3 st = .ok fr' s4 /\ Kp [0, 3, 4] f3 fr' := ⟨_, by simp only [amE, reduceEqDiff, ↓reduceIte, reduceCtorEq, reduceAdd, g93_8, s0, ncp, fa1, l1, ad, sto] <;> rfl, Kp.refl.s.s.s.s.s.s.s⟩
    have s4k := kD.at (k := 4) (by decide) (kC.at (k := 4) (by decide) r4)
    have ai := add1 (i := i) (by omega)
    obtain ⟨f5, hE, kE, oE⟩ : ∃ fr', arun ((gT m).cg Y) g93_9 f4 s4 = .ok fr' s4 /\ Kp [0, 3] f4 fr' /\ fr'.get 4 = some (.int .i64 (.ofNat (i + 1))) := ⟨_, by simp only [amE, reduceEqDiff, ↓reduceIte, reduceCtorEq, reduceAdd, g93_9, s4k, ai] <;> rfl, Kp.refl.s.s.s, gh⟩
    have hst : acode (gT m) Y m bl93_0 none fr st = .norm f5 s4 := by simp only [amE, reduceEqDiff, ↓reduceIte, reduceCtorEq, reduceAdd, bl93_0, b11, hA, oA, hC, hD, hE]
    have ih := rnmL_run (m := m) (Y := Y) hl j (i + 1) (p + 1) (10 * n + (ch s p - 48)) f5 s4 fuel (by omega) (by omega) (by omega) (by rw [Nat.pow_succ]; omega) h4 (kE.at (k := 0) (by decide) (kD.at (k := 0) (by decide) s0)) (kE.at (k := 3) (by decide) (kD.at (k := 3) (by decide) oC)) oE
    have hds : f5.ds = fr.ds := kE.1.trans (kD.1.trans (kC.1.trans kA.1))
    have n4 : s4.next = st.next := by rw [hs4]; rfl
    rw [aloop, hst]
    cases hnm : nmL s j (i + 1) (p + 1) (10 * n + (ch s p - 48)) with
    | ok n' p' =>
     rw [hnm] at ih
     obtain ⟨FR, s9, e1, e2, e3, e4, e5, e6⟩ := ih
     exact ⟨FR, s9, e1, e2, e3.trans hds, e4, k4.trans e5, e6.trans n4⟩
    | err p' =>
     rw [hnm] at ih
     obtain ⟨FR, s9, n', e1, e2, e3, e4, e5, e6, e7⟩ := ih
     exact ⟨FR, s9, n', e1, e2, e3.trans hds, e4, k4.trans e5, e6.trans n4, e7⟩
theorem rnum_run {q : Nat} {st : St} {s : List Nat} {p : Nat} (h : Rgr q st s p false) (hp : p <= s.length) (hl : s.length < 9223372036854775807) (n : Nat) (Y : Yenv) (hn : 12 <= n) :
  match nm s p with
  | .ok x p' => ∃ st', R (n + 1) Y 93 [.ptr q 0] st = .ret (.int .i64 (.ofNat x)) st' /\ Rgr q st' s p' false /\ Keep1 q st st' /\ st'.next = st.next
  | .err p' => ∃ st' x b, R (n + 1) Y 93 [.ptr q 0] st = .ret (.int .i64 (.ofNat x)) st' /\ Rgr q st' s p' b /\ (b = true \/ dgt s p' = true) /\ Keep1 q st st' /\ st'.next = st.next := by
 have b00 : Nat.beq 0 0 = true := rfl
 have l0 := ld0 h
 have l1 := ld1 h
 have l2 := ld2 h
 have e1 := eqlNN p s.length
 obtain ⟨f1, hA, gA0, gA, dA⟩ : ∃ fr', adraw ((gT n).cg Y) g93_1 [] ((({ t := Tr.nil, ds := [] } : Fr).set 0 (some (.ptr q 0))).set 2 (some (.int .i64 (.ofNat 0)))) st = .ok fr' st /\ fr'.get 0 = some (.ptr q 0) /\ fr'.get 44 = some (.bool (!dgt s p)) /\ fr'.ds = [] := by
  by_cases hpl : p < s.length
  ·rw [decide_eq_false (by omega)] at e1
   have hx : s[p]? = some (s[p]) := List.getElem?_eq_getElem hpl
   have ix := sidx_at hx
   have hg : (!dgt s p) = (decide (s[p] < 48) || decide (57 < s[p])) := by
    unfold dgt; rw [hx]
    simp only [Bool.not_and]
    congr 1
    ·rw [<- decide_not]; congr 1; simp
    ·rw [<- decide_not]; congr 1; simp
   have c1 := u8lss s[p] 48
   have c2 := u8gtr s[p] 57
   rw [hg]
   generalize decide (s[p] < 48) = A at *
   generalize decide (57 < s[p]) = B at *
   cases A <;> cases B <;> exact ⟨_, adraw_seq rfl (by simp only [amE, reduceEqDiff, ↓reduceIte, reduceCtorEq, reduceAdd, g93_1, nd_sidx, Bool.not_true, Bool.not_false, fa0, fa1, fa2, ncp, l0, l1, l2, lnS, e1, ix, c1, c2] <;> rfl), by simp only [Fr.get_set, reduceEqDiff, ↓reduceIte], by simp only [Fr.get_set, reduceEqDiff, ↓reduceIte, Bool.true_or, Bool.false_or, Bool.or_true, Bool.or_false], rfl⟩
  ·rw [decide_eq_true (by omega)] at e1
   have hg : dgt s p = false := by unfold dgt; rw [List.getElem?_eq_none (by omega)]
   rw [hg]
   exact ⟨_, adraw_seq rfl (by simp only [amE, reduceEqDiff, ↓reduceIte, reduceCtorEq, reduceAdd, g93_1, nd_sidx, Bool.not_true, Bool.not_false, fa0, fa1, fa2, ncp, l0, l1, l2, lnS, e1] <;> rfl), by simp only [Fr.get_set, reduceEqDiff, ↓reduceIte], by simp only [Fr.get_set, reduceEqDiff, ↓reduceIte, Bool.not_false], rfl⟩
 unfold nm
 cases hdg : dgt s p with
 | false =>
  rw [hdg] at gA
  rw [if_neg (by decide)]
  have sto := st3b (v := true) h
  refine ⟨_, 0, true, fun_of (mf := kf93) (fr := ?f0) t93 rfl (.inl ?x0) ?d0 ?r0, by unfold Rgr; rw [St.get_put, if_pos rfl], .inl rfl, Keep1.put q st _, rfl⟩
  case x0 => simp only [amE, reduceEqDiff, ↓reduceIte, reduceCtorEq, reduceAdd, kf93, g93_0, hA, gA0, gA, Bool.not_false, g93_2, g93_3, ncp, fa2, sto] <;> rfl
  case d0 => exact dA
  case r0 => simp only [kf93, amE, reduceEqDiff, ↓reduceIte]
 | true =>
  rw [hdg] at gA
  rw [if_pos rfl]
  obtain ⟨f2, hB, kB, oB3⟩ : ∃ fr', arun ((gT n).cg Y) g93_4 f1 st = .ok fr' st /\ Kp [0] f1 fr' /\ fr'.get 3 = some (.int .i64 (.ofNat 0)) := ⟨_, by simp only [amE, reduceEqDiff, ↓reduceIte, reduceCtorEq, reduceAdd, g93_4] <;> rfl, Kp.refl.s, gh⟩
  obtain ⟨f3, hC, kC, oC4⟩ : ∃ fr', arun ((gT n).cg Y) g93_5 f2 st = .ok fr' st /\ Kp [0, 3] f2 fr' /\ fr'.get 4 = some (.int .i64 (.ofNat 0)) := ⟨_, by simp only [amE, reduceEqDiff, ↓reduceIte, reduceCtorEq, reduceAdd, g93_5] <;> rfl, Kp.refl.s, gh⟩
  have hds : f3.ds = [] := kC.1.trans (kB.1.trans dA)
  have key := rnmL_run (m := n) (q := q) (Y := Y) hl 11 0 p 0 f3 st n (by omega) (by omega) (by omega) (by decide) h (kC.at (k := 0) (by decide) (kB.at (k := 0) (by decide) gA0)) (kC.at (k := 3) (by decide) oB3) oC4
  cases hnm : nmL s 11 0 p 0 with
  | ok x p' =>
   rw [hnm] at key
   obtain ⟨FR, s9, e1, e2, e3, e4, e5, e6⟩ := key
   refine ⟨s9, fun_of (mf := kf93) (fr := ?f1) t93 rfl (.inl ?x1) ?d1 ?r1, e4, e5, e6⟩
   case x1 => simp only [amE, reduceEqDiff, ↓reduceIte, reduceCtorEq, reduceAdd, kf93, g93_0, hA, gA, Bool.not_true, hB, hC, e1, b00, g93_10, e2] <;> rfl
   case d1 => exact e3.trans hds
   case r1 => simp only [kf93, amE, reduceEqDiff, ↓reduceIte]
  | err p' =>
   rw [hnm] at key
   obtain ⟨FR, s9, x, e1, e2, e3, e4, e5, e6, e7⟩ := key
   refine ⟨s9, x, false, fun_of (mf := kf93) (fr := ?f2) t93 rfl (.inl ?x2) ?d2 ?r2, e4, .inr e7, e5, e6⟩
   case x2 => simp only [amE, reduceEqDiff, ↓reduceIte, reduceCtorEq, reduceAdd, kf93, g93_0, hA, gA, Bool.not_true, hB, hC, e1, b00, g93_10, e2] <;> rfl
   case d2 => exact e3.trans hds
   case r2 => simp only [kf93, amE, reduceEqDiff, ↓reduceIte]
end
end Go.AM.D16
