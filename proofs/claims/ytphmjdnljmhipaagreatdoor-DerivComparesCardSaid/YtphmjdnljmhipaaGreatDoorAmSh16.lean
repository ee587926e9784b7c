import Derived.Test.YtphmjdnljmhipaaGreatDoorAmSh15
import Derived.Test.YtphmjdnljmhipaaGreatDoorAmSh7
set_option linter.unusedSimpArgs false
set_option linter.unusedVariables false
set_option maxRecDepth 100000
namespace Go.AM.D16
open Go Go.AM
noncomputable section
open Nat (reduceEqDiff reduceAdd)
def PL (d e x : Dv) (b : Bool) : Prop := ∀ y c, Bh d e y c -> c = b /\ (b = true -> cmpD y x = 0)
theorem cmpD_zero (r : Int) (a b : Bool) (vs : List Tm) (c d : Bool) (l : List Dv) (r' : Int) (a' b' : Bool) (vs' : List Tm) (c' d' : Bool) (l' : List Dv) : cmpD (.mk r a b vs c d l) (.mk r' a' b' vs' c' d' l') = 0 ↔ r = r' /\ cmpTs vs vs' = 0 /\ cmpDs l l' = 0 := by
 rw [cmpD_eq, lex2_zero, lex2_zero, cmpI_iff]
theorem cmpDs_zero (x y : Dv) (xs ys : List Dv) : cmpDs (x :: xs) (y :: ys) = 0 ↔ cmpD x y = 0 /\ cmpDs xs ys = 0 := by rw [cmpDs_eq, lex2_zero]
theorem PL.apart {r : Int} {nv ev : Bool} {vs : List Tm} {nl ex : Bool} {l : List Dv} {s : Int} {mv fv : Bool} {ws : List Tm} {ml fx : Bool} {k : List Dv} (hk : kind r s = .apart) : PL (.mk r nv ev vs nl ex l) (.mk s mv fv ws ml fx k) (.mk s mv fv ws ml fx k) true := by
 intro y c h
 cases h with
 | apart => exact ⟨rfl, fun _ => cmpD_self _⟩
 | keep k _ | loseNo k _ | lose k _ _ | sync k _ _ | syncL0 k _ _ | syncL1 k _ _ | syncR0 k _ _ | syncR1 k _ _ | no k => rw [hk] at k; cases k
theorem PL.sync {r : Int} {nv ev : Bool} {vs : List Tm} {nl ex : Bool} {d d' : Dv} {s : Int} {mv fv : Bool} {ws : List Tm} {ml fx : Bool} {e e' x y : Dv} {a b : Bool} (hk : kind r s = .sync) (h1 : PL d e x a) (h2 : PL d' e' y b) :
  PL (.mk r nv ev vs nl ex [d, d']) (.mk s mv fv ws ml fx [e, e']) (.mk 7 true false [] false true [x, y]) (a && b) := by
 intro z c h
 cases h with
 | sync _ ha hb =>
  obtain ⟨rfl, i1⟩ := h1 _ _ ha
  obtain ⟨rfl, i2⟩ := h2 _ _ hb
  refine ⟨rfl, fun h => ?_⟩
  simp only [Bool.and_eq_true] at h
  rw [cmpD_zero, cmpDs_zero, cmpDs_zero]
  exact ⟨rfl, cmpTs_nn, i1 h.1, i2 h.2, cmpDs_nn⟩
 | apart k | loseNo k _ | no k => rw [hk] at k; cases k
theorem PL.syncL0 {r : Int} {nv ev : Bool} {vs : List Tm} {nl ex : Bool} {d d' : Dv} {s : Int} {mv fv : Bool} {ws : List Tm} {ml fx : Bool} {e x : Dv} {a : Bool} (hk : kind r s = .syncL) (hs : s = 5) (h1 : PL d e x a) :
  PL (.mk r nv ev vs nl ex [d, d']) (.mk s mv fv ws ml fx [e]) (.mk s true false [] false true [x]) a := by
 intro z c h
 cases h with
 | syncL0 _ _ ha =>
  obtain ⟨rfl, i1⟩ := h1 _ _ ha
  refine ⟨rfl, fun h => ?_⟩
  rw [cmpD_zero, cmpDs_zero]
  exact ⟨rfl, cmpTs_nn, i1 h, cmpDs_nn⟩
 | syncL1 _ h6 _ => omega
 | apart k | loseNo k _ | no k => rw [hk] at k; cases k
theorem PL.syncL1 {r : Int} {nv ev : Bool} {vs : List Tm} {nl ex : Bool} {d d' : Dv} {s : Int} {mv fv : Bool} {ws : List Tm} {ml fx : Bool} {e x : Dv} {a : Bool} (hk : kind r s = .syncL) (hs : s = 6) (h1 : PL d' e x a) :
  PL (.mk r nv ev vs nl ex [d, d']) (.mk s mv fv ws ml fx [e]) (.mk s true false [] false true [x]) a := by
 intro z c h
 cases h with
 | syncL1 _ _ ha =>
  obtain ⟨rfl, i1⟩ := h1 _ _ ha
  refine ⟨rfl, fun h => ?_⟩
  rw [cmpD_zero, cmpDs_zero]
  exact ⟨rfl, cmpTs_nn, i1 h, cmpDs_nn⟩
 | syncL0 _ h6 _ => omega
 | apart k | loseNo k _ | no k => rw [hk] at k; cases k
theorem PL.syncR0 {r : Int} {nv ev : Bool} {vs : List Tm} {nl ex : Bool} {d : Dv} {s : Int} {mv fv : Bool} {ws : List Tm} {ml fx : Bool} {e e' x : Dv} {a : Bool} (hk : kind r s = .syncR) (hr : r = 5) (h1 : PL d e x a) :
  PL (.mk r nv ev vs nl ex [d]) (.mk s mv fv ws ml fx [e, e']) (.mk 7 true false [] false true [x, e']) a := by
 intro z c h
 cases h with
 | syncR0 _ _ ha =>
  obtain ⟨rfl, i1⟩ := h1 _ _ ha
  refine ⟨rfl, fun h => ?_⟩
  rw [cmpD_zero, cmpDs_zero, cmpDs_zero]
  exact ⟨rfl, cmpTs_nn, i1 h, cmpD_self _, cmpDs_nn⟩
 | syncR1 _ h6 _ => omega
 | apart k | loseNo k _ | no k => rw [hk] at k; cases k
theorem PL.syncR1 {r : Int} {nv ev : Bool} {vs : List Tm} {nl ex : Bool} {d : Dv} {s : Int} {mv fv : Bool} {ws : List Tm} {ml fx : Bool} {e e' x : Dv} {a : Bool} (hk : kind r s = .syncR) (hr : r = 6) (h1 : PL d e' x a) :
  PL (.mk r nv ev vs nl ex [d]) (.mk s mv fv ws ml fx [e, e']) (.mk 7 true false [] false true [e, x]) a := by
 intro z c h
 cases h with
 | syncR1 _ _ ha =>
  obtain ⟨rfl, i1⟩ := h1 _ _ ha
  refine ⟨rfl, fun h => ?_⟩
  rw [cmpD_zero, cmpDs_zero, cmpDs_zero]
  exact ⟨rfl, cmpTs_nn, cmpD_self _, i1 h, cmpDs_nn⟩
 | syncR0 _ h6 _ => omega
 | apart k | loseNo k _ | no k => rw [hk] at k; cases k
theorem PL.keep {r : Int} {nv ev : Bool} {vs : List Tm} {nl ex : Bool} {d : Dv} {s : Int} {mv fv : Bool} {ml fx : Bool} {e x : Dv} {a : Bool} (hk : kind r s = .keep) (h1 : PL d e x a) :
  PL (.mk r nv ev vs nl ex [d]) (.mk s mv fv [] ml fx [e]) (.mk s true false [] false true [x]) a := by
 intro z c h
 cases h with
 | keep _ ha =>
  obtain ⟨rfl, i1⟩ := h1 _ _ ha
  refine ⟨rfl, fun h => ?_⟩
  rw [cmpD_zero, cmpDs_zero]
  exact ⟨rfl, cmpTs_nn, i1 h, cmpDs_nn⟩
 | apart k | loseNo k _ | lose k _ _ | no k => rw [hk] at k; cases k
theorem PL.lose {r : Int} {nv ev : Bool} {vs : List Tm} {nl ex : Bool} {d : Dv} {s : Int} {mv fv : Bool} {ws : List Tm} {ml fx : Bool} {e x : Dv} {a : Bool} (hk : kind r s = .lose) (hv : cmpTs vs ws = 0) (h1 : PL d e x a) :
  PL (.mk r nv ev vs nl ex [d]) (.mk s mv fv ws ml fx [e]) x a := by
 intro z c h
 cases h with
 | lose _ _ ha =>
  obtain ⟨rfl, i1⟩ := h1 _ _ ha
  exact ⟨rfl, i1⟩
 | loseNo _ k => exact absurd hv k
 | apart k | keep k _ | no k => rw [hk] at k; cases k
theorem PL.no {r : Int} {nv ev : Bool} {vs : List Tm} {nl ex : Bool} {l : List Dv} {s : Int} {mv fv : Bool} {ws : List Tm} {ml fx : Bool} {k : List Dv} {x : Dv} (hk : kind r s = .none \/ (kind r s = .lose /\ cmpTs vs ws ≠ 0)) : PL (.mk r nv ev vs nl ex l) (.mk s mv fv ws ml fx k) x false := by
 intro y c h
 refine ⟨?_, fun h => by cases h⟩
 cases h with
 | loseNo _ _ | no _ => rfl
 | lose k h2 _ =>
  rcases hk with hk | ⟨_, hk⟩
  ·rw [hk] at k; cases k
  ·exact absurd h2 hk
 | apart k | keep k _ | sync k _ _ | syncL0 k _ _ | syncL1 k _ _ | syncR0 k _ _ | syncR1 k _ _ => rcases hk with hk | ⟨hk, _⟩ <;> (rw [hk] at k; cases k)
theorem keeps_va {r : Int} (h : keepsB r = true) : vaN r = 0 := by
 simp only [keepsB, Bool.or_eq_true, beq_iff_eq] at h
 unfold vaN
 rw [if_neg (by omega), if_neg (by omega)]
theorem kind_rest {r s : Int} (h1 : ((decide (sideI r >= 0) && decide (sideI s >= 0)) && (sideI r != sideI s)) = false) (h2 : ((r == 7) && (s == 7)) = false) (h3 : ((r == 7) && decide (sideI s >= 0)) = false) (h4 : ((s == 7) && decide (sideI r >= 0)) = false) :
  kind r s = if ((r == s) && keepsB r) = true then .keep else if ((r == s) && losesB r) = true then .lose else .none := by
 rw [kind_B, h1, h2, h3, Bool.and_comm (decide (sideI r >= 0)) (s == 7), h4]
 simp only [Bool.false_eq_true, if_false]
def kf78 : MFunc := ⟨8, (.seq (.region [⟨(some 2), .mv (.c (.int .i64 (.ofNat 0))), none⟩])
 (.seq (.seq (.region [⟨(some 3), .mv (.t 0), none⟩])
 (.block 0 (.seq (.region [⟨(some 5), .bin false .eql (.t 3) (.c (.int .i64 (.ofNat 5))), none⟩, ⟨(some 4), .mv (.t 5), none⟩])
 (.cond (.t 4)
 (.seq (.region [⟨(some 2), .mv (.c (.int .i64 (.ofNat 0))), none⟩])
 .ret)
 (.seq (.region [⟨(some 7), .bin false .eql (.t 3) (.c (.int .i64 (.ofNat 6))), none⟩, ⟨(some 6), .mv (.t 7), none⟩])
 (.cond (.t 6)
 (.seq (.region [⟨(some 2), .mv (.c (.int .i64 (.ofNat 1))), none⟩])
 .ret)
 .skip))))))
 (.seq (.region [⟨(some 2), .mv (.c (.int .i64 (.negSucc 0))), none⟩])
 .ret))), [.t 2]⟩
theorem t78 : tbl 78 = some kf78 := by kernel_rfl
def g79_0 : List MOper := [⟨(some 2), .box true (.t 0), none⟩, ⟨(some 3), .box true (.t 1), none⟩, ⟨(some 4), .alloc [(.int .i64 (.ofNat 0)), .nilsl, .nilsl], none⟩]
def g79_1 : List MOper := [⟨(some 5), .load true 3 (.t 2), none⟩, ⟨(some 6), .load true 3 (.t 3), none⟩, ⟨(some 7), .bslice 2 [(.int .i64 (.ofNat 0)), .nilsl, .nilsl, (.int .i64 (.ofNat 0)), .nilsl, .nilsl] [(0, 3, (.t 5)), (3, 3, (.t 6))], none⟩, ⟨(some 8), .build [(.int .i64 (.ofNat 0)), .nilsl, .nilsl] [(0, 1, (.c (.int .i64 (.ofNat 7)))), (2, 1, (.t 7))], none⟩, ⟨none, .store 3 (.t 4) (.t 8), none⟩]
def kf79 : MFunc := ⟨9, (.seq (.region g79_0)
 (.seq (.region g79_1)
 .ret)), [.cell 4 true 3]⟩
theorem t79 : tbl 79 = some kf79 := by kernel_rfl
def g80_1 : List MOper := [⟨(some 5), .mv (.t 0), none⟩, ⟨(some 6), .load true 3 (.t 3), none⟩, ⟨(some 7), .bslice 1 [(.int .i64 (.ofNat 0)), .nilsl, .nilsl] [(0, 3, (.t 6))], none⟩, ⟨(some 8), .build [(.int .i64 (.ofNat 0)), .nilsl, .nilsl] [(0, 1, (.t 5)), (2, 1, (.t 7))], none⟩, ⟨none, .store 3 (.t 4) (.t 8), none⟩]
def kf80 : MFunc := ⟨9, (.seq (.region [⟨(some 3), .box true (.t 1), none⟩, ⟨(some 4), .alloc [(.int .i64 (.ofNat 0)), .nilsl, .nilsl], none⟩])
 (.seq (.region g80_1)
 .ret)), [.cell 4 true 3]⟩
theorem t80 : tbl 80 = some kf80 := by kernel_rfl
def g51_0 : List MOper := [⟨(some 2), .box true (.t 0), none⟩, ⟨(some 3), .box true (.t 1), none⟩, ⟨(some 4), .alloc [(.int .i64 (.ofNat 0)), .nilsl, .nilsl], none⟩, ⟨(some 5), .mv (.c (.bool false)), none⟩]
def g51_1 : List MOper := [⟨(some 18), .faddr 0 (.t 2), none⟩, ⟨(some 19), .load false 1 (.t 18), none⟩, ⟨(some 20), .call (.c (.func (.func 78) [] [])) [(.t 19)], none⟩, ⟨(some 6), .mv (.t 20), none⟩]
def g51_2 : List MOper := [⟨(some 21), .faddr 0 (.t 3), none⟩, ⟨(some 22), .load false 1 (.t 21), none⟩, ⟨(some 23), .call (.c (.func (.func 78) [] [])) [(.t 22)], none⟩, ⟨(some 7), .mv (.t 23), none⟩]
def g51_3 : List MOper := [⟨(some 24), .mv (.t 6), none⟩, ⟨(some 25), .bin false .geq (.t 24) (.c (.int .i64 (.ofNat 0))), none⟩, ⟨(some 26), .mv (.t 25), none⟩, ⟨(some 27), .mv (.t 7), (some (26, true))⟩, ⟨(some 28), .bin false .geq (.t 27) (.c (.int .i64 (.ofNat 0))), (some (26, true))⟩, ⟨(some 29), .pick (.t 26) (.t 28) (.c (.bool false)), none⟩, ⟨(some 30), .mv (.t 29), none⟩, ⟨(some 31), .mv (.t 6), (some (30, true))⟩, ⟨(some 32), .mv (.t 7), (some (30, true))⟩, ⟨(some 33), .bin false .neq (.t 31) (.t 32), (some (30, true))⟩, ⟨(some 34), .pick (.t 30) (.t 33) (.c (.bool false)), none⟩]
def g51_5 : List MOper := [⟨(some 36), .faddr 0 (.t 2), none⟩, ⟨(some 37), .load false 1 (.t 36), none⟩, ⟨(some 38), .bin false .eql (.t 37) (.c (.int .i64 (.ofNat 7))), none⟩, ⟨(some 39), .mv (.t 38), none⟩, ⟨(some 40), .faddr 0 (.t 3), (some (39, true))⟩, ⟨(some 41), .load false 1 (.t 40), (some (39, true))⟩, ⟨(some 42), .bin false .eql (.t 41) (.c (.int .i64 (.ofNat 7))), (some (39, true))⟩, ⟨(some 43), .pick (.t 39) (.t 42) (.c (.bool false)), none⟩]
def g51_6 : List (MOper × Nat) := [(⟨(some 45), .faddr 2 (.t 2), none⟩, 0), (⟨(some 46), .load false 1 (.t 45), none⟩, 1), (⟨(some 47), .iaddr 3 (.t 46) (.c (.int .i64 (.ofNat 0))), none⟩, 3), (⟨(some 48), .load true 3 (.t 47), none⟩, 7), (⟨(some 49), .faddr 2 (.t 3), none⟩, 0), (⟨(some 50), .load false 1 (.t 49), none⟩, 16), (⟨(some 51), .iaddr 3 (.t 50) (.c (.int .i64 (.ofNat 0))), none⟩, 48), (⟨(some 52), .load true 3 (.t 51), none⟩, 112), (⟨(some 53), .call (.c (.func (.func 51) [] [])) [(.t 48), (.t 52)], none⟩, 255), (⟨(some 44), .mv (.t 53), none⟩, 511), (⟨(some 54), .extract 0 (.t 44), none⟩, 1023), (⟨(some 55), .extract 1 (.t 44), none⟩, 1023), (⟨(some 8), .alloc [(.int .i64 (.ofNat 0)), .nilsl, .nilsl], none⟩, 0), (⟨none, .store 3 (.t 8) (.t 54), none⟩, 6143), (⟨(some 9), .mv (.t 55), none⟩, 16383)]
def g51_7 : List (MOper × Nat) := [(⟨(some 57), .faddr 2 (.t 2), none⟩, 0), (⟨(some 58), .load false 1 (.t 57), none⟩, 1), (⟨(some 59), .iaddr 3 (.t 58) (.c (.int .i64 (.ofNat 1))), none⟩, 3), (⟨(some 60), .load true 3 (.t 59), none⟩, 7), (⟨(some 61), .faddr 2 (.t 3), none⟩, 0), (⟨(some 62), .load false 1 (.t 61), none⟩, 16), (⟨(some 63), .iaddr 3 (.t 62) (.c (.int .i64 (.ofNat 1))), none⟩, 48), (⟨(some 64), .load true 3 (.t 63), none⟩, 112), (⟨(some 65), .call (.c (.func (.func 51) [] [])) [(.t 60), (.t 64)], none⟩, 255), (⟨(some 56), .mv (.t 65), none⟩, 511), (⟨(some 66), .extract 0 (.t 56), none⟩, 1023), (⟨(some 67), .extract 1 (.t 56), none⟩, 1023), (⟨(some 10), .alloc [(.int .i64 (.ofNat 0)), .nilsl, .nilsl], none⟩, 0), (⟨none, .store 3 (.t 10) (.t 66), none⟩, 6143), (⟨(some 11), .mv (.t 67), none⟩, 16383)]
def g51_8 : List MOper := [⟨(some 68), .load true 3 (.t 8), none⟩, ⟨(some 69), .load true 3 (.t 10), none⟩, ⟨(some 70), .call (.c (.func (.func 79) [] [])) [(.t 68), (.t 69)], none⟩, ⟨(some 71), .mv (.t 9), none⟩, ⟨(some 72), .mv (.t 71), none⟩, ⟨(some 73), .mv (.t 11), (some (72, true))⟩, ⟨(some 74), .pick (.t 72) (.t 73) (.c (.bool false)), none⟩, ⟨none, .store 3 (.t 4) (.t 70), none⟩, ⟨(some 5), .mv (.t 74), none⟩]
def g51_9 : List MOper := [⟨(some 75), .faddr 0 (.t 2), none⟩, ⟨(some 76), .load false 1 (.t 75), none⟩, ⟨(some 77), .bin false .eql (.t 76) (.c (.int .i64 (.ofNat 7))), none⟩, ⟨(some 78), .mv (.t 77), none⟩, ⟨(some 79), .mv (.t 7), (some (78, true))⟩, ⟨(some 80), .bin false .geq (.t 79) (.c (.int .i64 (.ofNat 0))), (some (78, true))⟩, ⟨(some 81), .pick (.t 78) (.t 80) (.c (.bool false)), none⟩]
def g51_10 : List (MOper × Nat) := [(⟨(some 83), .faddr 2 (.t 2), none⟩, 0), (⟨(some 84), .load false 1 (.t 83), none⟩, 1), (⟨(some 85), .mv (.t 7), none⟩, 0), (⟨(some 86), .iaddr 3 (.t 84) (.t 85), none⟩, 7), (⟨(some 87), .load true 3 (.t 86), none⟩, 15), (⟨(some 88), .faddr 2 (.t 3), none⟩, 0), (⟨(some 89), .load false 1 (.t 88), none⟩, 32), (⟨(some 90), .iaddr 3 (.t 89) (.c (.int .i64 (.ofNat 0))), none⟩, 96), (⟨(some 91), .load true 3 (.t 90), none⟩, 224), (⟨(some 92), .call (.c (.func (.func 51) [] [])) [(.t 87), (.t 91)], none⟩, 511), (⟨(some 82), .mv (.t 92), none⟩, 1023), (⟨(some 93), .extract 0 (.t 82), none⟩, 2047), (⟨(some 94), .extract 1 (.t 82), none⟩, 2047), (⟨(some 12), .alloc [(.int .i64 (.ofNat 0)), .nilsl, .nilsl], none⟩, 0), (⟨none, .store 3 (.t 12) (.t 93), none⟩, 12287), (⟨(some 13), .mv (.t 94), none⟩, 32767)]
def g51_11 : List MOper := [⟨(some 95), .faddr 0 (.t 3), none⟩, ⟨(some 96), .load false 1 (.t 95), none⟩, ⟨(some 97), .load true 3 (.t 12), none⟩, ⟨(some 98), .call (.c (.func (.func 80) [] [])) [(.t 96), (.t 97)], none⟩, ⟨(some 99), .mv (.t 13), none⟩, ⟨none, .store 3 (.t 4) (.t 98), none⟩, ⟨(some 5), .mv (.t 99), none⟩]
def g51_12 : List MOper := [⟨(some 100), .faddr 0 (.t 3), none⟩, ⟨(some 101), .load false 1 (.t 100), none⟩, ⟨(some 102), .bin false .eql (.t 101) (.c (.int .i64 (.ofNat 7))), none⟩, ⟨(some 103), .mv (.t 102), none⟩, ⟨(some 104), .mv (.t 6), (some (103, true))⟩, ⟨(some 105), .bin false .geq (.t 104) (.c (.int .i64 (.ofNat 0))), (some (103, true))⟩, ⟨(some 106), .pick (.t 103) (.t 105) (.c (.bool false)), none⟩]
def g51_13 : List (MOper × Nat) := [(⟨(some 108), .faddr 2 (.t 2), none⟩, 0), (⟨(some 109), .load false 1 (.t 108), none⟩, 1), (⟨(some 110), .iaddr 3 (.t 109) (.c (.int .i64 (.ofNat 0))), none⟩, 3), (⟨(some 111), .load true 3 (.t 110), none⟩, 7), (⟨(some 112), .faddr 2 (.t 3), none⟩, 0), (⟨(some 113), .load false 1 (.t 112), none⟩, 16), (⟨(some 114), .mv (.t 6), none⟩, 0), (⟨(some 115), .iaddr 3 (.t 113) (.t 114), none⟩, 112), (⟨(some 116), .load true 3 (.t 115), none⟩, 240), (⟨(some 117), .call (.c (.func (.func 51) [] [])) [(.t 111), (.t 116)], none⟩, 511), (⟨(some 107), .mv (.t 117), none⟩, 1023), (⟨(some 118), .extract 0 (.t 107), none⟩, 2047), (⟨(some 119), .extract 1 (.t 107), none⟩, 2047), (⟨(some 14), .alloc [(.int .i64 (.ofNat 0)), .nilsl, .nilsl], none⟩, 0), (⟨none, .store 3 (.t 14) (.t 118), none⟩, 12287), (⟨(some 15), .mv (.t 119), none⟩, 32767)]
def g51_15 : List (MOper × Nat) := [(⟨(some 122), .load true 3 (.t 14), none⟩, 0), (⟨(some 123), .faddr 2 (.t 3), none⟩, 0), (⟨(some 124), .load false 1 (.t 123), none⟩, 2), (⟨(some 125), .iaddr 3 (.t 124) (.c (.int .i64 (.ofNat 1))), none⟩, 6), (⟨(some 126), .load true 3 (.t 125), none⟩, 14), (⟨(some 127), .call (.c (.func (.func 79) [] [])) [(.t 122), (.t 126)], none⟩, 31), (⟨(some 128), .mv (.t 15), none⟩, 0), (⟨none, .store 3 (.t 4) (.t 127), none⟩, 63), (⟨(some 5), .mv (.t 128), none⟩, 255)]
def g51_16 : List (MOper × Nat) := [(⟨(some 129), .faddr 2 (.t 3), none⟩, 0), (⟨(some 130), .load false 1 (.t 129), none⟩, 1), (⟨(some 131), .iaddr 3 (.t 130) (.c (.int .i64 (.ofNat 0))), none⟩, 3), (⟨(some 132), .load true 3 (.t 131), none⟩, 7), (⟨(some 133), .load true 3 (.t 14), none⟩, 0), (⟨(some 134), .call (.c (.func (.func 79) [] [])) [(.t 132), (.t 133)], none⟩, 31), (⟨(some 135), .mv (.t 15), none⟩, 0), (⟨none, .store 3 (.t 4) (.t 134), none⟩, 63), (⟨(some 5), .mv (.t 135), none⟩, 255)]
def g51_17 : List MOper := [⟨(some 136), .faddr 0 (.t 2), none⟩, ⟨(some 137), .load false 1 (.t 136), none⟩, ⟨(some 138), .faddr 0 (.t 3), none⟩, ⟨(some 139), .load false 1 (.t 138), none⟩, ⟨(some 140), .bin false .neq (.t 137) (.t 139), none⟩, ⟨(some 141), .mv (.t 140), none⟩, ⟨(some 142), .faddr 2 (.t 2), (some (141, false))⟩, ⟨(some 143), .load false 1 (.t 142), (some (141, false))⟩, ⟨(some 144), .len 0 (.t 143), (some (141, false))⟩, ⟨(some 145), .bin false .neq (.t 144) (.c (.int .i64 (.ofNat 1))), (some (141, false))⟩, ⟨(some 146), .pick (.t 141) (.c (.bool true)) (.t 145), none⟩, ⟨(some 147), .mv (.t 146), none⟩, ⟨(some 148), .faddr 1 (.t 2), (some (147, false))⟩, ⟨(some 149), .load false 1 (.t 148), (some (147, false))⟩, ⟨(some 150), .faddr 1 (.t 3), (some (147, false))⟩, ⟨(some 151), .load false 1 (.t 150), (some (147, false))⟩, ⟨(some 152), .call (.c (.func (.func 81) [] [])) [(.t 149), (.t 151)], (some (147, false))⟩, ⟨(some 153), .un .not (.t 152), (some (147, false))⟩, ⟨(some 154), .pick (.t 147) (.c (.bool true)) (.t 153), none⟩]
def g51_18 : List MOper := [⟨(some 155), .build [(.int .i64 (.ofNat 0)), .nilsl, .nilsl] [], none⟩, ⟨none, .store 3 (.t 4) (.t 155), none⟩, ⟨(some 5), .mv (.c (.bool false)), none⟩]
def g51_19 : List (MOper × Nat) := [(⟨(some 157), .faddr 2 (.t 2), none⟩, 0), (⟨(some 158), .load false 1 (.t 157), none⟩, 1), (⟨(some 159), .iaddr 3 (.t 158) (.c (.int .i64 (.ofNat 0))), none⟩, 3), (⟨(some 160), .load true 3 (.t 159), none⟩, 7), (⟨(some 161), .faddr 2 (.t 3), none⟩, 0), (⟨(some 162), .load false 1 (.t 161), none⟩, 16), (⟨(some 163), .iaddr 3 (.t 162) (.c (.int .i64 (.ofNat 0))), none⟩, 48), (⟨(some 164), .load true 3 (.t 163), none⟩, 112), (⟨(some 165), .call (.c (.func (.func 51) [] [])) [(.t 160), (.t 164)], none⟩, 255), (⟨(some 156), .mv (.t 165), none⟩, 511), (⟨(some 166), .extract 0 (.t 156), none⟩, 1023), (⟨(some 167), .extract 1 (.t 156), none⟩, 1023), (⟨(some 16), .alloc [(.int .i64 (.ofNat 0)), .nilsl, .nilsl], none⟩, 0), (⟨none, .store 3 (.t 16) (.t 166), none⟩, 6143), (⟨(some 17), .mv (.t 167), none⟩, 16383)]
def g51_27 : List MOper := [⟨(some 177), .faddr 0 (.t 3), none⟩, ⟨(some 178), .load false 1 (.t 177), none⟩, ⟨(some 179), .load true 3 (.t 16), none⟩, ⟨(some 180), .call (.c (.func (.func 80) [] [])) [(.t 178), (.t 179)], none⟩, ⟨(some 181), .mv (.t 17), none⟩, ⟨none, .store 3 (.t 4) (.t 180), none⟩, ⟨(some 5), .mv (.t 181), none⟩]
def g51_35 : List MOper := [⟨(some 190), .load true 3 (.t 16), none⟩, ⟨(some 191), .mv (.t 17), none⟩, ⟨none, .store 3 (.t 4) (.t 190), none⟩, ⟨(some 5), .mv (.t 191), none⟩]
def g51_36 : List MOper := [⟨(some 192), .build [(.int .i64 (.ofNat 0)), .nilsl, .nilsl] [], none⟩, ⟨none, .store 3 (.t 4) (.t 192), none⟩, ⟨(some 5), .mv (.c (.bool false)), none⟩]
def sf51_0 : MCode := (.seq (.region [⟨(some 171), .bin false .eql (.t 169) (.c (.int .i64 (.ofNat 5))), none⟩, ⟨(some 170), .mv (.t 171), none⟩]) (.cond (.t 170) .skip (.seq (.region [⟨(some 172), .bin false .eql (.t 169) (.c (.int .i64 (.ofNat 6))), none⟩, ⟨(some 170), .mv (.t 172), none⟩]) (.cond (.t 170) .skip (.seq (.region [⟨(some 173), .bin false .eql (.t 169) (.c (.int .i64 (.ofNat 8))), none⟩, ⟨(some 170), .mv (.t 173), none⟩]) (.cond (.t 170) .skip (.seq (.region [⟨(some 174), .bin false .eql (.t 169) (.c (.int .i64 (.ofNat 9))), none⟩, ⟨(some 170), .mv (.t 174), none⟩]) (.cond (.t 170) .skip (.seq (.region [⟨(some 175), .bin false .eql (.t 169) (.c (.int .i64 (.ofNat 11))), none⟩, ⟨(some 170), .mv (.t 175), none⟩]) (.cond (.t 170) .skip (.region [⟨(some 176), .bin false .eql (.t 169) (.c (.int .i64 (.ofNat 18))), none⟩, ⟨(some 170), .mv (.t 176), none⟩])))))))))))
def sf51_1 : MCode := (.seq (.region [⟨(some 183), .bin false .eql (.t 169) (.c (.int .i64 (.ofNat 3))), none⟩, ⟨(some 182), .mv (.t 183), none⟩]) (.cond (.t 182) .skip (.seq (.region [⟨(some 184), .bin false .eql (.t 169) (.c (.int .i64 (.ofNat 4))), none⟩, ⟨(some 182), .mv (.t 184), none⟩]) (.cond (.t 182) .skip (.seq (.region [⟨(some 185), .bin false .eql (.t 169) (.c (.int .i64 (.ofNat 14))), none⟩, ⟨(some 182), .mv (.t 185), none⟩]) (.cond (.t 182) .skip (.seq (.region [⟨(some 186), .bin false .eql (.t 169) (.c (.int .i64 (.ofNat 15))), none⟩, ⟨(some 182), .mv (.t 186), none⟩]) (.cond (.t 182) .skip (.seq (.region [⟨(some 187), .bin false .eql (.t 169) (.c (.int .i64 (.ofNat 17))), none⟩, ⟨(some 182), .mv (.t 187), none⟩]) (.cond (.t 182) .skip (.seq (.region [⟨(some 188), .bin false .eql (.t 169) (.c (.int .i64 (.ofNat 19))), none⟩, ⟨(some 182), .mv (.t 188), none⟩]) (.cond (.t 182) .skip (.region [⟨(some 189), .bin false .eql (.t 169) (.c (.int .i64 (.ofNat 16))), none⟩, ⟨(some 182), .mv (.t 189), none⟩])))))))))))))
def kf51 : MFunc := ⟨193, (.seq (.region g51_0)
 (.seq (.region g51_1)
 (.seq (.region g51_2)
 (.seq (.seq (.region g51_3)
 (.cond (.t 34)
 (.seq (.region [⟨(some 35), .load true 3 (.t 3), none⟩, ⟨none, .store 3 (.t 4) (.t 35), none⟩, ⟨(some 5), .mv (.c (.bool true)), none⟩])
 .ret)
 .skip))
 (.seq (.seq (.region g51_5)
 (.cond (.t 43)
 (.seq (.draw g51_6 [(12, some 8), (12, some 13)])
 (.seq (.draw g51_7 [(12, some 8), (12, some 13)])
 (.seq (.region g51_8)
 .ret)))
 .skip))
 (.seq (.seq (.region g51_9)
 (.cond (.t 81)
 (.seq (.draw g51_10 [(13, some 9), (13, some 14)])
 (.seq (.region g51_11)
 .ret))
 .skip))
 (.seq (.seq (.region g51_12)
 (.cond (.t 106)
 (.seq (.draw g51_13 [(13, some 9), (13, some 14)])
 (.seq (.seq (.region [⟨(some 120), .mv (.t 6), none⟩, ⟨(some 121), .bin false .eql (.t 120) (.c (.int .i64 (.ofNat 0))), none⟩])
 (.cond (.t 121)
 (.seq (.draw g51_15 [])
 .ret)
 .skip))
 (.seq (.draw g51_16 [])
 .ret)))
 .skip))
 (.seq (.seq (.region g51_17)
 (.cond (.t 154)
 (.seq (.region g51_18)
 .ret)
 .skip))
 (.seq (.draw g51_19 [(12, some 8), (12, some 13)])
 (.seq (.seq (.region [⟨(some 168), .faddr 0 (.t 3), none⟩, ⟨(some 169), .load false 1 (.t 168), none⟩])
 (.block 0 (.seq sf51_0
 (.cond (.t 170)
 (.seq (.region g51_27)
 .ret)
 (.seq sf51_1
 (.cond (.t 182)
 (.seq (.region g51_35)
 .ret)
 .skip))))))
 (.seq (.region g51_36)
 .ret))))))))))), [.cell 4 true 3, .t 5]⟩
theorem t51 : tbl 51 = some kf51 := by kernel_rfl
theorem side78 (n : Nat) (Y : Yenv) (r : Int) (st : St) : R (n + 1) Y 78 [.int .i64 r] st = .ret (.int .i64 (sideI r)) st := by
 have b00 : Nat.beq 0 0 = true := rfl
 have eq : ∀ c : Nat, binB false .eql (.int .i64 r) (.int .i64 (.ofNat c)) = some (.bool (r == .ofNat c)) := fun _ => rfl
 unfold sideI
 by_cases h5 : r = 5
 ·rw [if_pos h5]
  have e5 := eq 5
  rw [show (r == Int.ofNat 5) = true by simpa using h5] at e5
  refine fun_of (mf := kf78) (fr := ?a0) t78 rfl (.inl ?a1) ?a2 ?a3
  case a1 =>
   simp only [amE, reduceEqDiff, ↓reduceIte, reduceCtorEq, reduceAdd, kf78, e5, b00]
   rfl
  case a2 => rfl
  case a3 => simp only [kf78, amE, Fr.get_set, reduceEqDiff, ↓reduceIte]
 rw [if_neg h5]
 have e5 := eq 5
 rw [show (r == Int.ofNat 5) = false by simpa using h5] at e5
 by_cases h6 : r = 6
 ·rw [if_pos h6]
  have e6 := eq 6
  rw [show (r == Int.ofNat 6) = true by simpa using h6] at e6
  refine fun_of (mf := kf78) (fr := ?b0) t78 rfl (.inl ?b1) ?b2 ?b3
  case b1 =>
   simp only [amE, reduceEqDiff, ↓reduceIte, reduceCtorEq, reduceAdd, kf78, e5, e6, b00]
   rfl
  case b2 => rfl
  case b3 => simp only [kf78, amE, Fr.get_set, reduceEqDiff, ↓reduceIte]
 rw [if_neg h6]
 have e6 := eq 6
 rw [show (r == Int.ofNat 6) = false by simpa using h6] at e6
 refine fun_of (mf := kf78) (fr := ?c0) t78 rfl (.inl ?c1) ?c2 ?c3
 case c1 =>
  simp only [amE, reduceEqDiff, ↓reduceIte, reduceCtorEq, reduceAdd, kf78, e5, e6, b00]
  rfl
 case c2 => rfl
 case c3 => simp only [kf78, amE, Fr.get_set, reduceEqDiff, ↓reduceIte]
theorem mk79 (a b : List AV) (ha : a.length = 3) (hb : b.length = 3) (n : Nat) (Y : Yenv) (st : St) : ∃ st', R (n + 1) Y 79 [.agg a, .agg b] st = .ret (.agg [.int .i64 (.ofNat 7), .nilsl, .lst 2 (a ++ b) true]) st' /\ Keeps st st' := by
 have b00 : Nat.beq 0 0 = true := rfl
 obtain ⟨a1, a2, a3, rfl⟩ : ∃ a1 a2 a3, a = [a1, a2, a3] := by
  match a, ha with
  | [x, y, z], _ => exact ⟨x, y, z, rfl⟩
 obtain ⟨b1, b2, b3, rfl⟩ : ∃ a1 a2 a3, b = [a1, a2, a3] := by
  match b, hb with
  | [x, y, z], _ => exact ⟨x, y, z, rfl⟩
 have fl := bs2 ha hb
 have fl2 := fill13 (r := .ofNat 7) (v := .lst 2 [a1, a2, a3, b1, b2, b3] true) rfl
 obtain ⟨s1, hs1⟩ : ∃ s1, s1 = st.new (.row [.int .i64 (.ofNat 0), .nilsl, .nilsl]) := ⟨_, rfl⟩
 have g1 : s1.get st.next = some (.row [.int .i64 (.ofNat 0), .nilsl, .nilsl]) := by rw [hs1, St.get_new, if_pos rfl]
 have k1 : Keeps st s1 := by rw [hs1]; exact Keeps.new _ _
 have x3 : ([.int .i64 (.ofNat 7), .nilsl, .lst 2 [a1, a2, a3, b1, b2, b3] true] : List AV).length = 3 /\ ([.int .i64 (.ofNat 7), .nilsl, .lst 2 [a1, a2, a3, b1, b2, b3] true] : List AV).all AV.one = true := ⟨rfl, rfl⟩
 have sto := st3 g1 rfl x3
 obtain ⟨s9, hs9⟩ : ∃ s, s = s1.put st.next (.row [.int .i64 (.ofNat 7), .nilsl, .lst 2 [a1, a2, a3, b1, b2, b3] true]) := ⟨_, rfl⟩
 rw [<- hs9] at sto
 have g9 : s9.get st.next = some (.row [.int .i64 (.ofNat 7), .nilsl, .lst 2 [a1, a2, a3, b1, b2, b3] true]) := by rw [hs9, St.get_put, if_pos rfl]
 have l9 := load_row g9 x3.1
 have k9 : Keeps st s9 := by rw [hs9]; exact k1.put' _ _ (Nat.le_refl _)
 obtain ⟨fA1, hA1⟩ : ∃ fA, fA = frOf 0 [.agg [a1, a2, a3], .agg [b1, b2, b3]] Fr.nil := ⟨_, rfl⟩
 have gA1_0 : fA1.get 0 = some (.agg [a1, a2, a3]) := by rw [hA1]; simp only [frOf, Fr.get_set, reduceAdd, reduceEqDiff, ↓reduceIte]
 have gA1_1 : fA1.get 1 = some (.agg [b1, b2, b3]) := by rw [hA1]; simp only [frOf, Fr.get_set, reduceAdd, reduceEqDiff, ↓reduceIte]
 have dA1 : fA1.ds = [] := by rw [hA1]; rfl
 obtain ⟨fR2, hR2, kR2, oR2_2, oR2_3, oR2_4⟩ : ∃ fr', arun ((gT n).cg Y) g79_0 fA1 st = .ok fr' s1 /\ Kp [] fA1 fr' /\ fr'.get 2 = some (.fptr [a1, a2, a3] 0) /\ fr'.get 3 = some (.fptr [b1, b2, b3] 0) /\ fr'.get 4 = some (.ptr st.next 0) := ⟨_, by simp only [amE, reduceEqDiff, ↓reduceIte, reduceCtorEq, reduceAdd, gA1_0, gA1_1, g79_0, <- hs1] <;> rfl, Kp.refl.s.s.s, gn (gn gh), gn gh, gh⟩
 have dR2 := kR2.1.trans dA1
 obtain ⟨fR3, hR3, kR3⟩ : ∃ fr', arun ((gT n).cg Y) g79_1 fR2 s1 = .ok fr' s9 /\ Kp [4] fR2 fr' := ⟨_, by simp only [amE, reduceEqDiff, ↓reduceIte, reduceCtorEq, reduceAdd, oR2_2, oR2_3, oR2_4, g79_1, ld3f, fl, fl2, sto] <;> rfl, Kp.refl.s.s.s.s⟩
 have gR3_4 := kR3.g 4 oR2_4
 have dR3 := kR3.1.trans dR2
 refine ⟨s9, fun_of (mf := kf79) (fr := fR3) t79 rfl (.inl ?q) dR3 (by simp only [kf79, amE, gR3_4, l9, List.cons_append, List.nil_append]), k9⟩
 case q =>
  rw [<- hA1]
  simp only [amE, reduceEqDiff, ↓reduceIte, reduceCtorEq, reduceAdd, kf79, b00, hR2, hR3]
theorem mk80 (r : Int) (a : List AV) (ha : a.length = 3) (n : Nat) (Y : Yenv) (st : St) : ∃ st', R (n + 1) Y 80 [.int .i64 r, .agg a] st = .ret (.agg [.int .i64 r, .nilsl, .lst 1 a true]) st' /\ Keeps st st' := by
 have b00 : Nat.beq 0 0 = true := rfl
 obtain ⟨a1, a2, a3, rfl⟩ : ∃ a1 a2 a3, a = [a1, a2, a3] := by
  match a, ha with
  | [x, y, z], _ => exact ⟨x, y, z, rfl⟩
 have fl := bs1 ha
 have fl2 := fill13 (r := r) (v := .lst 1 [a1, a2, a3] true) rfl
 obtain ⟨s1, hs1⟩ : ∃ s1, s1 = st.new (.row [.int .i64 (.ofNat 0), .nilsl, .nilsl]) := ⟨_, rfl⟩
 have g1 : s1.get st.next = some (.row [.int .i64 (.ofNat 0), .nilsl, .nilsl]) := by rw [hs1, St.get_new, if_pos rfl]
 have k1 : Keeps st s1 := by rw [hs1]; exact Keeps.new _ _
 have x3 : ([.int .i64 r, .nilsl, .lst 1 [a1, a2, a3] true] : List AV).length = 3 /\ ([.int .i64 r, .nilsl, .lst 1 [a1, a2, a3] true] : List AV).all AV.one = true := ⟨rfl, rfl⟩
 have sto := st3 g1 rfl x3
 obtain ⟨s9, hs9⟩ : ∃ s, s = s1.put st.next (.row [.int .i64 r, .nilsl, .lst 1 [a1, a2, a3] true]) := ⟨_, rfl⟩
 rw [<- hs9] at sto
 have g9 : s9.get st.next = some (.row [.int .i64 r, .nilsl, .lst 1 [a1, a2, a3] true]) := by rw [hs9, St.get_put, if_pos rfl]
 have l9 := load_row g9 x3.1
 have k9 : Keeps st s9 := by rw [hs9]; exact k1.put' _ _ (Nat.le_refl _)
 obtain ⟨fA4, hA4⟩ : ∃ fA, fA = frOf 0 [.int .i64 r, .agg [a1, a2, a3]] Fr.nil := ⟨_, rfl⟩
 have gA4_0 : fA4.get 0 = some (.int .i64 r) := by rw [hA4]; simp only [frOf, Fr.get_set, reduceAdd, reduceEqDiff, ↓reduceIte]
 have gA4_1 : fA4.get 1 = some (.agg [a1, a2, a3]) := by rw [hA4]; simp only [frOf, Fr.get_set, reduceAdd, reduceEqDiff, ↓reduceIte]
 have dA4 : fA4.ds = [] := by rw [hA4]; rfl
 obtain ⟨fR5, hR5, kR5, oR5_3, oR5_4⟩ : ∃ fr', arun ((gT n).cg Y) [⟨(some 3), .box true (.t 1), none⟩, ⟨(some 4), .alloc [(.int .i64 (.ofNat 0)), .nilsl, .nilsl], none⟩] fA4 st = .ok fr' s1 /\ Kp [0] fA4 fr' /\ fr'.get 3 = some (.fptr [a1, a2, a3] 0) /\ fr'.get 4 = some (.ptr st.next 0) := ⟨_, by simp only [amE, reduceEqDiff, ↓reduceIte, reduceCtorEq, reduceAdd, gA4_1, <- hs1] <;> rfl, Kp.refl.s.s, gn gh, gh⟩
 have gR5_0 := kR5.g 0 gA4_0
 have dR5 := kR5.1.trans dA4
 obtain ⟨fR6, hR6, kR6⟩ : ∃ fr', arun ((gT n).cg Y) g80_1 fR5 s1 = .ok fr' s9 /\ Kp [4] fR5 fr' := ⟨_, by simp only [amE, reduceEqDiff, ↓reduceIte, reduceCtorEq, reduceAdd, gR5_0, oR5_3, oR5_4, g80_1, ld3f, fl, fl2, sto] <;> rfl, Kp.refl.s.s.s.s⟩
 have gR6_4 := kR6.g 4 oR5_4
 have dR6 := kR6.1.trans dR5
 refine ⟨s9, fun_of (mf := kf80) (fr := fR6) t80 rfl (.inl ?q) dR6 (by simp only [kf80, amE, gR6_4, l9, List.cons_append, List.nil_append]), k9⟩
 case q =>
  rw [<- hA4]
  simp only [amE, reduceEqDiff, ↓reduceIte, reduceCtorEq, reduceAdd, kf80, b00, hR5, hR6]
theorem sf51_0_run {Γ : Gam} {Y : Yenv} {m : Nat} {fr : Fr} {st : St} {r : Int} (h : fr.get 169 = some (.int .i64 r)) : ∃ fr', acode Γ Y m sf51_0 none fr st = .norm fr' st /\ Kp [2, 3, 4, 16, 17, 169] fr fr' /\ fr'.get 170 = some (.bool (keepsB r)) := by
 have eq : ∀ c : Nat, binB false .eql (.int .i64 r) (.int .i64 (.ofNat c)) = some (.bool (r == .ofNat c)) := fun _ => rfl
 have e5 := eq 5
 have e6 := eq 6
 have e8 := eq 8
 have e9 := eq 9
 have e11 := eq 11
 have e18 := eq 18
 have hv : keepsB r = ((r == .ofNat 5) || (r == .ofNat 6) || (r == .ofNat 8) || (r == .ofNat 9) || (r == .ofNat 11) || (r == .ofNat 18)) := rfl
 rw [hv]
 generalize (r == Int.ofNat 5) = C5 at *
 generalize (r == Int.ofNat 6) = C6 at *
 generalize (r == Int.ofNat 8) = C8 at *
 generalize (r == Int.ofNat 9) = C9 at *
 generalize (r == Int.ofNat 11) = C11 at *
 generalize (r == Int.ofNat 18) = C18 at *
 clear hv eq
 cases C5 with
 | true =>
  refine ⟨?sf51_0a0, ?sf51_0b0, ?sf51_0c0, ?sf51_0d0⟩
  case sf51_0b0 =>
   simp only [amE, reduceEqDiff, ↓reduceIte, reduceCtorEq, reduceAdd, sf51_0, h, e5]
   rfl
  case sf51_0c0 => repeat (first | exact Kp.refl | refine Kp.set (by decide) ?_)
  case sf51_0d0 => simp only [Fr.get_set, reduceEqDiff, ↓reduceIte, Bool.true_or, Bool.or_true, Bool.false_or]
 | false =>
  cases C6 with
  | true =>
   refine ⟨?sf51_0a1, ?sf51_0b1, ?sf51_0c1, ?sf51_0d1⟩
   case sf51_0b1 =>
    simp only [amE, reduceEqDiff, ↓reduceIte, reduceCtorEq, reduceAdd, sf51_0, h, e5, e6]
    rfl
   case sf51_0c1 => repeat (first | exact Kp.refl | refine Kp.set (by decide) ?_)
   case sf51_0d1 => simp only [Fr.get_set, reduceEqDiff, ↓reduceIte, Bool.true_or, Bool.or_true, Bool.false_or]
  | false =>
   cases C8 with
   | true =>
    refine ⟨?sf51_0a2, ?sf51_0b2, ?sf51_0c2, ?sf51_0d2⟩
    case sf51_0b2 =>
     simp only [amE, reduceEqDiff, ↓reduceIte, reduceCtorEq, reduceAdd, sf51_0, h, e5, e6, e8]
     rfl
    case sf51_0c2 => repeat (first | exact Kp.refl | refine Kp.set (by decide) ?_)
    case sf51_0d2 => simp only [Fr.get_set, reduceEqDiff, ↓reduceIte, Bool.true_or, Bool.or_true, Bool.false_or]
   | false =>
    cases C9 with
    | true =>
     refine ⟨?sf51_0a3, ?sf51_0b3, ?sf51_0c3, ?sf51_0d3⟩
     case sf51_0b3 =>
      simp only [amE, reduceEqDiff, ↓reduceIte, reduceCtorEq, reduceAdd, sf51_0, h, e5, e6, e8, e9]
      rfl
     case sf51_0c3 => repeat (first | exact Kp.refl | refine Kp.set (by decide) ?_)
     case sf51_0d3 => simp only [Fr.get_set, reduceEqDiff, ↓reduceIte, Bool.true_or, Bool.or_true, Bool.false_or]
    | false =>
     cases C11 with
     | true =>
      refine ⟨?sf51_0a4, ?sf51_0b4, ?sf51_0c4, ?sf51_0d4⟩
      case sf51_0b4 =>
       simp only [amE, reduceEqDiff, ↓reduceIte, reduceCtorEq, reduceAdd, sf51_0, h, e5, e6, e8, e9, e11]
       rfl
      case sf51_0c4 => repeat (first | exact Kp.refl | refine Kp.set (by decide) ?_)
      case sf51_0d4 => simp only [Fr.get_set, reduceEqDiff, ↓reduceIte, Bool.true_or, Bool.or_true, Bool.false_or]
     | false =>
      cases C18 with
      | true =>
       refine ⟨?sf51_0a5, ?sf51_0b5, ?sf51_0c5, ?sf51_0d5⟩
       case sf51_0b5 =>
        simp only [amE, reduceEqDiff, ↓reduceIte, reduceCtorEq, reduceAdd, sf51_0, h, e5, e6, e8, e9, e11, e18]
        rfl
       case sf51_0c5 => repeat (first | exact Kp.refl | refine Kp.set (by decide) ?_)
       case sf51_0d5 => simp only [Fr.get_set, reduceEqDiff, ↓reduceIte, Bool.true_or, Bool.or_true, Bool.false_or]
      | false =>
       refine ⟨?sf51_0a9, ?sf51_0b9, ?sf51_0c9, ?sf51_0d9⟩
       case sf51_0b9 =>
        simp only [amE, reduceEqDiff, ↓reduceIte, reduceCtorEq, reduceAdd, sf51_0, h, e5, e6, e8, e9, e11, e18]
        rfl
       case sf51_0c9 => repeat (first | exact Kp.refl | refine Kp.set (by decide) ?_)
       case sf51_0d9 => simp only [Fr.get_set, reduceEqDiff, ↓reduceIte, Bool.true_or, Bool.or_true, Bool.false_or]
theorem sf51_1_run {Γ : Gam} {Y : Yenv} {m : Nat} {fr : Fr} {st : St} {r : Int} (h : fr.get 169 = some (.int .i64 r)) : ∃ fr', acode Γ Y m sf51_1 none fr st = .norm fr' st /\ Kp [2, 3, 4, 16, 17, 169] fr fr' /\ fr'.get 182 = some (.bool (losesB r)) := by
 have eq : ∀ c : Nat, binB false .eql (.int .i64 r) (.int .i64 (.ofNat c)) = some (.bool (r == .ofNat c)) := fun _ => rfl
 have e3 := eq 3
 have e4 := eq 4
 have e14 := eq 14
 have e15 := eq 15
 have e17 := eq 17
 have e19 := eq 19
 have e16 := eq 16
 have hv : losesB r = ((r == .ofNat 3) || (r == .ofNat 4) || (r == .ofNat 14) || (r == .ofNat 15) || (r == .ofNat 17) || (r == .ofNat 19) || (r == .ofNat 16)) := rfl
 rw [hv]
 generalize (r == Int.ofNat 3) = C3 at *
 generalize (r == Int.ofNat 4) = C4 at *
 generalize (r == Int.ofNat 14) = C14 at *
 generalize (r == Int.ofNat 15) = C15 at *
 generalize (r == Int.ofNat 17) = C17 at *
 generalize (r == Int.ofNat 19) = C19 at *
 generalize (r == Int.ofNat 16) = C16 at *
 clear hv eq
 cases C3 with
 | true =>
  refine ⟨?sf51_1a0, ?sf51_1b0, ?sf51_1c0, ?sf51_1d0⟩
  case sf51_1b0 =>
   simp only [amE, reduceEqDiff, ↓reduceIte, reduceCtorEq, reduceAdd, sf51_1, h, e3]
   rfl
  case sf51_1c0 => repeat (first | exact Kp.refl | refine Kp.set (by decide) ?_)
  case sf51_1d0 => simp only [Fr.get_set, reduceEqDiff, ↓reduceIte, Bool.true_or, Bool.or_true, Bool.false_or]
 | false =>
  cases C4 with
  | true =>
   refine ⟨?sf51_1a1, ?sf51_1b1, ?sf51_1c1, ?sf51_1d1⟩
   case sf51_1b1 =>
    simp only [amE, reduceEqDiff, ↓reduceIte, reduceCtorEq, reduceAdd, sf51_1, h, e3, e4]
    rfl
   case sf51_1c1 => repeat (first | exact Kp.refl | refine Kp.set (by decide) ?_)
   case sf51_1d1 => simp only [Fr.get_set, reduceEqDiff, ↓reduceIte, Bool.true_or, Bool.or_true, Bool.false_or]
  | false =>
   cases C14 with
   | true =>
    refine ⟨?sf51_1a2, ?sf51_1b2, ?sf51_1c2, ?sf51_1d2⟩
    case sf51_1b2 =>
     simp only [amE, reduceEqDiff, ↓reduceIte, reduceCtorEq, reduceAdd, sf51_1, h, e3, e4, e14]
     rfl
    case sf51_1c2 => repeat (first | exact Kp.refl | refine Kp.set (by decide) ?_)
    case sf51_1d2 => simp only [Fr.get_set, reduceEqDiff, ↓reduceIte, Bool.true_or, Bool.or_true, Bool.false_or]
   | false =>
    cases C15 with
    | true =>
     refine ⟨?sf51_1a3, ?sf51_1b3, ?sf51_1c3, ?sf51_1d3⟩
     case sf51_1b3 =>
      simp only [amE, reduceEqDiff, ↓reduceIte, reduceCtorEq, reduceAdd, sf51_1, h, e3, e4, e14, e15]
      rfl
     case sf51_1c3 => repeat (first | exact Kp.refl | refine Kp.set (by decide) ?_)
     case sf51_1d3 => simp only [Fr.get_set, reduceEqDiff, ↓reduceIte, Bool.true_or, Bool.or_true, Bool.false_or]
    | false =>
     cases C17 with
     | true =>
      refine ⟨?sf51_1a4, ?sf51_1b4, ?sf51_1c4, ?sf51_1d4⟩
      case sf51_1b4 =>
       simp only [amE, reduceEqDiff, ↓reduceIte, reduceCtorEq, reduceAdd, sf51_1, h, e3, e4, e14, e15, e17]
       rfl
      case sf51_1c4 => repeat (first | exact Kp.refl | refine Kp.set (by decide) ?_)
      case sf51_1d4 => simp only [Fr.get_set, reduceEqDiff, ↓reduceIte, Bool.true_or, Bool.or_true, Bool.false_or]
     | false =>
      cases C19 with
      | true =>
       refine ⟨?sf51_1a5, ?sf51_1b5, ?sf51_1c5, ?sf51_1d5⟩
       case sf51_1b5 =>
        simp only [amE, reduceEqDiff, ↓reduceIte, reduceCtorEq, reduceAdd, sf51_1, h, e3, e4, e14, e15, e17, e19]
        rfl
       case sf51_1c5 => repeat (first | exact Kp.refl | refine Kp.set (by decide) ?_)
       case sf51_1d5 => simp only [Fr.get_set, reduceEqDiff, ↓reduceIte, Bool.true_or, Bool.or_true, Bool.false_or]
      | false =>
       cases C16 with
       | true =>
        refine ⟨?sf51_1a6, ?sf51_1b6, ?sf51_1c6, ?sf51_1d6⟩
        case sf51_1b6 =>
         simp only [amE, reduceEqDiff, ↓reduceIte, reduceCtorEq, reduceAdd, sf51_1, h, e3, e4, e14, e15, e17, e19, e16]
         rfl
        case sf51_1c6 => repeat (first | exact Kp.refl | refine Kp.set (by decide) ?_)
        case sf51_1d6 => simp only [Fr.get_set, reduceEqDiff, ↓reduceIte, Bool.true_or, Bool.or_true, Bool.false_or]
       | false =>
        refine ⟨?sf51_1a9, ?sf51_1b9, ?sf51_1c9, ?sf51_1d9⟩
        case sf51_1b9 =>
         simp only [amE, reduceEqDiff, ↓reduceIte, reduceCtorEq, reduceAdd, sf51_1, h, e3, e4, e14, e15, e17, e19, e16]
         rfl
        case sf51_1c9 => repeat (first | exact Kp.refl | refine Kp.set (by decide) ?_)
        case sf51_1d9 => simp only [Fr.get_set, reduceEqDiff, ↓reduceIte, Bool.true_or, Bool.or_true, Bool.false_or]
end
end Go.AM.D16
