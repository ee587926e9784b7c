import Derived.Test.YtphmjdnljmhipaaGreatDoorAmRd7
set_option linter.unusedSimpArgs false
set_option linter.unusedVariables false
set_option maxRecDepth 100000
namespace Go.AM.D16
open Go Go.AM
noncomputable section
open Nat (reduceEqDiff reduceAdd)
def g95_0 : List MOper := [⟨(some 2), .alloc [(.int .i64 (.ofNat 0)), (.int .i64 (.ofNat 0)), .nilsl], none⟩]
def g95_1 : List MOper := [⟨(some 5), .mv (.t 0), none⟩, ⟨(some 6), .call (.c (.func (.func 93) [] [])) [(.t 5)], none⟩, ⟨(some 7), .build [(.int .i64 (.ofNat 0)), (.int .i64 (.ofNat 0)), .nilsl] [(0, 1, (.c (.int .i64 (.ofNat 2)))), (1, 1, (.t 6))], none⟩, ⟨(some 3), .alloc [(.int .i64 (.ofNat 0)), (.int .i64 (.ofNat 0)), .nilsl], none⟩, ⟨none, .store 3 (.t 3) (.t 7), none⟩]
def g95_2 : List MOper := [⟨(some 8), .mv (.t 0), none⟩, ⟨(some 9), .call (.c (.func (.func 94) [] [])) [(.t 8), (.c (.int .u8 (.ofNat 40)))], none⟩, ⟨(some 10), .un .not (.t 9), none⟩]
def g95_3 : List MOper := [⟨(some 11), .load true 3 (.t 3), none⟩, ⟨none, .store 3 (.t 2) (.t 11), none⟩]
def g95_4 : List MOper := [⟨(some 12), .mv (.t 0), none⟩, ⟨(some 13), .nilchk (.t 12), none⟩, ⟨(some 14), .faddr 1 (.t 13), none⟩, ⟨(some 15), .load false 1 (.t 14), none⟩, ⟨(some 16), .bin false .add (.t 15) (.c (.int .i64 (.ofNat 1))), none⟩, ⟨(some 17), .nilchk (.t 12), none⟩, ⟨(some 18), .faddr 1 (.t 17), none⟩, ⟨none, .store 1 (.t 18) (.t 16), none⟩]
def g95_5 : List MOper := [⟨(some 4), .mv (.c (.bool true)), none⟩]
def g95_6 : List MOper := [⟨(some 19), .mv (.t 4), none⟩, ⟨(some 20), .mv (.t 19), none⟩, ⟨(some 21), .mv (.t 0), (some (20, true))⟩, ⟨(some 22), .nilchk (.t 21), (some (20, true))⟩, ⟨(some 23), .faddr 2 (.t 22), (some (20, true))⟩, ⟨(some 24), .load false 1 (.t 23), (some (20, true))⟩, ⟨(some 25), .un .not (.t 24), (some (20, true))⟩, ⟨(some 26), .pick (.t 20) (.t 25) (.c (.bool false)), none⟩]
def g95_7 : List (MOper × Nat) := [(⟨(some 27), .faddr 2 (.t 3), none⟩, 0), (⟨(some 28), .load false 1 (.t 27), none⟩, 1), (⟨(some 29), .mv (.t 0), none⟩, 0), (⟨(some 30), .call (.c (.func (.func 95) [] [])) [(.t 29)], none⟩, 4), (⟨(some 31), .bslice 1 [(.int .i64 (.ofNat 0)), (.int .i64 (.ofNat 0)), .nilsl] [(0, 3, (.t 30))], none⟩, 12), (⟨(some 32), .append 40 3 none (.t 28) (.t 31), none⟩, 31), (⟨(some 33), .faddr 2 (.t 3), none⟩, 63), (⟨none, .store 1 (.t 33) (.t 32), none⟩, 127)]
def g95_8 : List MOper := [⟨(some 34), .mv (.t 0), none⟩, ⟨(some 35), .nilchk (.t 34), none⟩, ⟨(some 36), .faddr 2 (.t 35), none⟩, ⟨(some 37), .load false 1 (.t 36), none⟩, ⟨(some 38), .un .not (.t 37), none⟩, ⟨(some 39), .mv (.t 38), none⟩, ⟨(some 40), .mv (.t 0), (some (39, true))⟩, ⟨(some 41), .call (.c (.func (.func 96) [] [])) [(.t 40), (.c (.int .u8 (.ofNat 41)))], (some (39, true))⟩, ⟨(some 42), .pick (.t 39) (.t 41) (.c (.bool false)), none⟩, ⟨(some 4), .mv (.t 42), none⟩]
def g95_9 : List MOper := [⟨(some 43), .load true 3 (.t 3), none⟩, ⟨none, .store 3 (.t 2) (.t 43), none⟩]
def bl95_0 : MCode := (.seq (.seq (.region g95_6) (.cond (.t 26) .skip (.exit 0))) (.block 1 (.seq (.draw g95_7 [(1, some 3), (1, some 5)]) (.region g95_8))))
def kf95 : MFunc := ⟨44, (.seq (.region g95_0) (.seq (.region g95_1) (.seq (.seq (.region g95_2) (.cond (.t 10) (.seq (.region g95_3) .ret) .skip)) (.seq (.region g95_4) (.seq (.region g95_5) (.seq (.block 0 (.loop bl95_0)) (.seq (.region g95_9) .ret))))))), [.cell 2 true 3]⟩
theorem t95 : tbl 95 = some kf95 := by kernel_rfl
def g60_0 : List MOper := [⟨(some 2), .alloc [(.int .i64 (.ofNat 0)), .nilsl, .nilsl], none⟩]
def g60_1 : List MOper := [⟨(some 6), .mv (.t 0), none⟩, ⟨(some 7), .call (.c (.func (.func 93) [] [])) [(.t 6)], none⟩, ⟨(some 8), .build [(.int .i64 (.ofNat 0)), .nilsl, .nilsl] [(0, 1, (.t 7))], none⟩, ⟨(some 3), .alloc [(.int .i64 (.ofNat 0)), .nilsl, .nilsl], none⟩, ⟨none, .store 3 (.t 3) (.t 8), none⟩]
def g60_2 : List MOper := [⟨(some 9), .mv (.t 0), none⟩, ⟨(some 10), .call (.c (.func (.func 94) [] [])) [(.t 9), (.c (.int .u8 (.ofNat 123)))], none⟩]
def g60_3 : List MOper := [⟨(some 11), .mv (.t 0), none⟩, ⟨(some 12), .nilchk (.t 11), none⟩, ⟨(some 13), .faddr 1 (.t 12), none⟩, ⟨(some 14), .load false 1 (.t 13), none⟩, ⟨(some 15), .bin false .add (.t 14) (.c (.int .i64 (.ofNat 1))), none⟩, ⟨(some 16), .nilchk (.t 11), none⟩, ⟨(some 17), .faddr 1 (.t 16), none⟩, ⟨none, .store 1 (.t 17) (.t 15), none⟩]
def g60_4 : List MOper := [⟨(some 4), .mv (.c (.bool true)), none⟩]
def g60_5 : List MOper := [⟨(some 18), .mv (.t 4), none⟩, ⟨(some 19), .mv (.t 18), none⟩, ⟨(some 20), .mv (.t 0), (some (19, true))⟩, ⟨(some 21), .nilchk (.t 20), (some (19, true))⟩, ⟨(some 22), .faddr 2 (.t 21), (some (19, true))⟩, ⟨(some 23), .load false 1 (.t 22), (some (19, true))⟩, ⟨(some 24), .un .not (.t 23), (some (19, true))⟩, ⟨(some 25), .pick (.t 19) (.t 24) (.c (.bool false)), none⟩]
def g60_6 : List (MOper × Nat) := [(⟨(some 26), .faddr 1 (.t 3), none⟩, 0), (⟨(some 27), .load false 1 (.t 26), none⟩, 1), (⟨(some 28), .mv (.t 0), none⟩, 0), (⟨(some 29), .call (.c (.func (.func 95) [] [])) [(.t 28)], none⟩, 4), (⟨(some 30), .bslice 1 [(.int .i64 (.ofNat 0)), (.int .i64 (.ofNat 0)), .nilsl] [(0, 3, (.t 29))], none⟩, 12), (⟨(some 31), .append 40 3 none (.t 27) (.t 30), none⟩, 31), (⟨(some 32), .faddr 1 (.t 3), none⟩, 63), (⟨none, .store 1 (.t 32) (.t 31), none⟩, 127)]
def g60_7 : List MOper := [⟨(some 33), .mv (.t 0), none⟩, ⟨(some 34), .nilchk (.t 33), none⟩, ⟨(some 35), .faddr 2 (.t 34), none⟩, ⟨(some 36), .load false 1 (.t 35), none⟩, ⟨(some 37), .un .not (.t 36), none⟩, ⟨(some 38), .mv (.t 37), none⟩, ⟨(some 39), .mv (.t 0), (some (38, true))⟩, ⟨(some 40), .call (.c (.func (.func 96) [] [])) [(.t 39), (.c (.int .u8 (.ofNat 125)))], (some (38, true))⟩, ⟨(some 41), .pick (.t 38) (.t 40) (.c (.bool false)), none⟩, ⟨(some 4), .mv (.t 41), none⟩]
def g60_8 : List MOper := [⟨(some 42), .mv (.t 0), none⟩, ⟨(some 43), .call (.c (.func (.func 94) [] [])) [(.t 42), (.c (.int .u8 (.ofNat 40)))], none⟩]
def g60_9 : List MOper := [⟨(some 44), .mv (.t 0), none⟩, ⟨(some 45), .nilchk (.t 44), none⟩, ⟨(some 46), .faddr 1 (.t 45), none⟩, ⟨(some 47), .load false 1 (.t 46), none⟩, ⟨(some 48), .bin false .add (.t 47) (.c (.int .i64 (.ofNat 1))), none⟩, ⟨(some 49), .nilchk (.t 44), none⟩, ⟨(some 50), .faddr 1 (.t 49), none⟩, ⟨none, .store 1 (.t 50) (.t 48), none⟩]
def g60_10 : List MOper := [⟨(some 5), .mv (.c (.bool true)), none⟩]
def g60_11 : List MOper := [⟨(some 51), .mv (.t 5), none⟩, ⟨(some 52), .mv (.t 51), none⟩, ⟨(some 53), .mv (.t 0), (some (52, true))⟩, ⟨(some 54), .nilchk (.t 53), (some (52, true))⟩, ⟨(some 55), .faddr 2 (.t 54), (some (52, true))⟩, ⟨(some 56), .load false 1 (.t 55), (some (52, true))⟩, ⟨(some 57), .un .not (.t 56), (some (52, true))⟩, ⟨(some 58), .pick (.t 52) (.t 57) (.c (.bool false)), none⟩]
def g60_12 : List (MOper × Nat) := [(⟨(some 59), .faddr 2 (.t 3), none⟩, 0), (⟨(some 60), .load false 1 (.t 59), none⟩, 1), (⟨(some 61), .mv (.t 0), none⟩, 0), (⟨(some 62), .call (.c (.func (.func 60) [] [])) [(.t 61)], none⟩, 4), (⟨(some 63), .bslice 1 [(.int .i64 (.ofNat 0)), .nilsl, .nilsl] [(0, 3, (.t 62))], none⟩, 12), (⟨(some 64), .append 56 3 none (.t 60) (.t 63), none⟩, 31), (⟨(some 65), .faddr 2 (.t 3), none⟩, 63), (⟨none, .store 1 (.t 65) (.t 64), none⟩, 127)]
def g60_13 : List MOper := [⟨(some 66), .mv (.t 0), none⟩, ⟨(some 67), .nilchk (.t 66), none⟩, ⟨(some 68), .faddr 2 (.t 67), none⟩, ⟨(some 69), .load false 1 (.t 68), none⟩, ⟨(some 70), .un .not (.t 69), none⟩, ⟨(some 71), .mv (.t 70), none⟩, ⟨(some 72), .mv (.t 0), (some (71, true))⟩, ⟨(some 73), .call (.c (.func (.func 96) [] [])) [(.t 72), (.c (.int .u8 (.ofNat 41)))], (some (71, true))⟩, ⟨(some 74), .pick (.t 71) (.t 73) (.c (.bool false)), none⟩, ⟨(some 5), .mv (.t 74), none⟩]
def g60_14 : List MOper := [⟨(some 75), .load true 3 (.t 3), none⟩, ⟨none, .store 3 (.t 2) (.t 75), none⟩]
def bl60_0 : MCode := (.seq (.seq (.region g60_11) (.cond (.t 58) .skip (.exit 2))) (.block 3 (.seq (.draw g60_12 [(1, some 3), (1, some 5)]) (.region g60_13))))
def bl60_1 : MCode := (.seq (.seq (.region g60_5) (.cond (.t 25) .skip (.exit 0))) (.block 1 (.seq (.draw g60_6 [(1, some 3), (1, some 5)]) (.region g60_7))))
def kf60 : MFunc := ⟨76, (.seq (.region g60_0) (.seq (.region g60_1) (.seq (.seq (.region g60_2) (.cond (.t 10) (.seq (.region g60_3) (.seq (.region g60_4) (.block 0 (.loop bl60_1)))) .skip)) (.seq (.seq (.region g60_8) (.cond (.t 43) (.seq (.region g60_9) (.seq (.region g60_10) (.block 2 (.loop bl60_0)))) .skip)) (.seq (.region g60_14) .ret))))), [.cell 2 true 3]⟩
theorem t60 : tbl 60 = some kf60 := by kernel_rfl
theorem lp95 (m : Nat) (Y : Yenv) (q id : Nat) (s : List Nat) (x y : AV) : LpOk m Y q id 95 41 40 s (fun sl => [x, y, sl]) g95_6 26 4 g95_7 g95_8 := by
 refine ⟨?T, ?D, ?R⟩
 case T =>
  intro fr st p b more g0 gm h
  have l2 := ld2 h
  cases more <;> cases b <;> exact ⟨_, by simp only [amE, reduceEqDiff, ↓reduceIte, reduceCtorEq, reduceAdd, g95_6, g0, gm, ncp, fa2, l2, unN, Bool.not_true, Bool.not_false] <;> rfl, Kp.refl.s.s.s.s.s.s.s.s, by simp only [Fr.get_set, reduceEqDiff, ↓reduceIte, Bool.and_true, Bool.and_false, Bool.true_and, Bool.false_and, Bool.not_true, Bool.not_false]⟩
 case D =>
  intro fr st st2 s3 sl sl' cs g0 g3 ho ho2 hc hcs ha ho3 hsl' hbq
  obtain ⟨ya, yb, yc, rfl⟩ : ∃ a b c, cs = [a, b, c] := by
   match cs, hcs with
   | [a, b, c], _ => exact ⟨a, b, c, rfl⟩
  have lo := ld2 ho
  have lo2 := ld2 ho2
  have sto := st32 ho3 hsl'
  have fl : fillA [(.int .i64 (.ofNat 0)), (.int .i64 (.ofNat 0)), .nilsl] [(0, 3, .agg [ya, yb, yc])] = some [ya, yb, yc] := rfl
  have hc' : ((gT m).cg Y).fn 95 [.ptr q 0] st = .ret (.agg [ya, yb, yc]) st2 := hc
  refine ⟨?f, adraw_ok (its := ?i) ?x ?y ?z, ?kq⟩
  case x =>
   simp only [amE, reduceEqDiff, ↓reduceIte, reduceCtorEq, reduceAdd, drun_cons, drun_nil, DR.cons, oprD, nextId, preA, g0, g3, g95_7, fa2, lo, hc', fl, cnt1, ha, tag0, sto]
   rfl
  case y => rfl
  case kq => exact Kp.refl.s.s.s.s.s.s.s
  case z =>
   simp only [List.all_cons, List.all_nil, Bool.and_true, Bool.and_eq_true]
   refine ⟨chk_of (i := 1) (k := 3) rfl rfl rfl rfl (.inr ⟨?k0, ?k1, hbq⟩), chk_of (i := 1) (k := 5) rfl rfl rfl rfl (.inr ⟨?k2, ?k3, hbq⟩)⟩
   case k1 =>
    simp only [amE, reduceEqDiff, ↓reduceIte, reduceCtorEq, reduceAdd, oprD, g0, g3, g95_7, fa2, lo, lo2, hc', fl, cnt1, ha, tag0, sto]
    rfl
   case k3 =>
    simp only [amE, reduceEqDiff, ↓reduceIte, reduceCtorEq, reduceAdd, oprD, g0, g3, g95_7, fa2, lo, lo2, hc', fl, cnt1, ha, tag0, sto]
    rfl
 case R =>
  intro fr st st2 p b v g0 h hb1 hb2
  have l2 := ld2 h
  cases b with
  | true =>
   obtain ⟨rfl, rfl⟩ := hb1 rfl
   exact ⟨_, by simp only [amE, reduceEqDiff, ↓reduceIte, reduceCtorEq, reduceAdd, g95_8, g0, ncp, fa2, l2, unN, Bool.not_true, Bool.not_false] <;> rfl, Kp.refl.s.s.s.s.s.s.s.s.s.s, gh⟩
  | false =>
   have hc := hb2 rfl
   exact ⟨_, by simp only [amE, reduceEqDiff, ↓reduceIte, reduceCtorEq, reduceAdd, g95_8, g0, ncp, fa2, l2, unN, Bool.not_true, Bool.not_false, cg_fn, hc] <;> rfl, Kp.refl.s.s.s.s.s.s.s.s.s.s, gh⟩
theorem lp60a (m : Nat) (Y : Yenv) (q id : Nat) (s : List Nat) (x y : AV) : LpOk m Y q id 95 125 40 s (fun sl => [x, sl, y]) g60_5 25 4 g60_6 g60_7 := by
 refine ⟨?T, ?D, ?R⟩
 case T =>
  intro fr st p b more g0 gm h
  have l2 := ld2 h
  cases more <;> cases b <;> exact ⟨_, by simp only [amE, reduceEqDiff, ↓reduceIte, reduceCtorEq, reduceAdd, g60_5, g0, gm, ncp, fa2, l2, unN, Bool.not_true, Bool.not_false] <;> rfl, Kp.refl.s.s.s.s.s.s.s.s, by simp only [Fr.get_set, reduceEqDiff, ↓reduceIte, Bool.and_true, Bool.and_false, Bool.true_and, Bool.false_and, Bool.not_true, Bool.not_false]⟩
 case D =>
  intro fr st st2 s3 sl sl' cs g0 g3 ho ho2 hc hcs ha ho3 hsl' hbq
  obtain ⟨ya, yb, yc, rfl⟩ : ∃ a b c, cs = [a, b, c] := by
   match cs, hcs with
   | [a, b, c], _ => exact ⟨a, b, c, rfl⟩
  have lo := ld1 ho
  have lo2 := ld1 ho2
  have sto := st3m ho3 hsl'
  have fl : fillA [(.int .i64 (.ofNat 0)), (.int .i64 (.ofNat 0)), .nilsl] [(0, 3, .agg [ya, yb, yc])] = some [ya, yb, yc] := rfl
  have hc' : ((gT m).cg Y).fn 95 [.ptr q 0] st = .ret (.agg [ya, yb, yc]) st2 := hc
  refine ⟨?f, adraw_ok (its := ?i) ?x ?y ?z, ?kq⟩
  case x =>
   simp only [amE, reduceEqDiff, ↓reduceIte, reduceCtorEq, reduceAdd, drun_cons, drun_nil, DR.cons, oprD, nextId, preA, g0, g3, g60_6, fa1, lo, hc', fl, cnt1, ha, tag0, sto]
   rfl
  case y => rfl
  case kq => exact Kp.refl.s.s.s.s.s.s.s
  case z =>
   simp only [List.all_cons, List.all_nil, Bool.and_true, Bool.and_eq_true]
   refine ⟨chk_of (i := 1) (k := 3) rfl rfl rfl rfl (.inr ⟨?k0, ?k1, hbq⟩), chk_of (i := 1) (k := 5) rfl rfl rfl rfl (.inr ⟨?k2, ?k3, hbq⟩)⟩
   case k1 =>
    simp only [amE, reduceEqDiff, ↓reduceIte, reduceCtorEq, reduceAdd, oprD, g0, g3, g60_6, fa1, lo, lo2, hc', fl, cnt1, ha, tag0, sto]
    rfl
   case k3 =>
    simp only [amE, reduceEqDiff, ↓reduceIte, reduceCtorEq, reduceAdd, oprD, g0, g3, g60_6, fa1, lo, lo2, hc', fl, cnt1, ha, tag0, sto]
    rfl
 case R =>
  intro fr st st2 p b v g0 h hb1 hb2
  have l2 := ld2 h
  cases b with
  | true =>
   obtain ⟨rfl, rfl⟩ := hb1 rfl
   exact ⟨_, by simp only [amE, reduceEqDiff, ↓reduceIte, reduceCtorEq, reduceAdd, g60_7, g0, ncp, fa2, l2, unN, Bool.not_true, Bool.not_false] <;> rfl, Kp.refl.s.s.s.s.s.s.s.s.s.s, gh⟩
  | false =>
   have hc := hb2 rfl
   exact ⟨_, by simp only [amE, reduceEqDiff, ↓reduceIte, reduceCtorEq, reduceAdd, g60_7, g0, ncp, fa2, l2, unN, Bool.not_true, Bool.not_false, cg_fn, hc] <;> rfl, Kp.refl.s.s.s.s.s.s.s.s.s.s, gh⟩
theorem lp60b (m : Nat) (Y : Yenv) (q id : Nat) (s : List Nat) (x y : AV) : LpOk m Y q id 60 41 56 s (fun sl => [x, y, sl]) g60_11 58 5 g60_12 g60_13 := by
 refine ⟨?T, ?D, ?R⟩
 case T =>
  intro fr st p b more g0 gm h
  have l2 := ld2 h
  cases more <;> cases b <;> exact ⟨_, by simp only [amE, reduceEqDiff, ↓reduceIte, reduceCtorEq, reduceAdd, g60_11, g0, gm, ncp, fa2, l2, unN, Bool.not_true, Bool.not_false] <;> rfl, Kp.refl.s.s.s.s.s.s.s.s, by simp only [Fr.get_set, reduceEqDiff, ↓reduceIte, Bool.and_true, Bool.and_false, Bool.true_and, Bool.false_and, Bool.not_true, Bool.not_false]⟩
 case D =>
  intro fr st st2 s3 sl sl' cs g0 g3 ho ho2 hc hcs ha ho3 hsl' hbq
  obtain ⟨ya, yb, yc, rfl⟩ : ∃ a b c, cs = [a, b, c] := by
   match cs, hcs with
   | [a, b, c], _ => exact ⟨a, b, c, rfl⟩
  have lo := ld2 ho
  have lo2 := ld2 ho2
  have sto := st32 ho3 hsl'
  have fl : fillA [(.int .i64 (.ofNat 0)), .nilsl, .nilsl] [(0, 3, .agg [ya, yb, yc])] = some [ya, yb, yc] := rfl
  have hc' : ((gT m).cg Y).fn 60 [.ptr q 0] st = .ret (.agg [ya, yb, yc]) st2 := hc
  refine ⟨?f, adraw_ok (its := ?i) ?x ?y ?z, ?kq⟩
  case x =>
   simp only [amE, reduceEqDiff, ↓reduceIte, reduceCtorEq, reduceAdd, drun_cons, drun_nil, DR.cons, oprD, nextId, preA, g0, g3, g60_12, fa2, lo, hc', fl, cnt1, ha, tag0, sto]
   rfl
  case y => rfl
  case kq => exact Kp.refl.s.s.s.s.s.s.s
  case z =>
   simp only [List.all_cons, List.all_nil, Bool.and_true, Bool.and_eq_true]
   refine ⟨chk_of (i := 1) (k := 3) rfl rfl rfl rfl (.inr ⟨?k0, ?k1, hbq⟩), chk_of (i := 1) (k := 5) rfl rfl rfl rfl (.inr ⟨?k2, ?k3, hbq⟩)⟩
   case k1 =>
    simp only [amE, reduceEqDiff, ↓reduceIte, reduceCtorEq, reduceAdd, oprD, g0, g3, g60_12, fa2, lo, lo2, hc', fl, cnt1, ha, tag0, sto]
    rfl
   case k3 =>
    simp only [amE, reduceEqDiff, ↓reduceIte, reduceCtorEq, reduceAdd, oprD, g0, g3, g60_12, fa2, lo, lo2, hc', fl, cnt1, ha, tag0, sto]
    rfl
 case R =>
  intro fr st st2 p b v g0 h hb1 hb2
  have l2 := ld2 h
  cases b with
  | true =>
   obtain ⟨rfl, rfl⟩ := hb1 rfl
   exact ⟨_, by simp only [amE, reduceEqDiff, ↓reduceIte, reduceCtorEq, reduceAdd, g60_13, g0, ncp, fa2, l2, unN, Bool.not_true, Bool.not_false] <;> rfl, Kp.refl.s.s.s.s.s.s.s.s.s.s, gh⟩
  | false =>
   have hc := hb2 rfl
   exact ⟨_, by simp only [amE, reduceEqDiff, ↓reduceIte, reduceCtorEq, reduceAdd, g60_13, g0, ncp, fa2, l2, unN, Bool.not_true, Bool.not_false, cg_fn, hc] <;> rfl, Kp.refl.s.s.s.s.s.s.s.s.s.s, gh⟩
theorem rgrNew {q p : Nat} {b : Bool} {a : St} {s : List Nat} {o : AO} (h : Rgr q a s p b) (hq : q < a.next) : Rgr q (a.new o) s p b := by
 unfold Rgr
 rw [St.get_new, if_neg (by omega)]; exact h
theorem rgrPut {q p i : Nat} {b : Bool} {a : St} {s : List Nat} {o : AO} (h : Rgr q a s p b) (hq : q ≠ i) : Rgr q (a.put i o) s p b := by
 unfold Rgr
 rw [St.get_put, if_neg hq]; exact h
theorem rnum_all {q : Nat} {st : St} {s : List Nat} {p : Nat} (h : Rgr q st s p false) (hp : p <= s.length) (hl : s.length < 9223372036854775807) (n : Nat) (Y : Yenv) (hn : 12 <= n) :
  ∃ x p1 b sB, R (n + 1) Y 93 [.ptr q 0] st = .ret (.int .i64 (.ofNat x)) sB /\ Rgr q sB s p1 b /\ Keep1 q st sB /\ sB.next = st.next /\ ((nm s p = .ok x p1 /\ b = false) \/ (nm s p = .err p1 /\ (b = true \/ dgt s p1 = true))) := by
 have h0 := rnum_run h hp hl n Y hn
 cases hn : nm s p with
 | ok x p1 =>
  rw [hn] at h0
  obtain ⟨sB, h1, h2, h3, h4⟩ := h0
  exact ⟨x, p1, false, sB, h1, h2, h3, h4, .inl ⟨rfl, rfl⟩⟩
 | err p1 =>
  rw [hn] at h0
  obtain ⟨sB, x, b, h1, h2, h3, h4, h5⟩ := h0
  exact ⟨x, p1, b, sB, h1, h2, h4, h5, .inr ⟨rfl, h3⟩⟩
theorem rgval_run {q : Nat} {s : List Nat} (hl : s.length <= 100000) (Y : Yenv) : ∀ (f m p : Nat) (st : St), 2 * f + s.length + 30 <= m -> Rgr q st s p false -> p <= s.length -> s.length + 1 - p <= f -> q < st.next -> OneG RepT q s m Y 95 st (pT s f p) := by
 intro f
 induction f using Nat.strongRecOn with
 | _ f ih =>
 intro m p st hm h hp hf hq
 cases f with
 | zero => omega
 | succ f =>
 obtain ⟨m, rfl⟩ : ∃ k, m = k + 2 := ⟨m - 2, by omega⟩
 have h0 := rgrNew (o := .row [(.int .i64 (.ofNat 0)), (.int .i64 (.ofNat 0)), .nilsl]) h hq
 have k0 := keepNew (q := q) (a := st) (.row [(.int .i64 (.ofNat 0)), (.int .i64 (.ofNat 0)), .nilsl])
 obtain ⟨n, p1, b, sB, hc, hB, kB, nB, hcase⟩ := rnum_all h0 hp (by omega) m Y (by omega)
 simp only [St.next_new] at nB
 rw [pT_eq]
 have fi : fillA [(.int .i64 (.ofNat 0)), (.int .i64 (.ofNat 0)), .nilsl] [(0, 1, .int .i64 (.ofNat 2)), (1, 1, .int .i64 (.ofNat n))] = some [.int .i64 (.ofNat 2), .int .i64 (.ofNat n), .nilsl] := rfl
 have sto := store_new (st := sB) (zs := [(.int .i64 (.ofNat 0)), (.int .i64 (.ofNat 0)), .nilsl]) (x := [.int .i64 (.ofNat 2), .int .i64 (.ofNat n), .nilsl]) rfl rfl rfl
 obtain ⟨sC, hsC⟩ : ∃ sC, sC = (sB.new (.row [(.int .i64 (.ofNat 0)), (.int .i64 (.ofNat 0)), .nilsl])).put sB.next (.row [.int .i64 (.ofNat 2), .int .i64 (.ofNat n), .nilsl]) := ⟨_, rfl⟩
 rw [<- hsC] at sto
 have hC : Rgr q sC s p1 b := by rw [hsC]; exact rgrPut (rgrNew hB (by omega)) (by omega)
 have nC : sC.next = sB.next + 1 := by rw [hsC]; rfl
 have kC : Keep1 q sB sC := by rw [hsC]; exact keepPut (keepNew _) (Nat.le_refl _)
 have gC : sC.get sB.next = some (.row [.int .i64 (.ofNat 2), .int .i64 (.ofNat n), .nilsl]) := by rw [hsC, St.get_put, if_pos rfl]
 have gA : sC.get st.next = some (.row [(.int .i64 (.ofNat 0)), (.int .i64 (.ofNat 0)), .nilsl]) := by
  rw [kC.2 _ (by omega) (by omega), kB.2 _ (by simp) (by omega), St.get_new, if_pos rfl]
 have nx := next_run hC 40 m Y
 have k2 := (k0.trans kB).trans kC
 cases hw : (!b && sgn s p1 40) with
 | false =>
  rw [hw] at nx
  have ld := load_row gC rfl
  have st2 := st3 (x := [.int .i64 (.ofNat 2), .int .i64 (.ofNat n), .nilsl]) gA rfl ⟨rfl, rfl⟩
  obtain ⟨sF, hsF⟩ : ∃ sF, sF = sC.put st.next (.row [.int .i64 (.ofNat 2), .int .i64 (.ofNat n), .nilsl]) := ⟨_, rfl⟩
  rw [<- hsF] at st2
  have hF : Rgr q sF s p1 b := by rw [hsF]; exact rgrPut hC (by omega)
  have kF : Keep1 q st sF := by rw [hsF]; exact keepPut k2 (Nat.le_refl _)
  have ldF : loadA true 3 sF (.ptr st.next 0) = some (.agg [.int .i64 (.ofNat 2), .int .i64 (.ofNat n), .nilsl]) := load_row (by rw [hsF, St.get_put, if_pos rfl]) rfl
  have hrun : R (m + 2) Y 95 [.ptr q 0] st = .ret (.agg [.int .i64 (.ofNat 2), .int .i64 (.ofNat n), .nilsl]) sF := by
   refine fun_of (mf := kf95) (fr := ?f3) t95 rfl (.inl ?x3) ?d3 ?r3
   case x3 => simp only [amE, reduceEqDiff, ↓reduceIte, reduceCtorEq, reduceAdd, kf95, g95_0, g95_1, g95_2, g95_3, cg_fn, hc, fi, sto, nx, unN, Bool.not_false, ld, st2] <;> rfl
   case d3 => rfl
   case r3 => simp only [kf95, amE, reduceEqDiff, ↓reduceIte, ldF]
  rcases hcase with ⟨hn, hb⟩ | ⟨hn, hb⟩
  ·rw [hb, Bool.not_false, Bool.true_and] at hw
   rw [hn]
   simp only [pB_E]
   rw [if_neg (by rw [hw]; decide)]
   refine ⟨_, sF, hrun, by rw [hb] at hF; exact hF, kF, ?_⟩
   simp only [RepT]
   exact ⟨.nilsl, [], rfl, SlR.nil _ _, rfl⟩
  ·rw [hn]
   exact ⟨_, sF, b, hrun, hF, hb, kF, rfl, rfl⟩
 | true =>
  rw [hw] at nx
  rw [Bool.and_eq_true] at hw
  obtain ⟨hb, hs⟩ := hw
  have hb : b = false := by cases b <;> first | rfl | cases hb
  subst hb
  have hn : nm s p = .ok n p1 := by
   rcases hcase with ⟨hn, _⟩ | ⟨_, hb⟩
   ·exact hn
   ·rcases hb with hb | hb
    ·cases hb
    ·rw [dgt_sgn hb (by decide)] at hs; cases hs
  rw [hn]
  simp only [pB_E]
  rw [if_pos hs]
  obtain ⟨hp1, hp2⟩ := nm_pos hn
  have hpl := sgn_lt hs
  have l1 := ld1 hC
  have ad := add1 (i := p1) (by omega)
  have sto1 := st31 (k := .i64) (v := .ofNat (p1 + 1)) hC
  obtain ⟨sD, hsD⟩ : ∃ sD, sD = sC.put q (.row [.str s, .int .i64 (.ofNat (p1 + 1)), .bool false]) := ⟨_, rfl⟩
  rw [<- hsD] at sto1
  have hD : Rgr q sD s (p1 + 1) false := by unfold Rgr; rw [hsD, St.get_put, if_pos rfl]
  have gD : sD.get sB.next = some (.row [.int .i64 (.ofNat 2), .int .i64 (.ofNat n), .nilsl]) := by rw [hsD, St.get_put, if_neg (by omega)]; exact gC
  have nD : sD.next = sC.next := by rw [hsD]; rfl
  have kD : Keep1 q sC sD := by rw [hsD]; exact Keep1.put q sC _
  obtain ⟨fr1, hpre, q0, q2, q3, q4, qd⟩ : ∃ fr1, (∀ L T, acode (gT (m + 1)) Y (m + 1) (.seq (.region g95_0) (.seq (.region g95_1) (.seq (.seq (.region g95_2) (.cond (.t 10) (.seq (.region g95_3) .ret) .skip)) (.seq (.region g95_4) (.seq (.region g95_5) (.seq L T)))))) none (frOf 0 [.ptr q 0] Fr.nil) st = match acode (gT (m + 1)) Y (m + 1) L none fr1 sD with | .norm fr s => acode (gT (m + 1)) Y (m + 1) T none fr s | r => r) /\ fr1.get 0 = some (.ptr q 0) /\ fr1.get 2 = some (.ptr st.next 0) /\ fr1.get 3 = some (.ptr sB.next 0) /\ fr1.get 4 = some (.bool true) /\ fr1.ds = [] := by
   refine ⟨?f7, fun L T => ?x7, ?a7, ?b7, ?c7, ?d7, ?e7⟩
   case x7 =>
    simp only [amE, reduceEqDiff, ↓reduceIte, reduceCtorEq, reduceAdd, g95_0, g95_1, g95_2, g95_4, g95_5, cg_fn, hc, fi, sto, nx, unN, Bool.not_true, ncp, fa1, l1, ad, sto1]
    rfl
   case a7 => simp only [Fr.get_set, reduceEqDiff, ↓reduceIte]
   case b7 => simp only [Fr.get_set, reduceEqDiff, ↓reduceIte]
   case c7 => simp only [Fr.get_set, reduceEqDiff, ↓reduceIte]
   case d7 => simp only [Fr.get_set, reduceEqDiff, ↓reduceIte]
   case e7 => rfl
  have b00 : Nat.beq 0 0 = true := rfl
  have key := gloop (α := Tm) (Rep := RepT) (FM := f + 1) (x := 0) (lo := sC.next) (a := st.next) (one := pT s) (rs := fun f p => pTl s f 41 p) (lp95 (m + 1) Y q sB.next s (.int .i64 (.ofNat 2)) (.int .i64 (.ofNat n))) (fun f p => pTl_eq s f 41 p) (fun f p t p2 h => (pT_pos s f).1 p t p2 h) (fun {_ _ _ _ t cs} k g h => RepT.mono k g t cs h) (fun h => h.cells3) (by decide) (by omega) hl (by decide)
   (fun f' p' st' r1 r2 r3 r4 r5 => ih f' (by omega) (m + 1) p' st' (by omega) r1 r2 r3 r5) (by omega) (by omega) (by omega) f (p1 + 1) fr1 sD (m + 1) [] .nilsl [] (fun _ => False) (by omega) (by omega) (by omega) hD (by omega) q0 q2 q3 q4 gD (Gr.nil _ _) rfl (by omega) (Nat.zero_le _)
  -- the loop's end
  have fin : ∀ {FR : Fr} {s9 : St} {sl : AV} {xs : List (List AV)} {G : Nat -> Prop} {b : Bool} {p9 : Nat}, aloop (acode (gT (m + 1)) Y (m + 1) (blG g95_6 26 0 g95_7 g95_8) none) (m + 1) fr1 sD = .exit 0 FR s9 -> FR.ds = fr1.ds -> FR.get 2 = some (.ptr st.next 0) -> FR.get 3 = some (.ptr sB.next 0) -> Rgr q s9 s p9 b -> s9.get sB.next = some (.row [.int .i64 (.ofNat 2), .int .i64 (.ofNat n), sl]) -> K2 q sB.next sC.next sD s9 -> Gr sC.next s9 sl xs G ->
    ∃ sF, R (m + 2) Y 95 [.ptr q 0] st = .ret (.agg [.int .i64 (.ofNat 2), .int .i64 (.ofNat n), sl]) sF /\ Rgr q sF s p9 b /\ Keep1 q st sF /\ sF.next = s9.next /\ (∀ i, sC.next <= i -> sF.get i = s9.get i) /\ [AV.int .i64 (.ofNat 2), .int .i64 (.ofNat n), sl].all AV.one = true := by
   intro FR s9 sl xs G b p9 e1 e2 e3 e4 e5 e6 e7 e8
   have ld := load_row e6 rfl
   have c1 : [AV.int .i64 (.ofNat 2), .int .i64 (.ofNat n), sl].all AV.one = true := by show (true && (true && (AV.one sl && true))) = true; rw [e8.one]; rfl
   have k7 := e7.1
   have g9A : s9.get st.next = some (.row [(.int .i64 (.ofNat 0)), (.int .i64 (.ofNat 0)), .nilsl]) := by rw [e7.2 _ (by omega) (by omega) (by omega), kD.2 _ (by omega) (by omega)]; exact gA
   have st2 := st3 (x := [.int .i64 (.ofNat 2), .int .i64 (.ofNat n), sl]) g9A rfl ⟨rfl, c1⟩
   obtain ⟨sF, hsF⟩ : ∃ sF, sF = s9.put st.next (.row [.int .i64 (.ofNat 2), .int .i64 (.ofNat n), sl]) := ⟨_, rfl⟩
   rw [<- hsF] at st2
   have ldF : loadA true 3 sF (.ptr st.next 0) = some (.agg [.int .i64 (.ofNat 2), .int .i64 (.ofNat n), sl]) := load_row (by rw [hsF, St.get_put, if_pos rfl]) rfl
   refine ⟨sF, fun_of (mf := kf95) (fr := ?f4) t95 rfl (.inl ((hpre _ _).trans ?x4)) ?d4 ?r4, by rw [hsF]; exact rgrPut e5 (by omega), ?k4, by rw [hsF]; rfl, fun i hi => by rw [hsF, St.get_put, if_neg (by omega)], c1⟩
   case x4 =>
    have e1' : aloop (acode (gT (m + 1)) Y (m + 1) bl95_0 none) (m + 1) fr1 sD = .exit 0 FR s9 := e1
    simp only [amE, reduceEqDiff, ↓reduceIte, reduceCtorEq, reduceAdd, e1', b00, g95_9, e3, e4, ld, st2]
    rfl
   case d4 => exact e2.trans qd
   case r4 => simp only [kf95, amE, reduceEqDiff, ↓reduceIte, e3, ldF]
   case k4 =>
    refine ⟨by rw [hsF]; show st.next <= s9.next; omega, fun i hi hne => ?_⟩
    rw [hsF, St.get_put, if_neg (by omega), e7.2 i (by omega) hne (by omega), kD.2 i (by omega) hne]
    exact k2.2 i hi hne
  cases hr : pE (pT s f) (pTl s f 41) (p1 + 1) with
  | err e =>
   rw [hr] at key
   simp only [LoopG] at key
   obtain ⟨FR, s9, sl, xs, G, e1, e2, e3, e34, e4, e5, e6, e7, e8⟩ := key
   obtain ⟨sF, r1, r2, r3, r4, r5, r6⟩ := fin e1 e2 e34 e4 e5 e6 e7 e8
   exact ⟨_, sF, true, r1, r2, .inl rfl, r3, rfl, r6⟩
  | ok l p3 =>
   rw [hr] at key
   simp only [LoopG] at key
   obtain ⟨FR, s9, sl, xs, G, e1, e2, e3, e34, e4, e5, e6, e7, e8, e9, e10⟩ := key
   obtain ⟨sF, r1, r2, r3, r4, r5, r6⟩ := fin e1 e2 e34 e4 e5 e6 e7 e8
   refine ⟨_, sF, r1, r2, r3, ?_⟩
   simp only [RepT]
   have k7 := e7.1
   have hp3 : p3 <= s.length := by
    have hx : pB (pT s f) (pTl s f 41) s p1 40 = .ok l p3 := by rw [pB_E, if_pos hs]; exact hr
    exact (pB_pos (pT_pos s f).1 ((pT_pos s f).2 41) hp2 hx).2
   exact ⟨sl, xs, rfl, (e8.slr (by omega)).mono (fun i hi => r5 i hi.1) (fun i hi => by omega), RepTs.mono (fun i hi => r5 i (e8.1 i hi).1) (fun i hi => by have := e8.1 i hi; omega) l xs e10.tms⟩
end
end Go.AM.D16
