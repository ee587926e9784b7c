import Derived.Test.YtphmjdnljmhipaaGreatDoorAmSh9
import Derived.Test.YtphmjdnljmhipaaGreatDoorAmSh3
set_option linter.unusedSimpArgs false
set_option linter.unusedVariables false
set_option maxRecDepth 100000
namespace Go.AM.D16
open Go Go.AM
noncomputable section
open Nat (reduceEqDiff reduceAdd)
def kf114 : MFunc := ⟨9, (.seq (.region [⟨(some 2), .mv (.c (.int .i64 (.ofNat 0))), none⟩])
 (.seq (.seq (.region [⟨(some 3), .mv (.t 0), none⟩])
 (.block 0 (.seq (.seq (.region [⟨(some 5), .bin false .eql (.t 3) (.c (.int .i64 (.ofNat 1))), none⟩, ⟨(some 4), .mv (.t 5), none⟩])
 (.cond (.t 4)
 .skip
 (.region [⟨(some 6), .bin false .eql (.t 3) (.c (.int .i64 (.ofNat 2))), none⟩, ⟨(some 4), .mv (.t 6), none⟩])))
 (.cond (.t 4)
 (.seq (.region [⟨(some 2), .mv (.c (.int .i64 (.ofNat 0))), none⟩])
 .ret)
 (.seq (.region [⟨(some 8), .bin false .eql (.t 3) (.c (.int .i64 (.ofNat 7))), none⟩, ⟨(some 7), .mv (.t 8), none⟩])
 (.cond (.t 7)
 (.seq (.region [⟨(some 2), .mv (.c (.int .i64 (.ofNat 2))), none⟩])
 .ret)
 .skip))))))
 (.seq (.region [⟨(some 2), .mv (.c (.int .i64 (.ofNat 1))), none⟩])
 .ret))), [.t 2]⟩
theorem t114 : tbl 114 = some kf114 := by kernel_rfl
def kf115 : MFunc := ⟨9, (.seq (.region [⟨(some 2), .mv (.c (.int .i64 (.ofNat 0))), none⟩])
 (.seq (.seq (.region [⟨(some 3), .mv (.t 0), none⟩])
 (.block 0 (.seq (.seq (.region [⟨(some 5), .bin false .eql (.t 3) (.c (.int .i64 (.ofNat 1))), none⟩, ⟨(some 4), .mv (.t 5), none⟩])
 (.cond (.t 4)
 .skip
 (.region [⟨(some 6), .bin false .eql (.t 3) (.c (.int .i64 (.ofNat 2))), none⟩, ⟨(some 4), .mv (.t 6), none⟩])))
 (.cond (.t 4)
 (.seq (.region [⟨(some 2), .mv (.c (.int .i64 (.ofNat 8))), none⟩])
 .ret)
 (.seq (.region [⟨(some 8), .bin false .eql (.t 3) (.c (.int .i64 (.ofNat 16))), none⟩, ⟨(some 7), .mv (.t 8), none⟩])
 (.cond (.t 7)
 (.seq (.region [⟨(some 2), .mv (.c (.int .i64 (.ofNat 64))), none⟩])
 .ret)
 .skip))))))
 (.seq (.region [⟨(some 2), .mv (.c (.int .i64 (.ofNat 0))), none⟩])
 .ret))), [.t 2]⟩
theorem t115 : tbl 115 = some kf115 := by kernel_rfl
def bf48_0 : MCode := (.region [⟨(some 12), .mv (.t 3), none⟩, ⟨(some 13), .faddr 2 (.t 1), none⟩, ⟨(some 14), .load false 1 (.t 13), none⟩, ⟨(some 15), .mv (.t 4), none⟩, ⟨(some 16), .iaddr 3 (.t 14) (.t 15), none⟩, ⟨(some 17), .load true 3 (.t 16), none⟩, ⟨(some 18), .call (.c (.func (.func 48) [] [])) [(.t 17)], none⟩, ⟨(some 19), .max (.t 12) [(.t 18)], none⟩, ⟨(some 3), .mv (.t 19), none⟩])
def cf48_0 : List MOper := [⟨(some 5), .mv (.t 4), none⟩, ⟨(some 6), .faddr 2 (.t 1), none⟩, ⟨(some 7), .load false 1 (.t 6), none⟩, ⟨(some 8), .len 0 (.t 7), none⟩, ⟨(some 9), .bin false .lss (.t 5) (.t 8), none⟩]
def kf48 : MFunc := ⟨22, (.seq (.region [⟨(some 1), .box true (.t 0), none⟩, ⟨(some 2), .mv (.c (.int .i64 (.ofNat 0))), none⟩])
 (.seq (.region [⟨(some 3), .mv (.c (.int .i64 (.ofNat 0))), none⟩])
 (.seq (.seq (.region [⟨(some 4), .mv (.c (.int .i64 (.ofNat 0))), none⟩])
 (.block 0 (.loop (lb2 9 4 10 11 0 1 cf48_0 bf48_0))))
 (.seq (.region [⟨(some 20), .mv (.t 3), none⟩, ⟨(some 21), .bin false .add (.t 20) (.c (.int .i64 (.ofNat 1))), none⟩, ⟨(some 2), .mv (.t 21), none⟩])
 .ret)))), [.t 2]⟩
theorem t48 : tbl 48 = some kf48 := by kernel_rfl
def g46_0 : List MOper := [⟨(some 32), .iaddr 3 (.t 28) (.t 30), none⟩, ⟨(some 33), .load true 3 (.t 32), none⟩, ⟨(some 10), .alloc [(.int .i64 (.ofNat 0)), .nilsl, .nilsl], none⟩, ⟨none, .store 3 (.t 10) (.t 33), none⟩]
def g46_1 : List MOper := [⟨(some 35), .load true 3 (.t 10), none⟩, ⟨(some 36), .mv (.t 1), none⟩, ⟨(some 37), .mv (.t 2), none⟩, ⟨(some 38), .bin false .add (.t 37) (.c (.int .i64 (.ofNat 1))), none⟩, ⟨(some 39), .call (.c (.func (.func 46) [] [])) [(.t 35), (.t 36), (.t 38)], none⟩, ⟨(some 34), .mv (.t 39), none⟩, ⟨(some 40), .extract 0 (.t 34), none⟩, ⟨(some 41), .extract 1 (.t 34), none⟩, ⟨(some 11), .mv (.t 40), none⟩, ⟨(some 12), .mv (.t 41), none⟩]
def g46_4 : List MOper := [⟨(some 44), .mv (.t 8), none⟩, ⟨(some 45), .mv (.t 11), none⟩, ⟨(some 46), .max (.t 44) [(.t 45)], none⟩, ⟨(some 8), .mv (.t 46), none⟩]
def g46_6 : List MOper := [⟨(some 13), .mv (.t 1), none⟩, ⟨(some 14), .nilchk (.t 13), none⟩, ⟨(some 15), .load false 1 (.t 14), none⟩, ⟨(some 16), .bin false .sub (.t 15) (.c (.int .i64 (.ofNat 1))), none⟩, ⟨(some 17), .nilchk (.t 13), none⟩, ⟨none, .store 1 (.t 17) (.t 16), none⟩]
def g46_7 : List MOper := [⟨(some 18), .mv (.t 1), none⟩, ⟨(some 19), .nilchk (.t 18), none⟩, ⟨(some 20), .load false 1 (.t 19), none⟩, ⟨(some 21), .bin false .lss (.t 20) (.c (.int .i64 (.ofNat 0))), none⟩, ⟨(some 22), .mv (.t 21), none⟩, ⟨(some 23), .mv (.t 2), (some (22, false))⟩, ⟨(some 24), .bin false .gtr (.t 23) (.c (.int .i64 (.ofNat 400))), (some (22, false))⟩, ⟨(some 25), .pick (.t 22) (.c (.bool true)) (.t 24), none⟩]
def g46_10 : List MOper := [⟨(some 27), .faddr 2 (.t 3), none⟩, ⟨(some 28), .load false 1 (.t 27), none⟩, ⟨(some 29), .len 0 (.t 28), none⟩, ⟨(some 30), .mv (.c (.int .i64 (.ofNat 0))), none⟩]
def bf46_0 : MCode := (.seq (.region g46_0)
 (.seq (.region g46_1)
 (.seq (.seq (.region [⟨(some 42), .mv (.t 12), none⟩, ⟨(some 43), .un .not (.t 42), none⟩])
 (.cond (.t 43)
 (.seq (.region [⟨(some 6), .mv (.c (.int .i64 (.ofNat 0))), none⟩, ⟨(some 7), .mv (.c (.bool false)), none⟩])
 .ret)
 .skip))
 (.region g46_4))))
def kf46 : MFunc := ⟨49, (.seq (.region [⟨(some 3), .box true (.t 0), none⟩, ⟨(some 6), .mv (.c (.int .i64 (.ofNat 0))), none⟩, ⟨(some 7), .mv (.c (.bool false)), none⟩])
 (.seq (.seq (.region g46_6)
 (.seq (.region g46_7)
 (.cond (.t 25)
 (.seq (.region [⟨(some 6), .mv (.c (.int .i64 (.ofNat 0))), none⟩, ⟨(some 7), .mv (.c (.bool false)), none⟩])
 .ret)
 .skip)))
 (.seq (.region [⟨(some 26), .mv (.t 2), none⟩, ⟨(some 8), .mv (.t 26), none⟩])
 (.seq (.seq (.region g46_10)
 (.block 0 (.loop (lb 31 30 29 47 bf46_0))))
 (.seq (.region [⟨(some 48), .mv (.t 8), none⟩, ⟨(some 6), .mv (.t 48), none⟩, ⟨(some 7), .mv (.c (.bool true)), none⟩])
 .ret))))), [.t 6, .t 7]⟩
theorem t46 : tbl 46 = some kf46 := by kernel_rfl
def g13_0 : List MOper := [⟨(some 1), .box true (.t 0), none⟩, ⟨(some 2), .mv (.c (.int .i64 (.ofNat 0))), none⟩, ⟨(some 3), .mv (.c (.int .i64 (.ofNat 0))), none⟩]
def g13_2 : List MOper := [⟨(some 8), .load true 3 (.t 1), none⟩, ⟨(some 9), .call (.c (.func (.func 46) [] [])) [(.t 8), (.t 4), (.c (.int .i64 (.ofNat 1)))], none⟩, ⟨(some 7), .mv (.t 9), none⟩, ⟨(some 10), .extract 0 (.t 7), none⟩, ⟨(some 11), .extract 1 (.t 7), none⟩, ⟨(some 5), .mv (.t 10), none⟩, ⟨(some 6), .mv (.t 11), none⟩]
def g13_5 : List MOper := [⟨(some 14), .load false 1 (.t 4), none⟩, ⟨(some 15), .bin false .sub (.c (.int .i64 (.ofNat 4000))) (.t 14), none⟩, ⟨(some 16), .mv (.t 5), none⟩, ⟨(some 2), .mv (.t 15), none⟩, ⟨(some 3), .mv (.t 16), none⟩]
def kf13 : MFunc := ⟨17, (.seq (.region g13_0)
 (.seq (.region [⟨(some 4), .alloc [(.int .i64 (.ofNat 0))], none⟩, ⟨none, .store 1 (.t 4) (.c (.int .i64 (.ofNat 4000))), none⟩])
 (.seq (.region g13_2)
 (.seq (.seq (.region [⟨(some 12), .mv (.t 6), none⟩, ⟨(some 13), .un .not (.t 12), none⟩])
 (.cond (.t 13)
 (.seq (.region [⟨(some 2), .mv (.c (.int .i64 (.ofNat 4001))), none⟩, ⟨(some 3), .mv (.c (.int .i64 (.ofNat 401))), none⟩])
 .ret)
 .skip))
 (.seq (.region g13_5)
 .ret))))), [.t 2, .t 3]⟩
theorem t13 : tbl 13 = some kf13 := by kernel_rfl
def g14_0 : List MOper := [⟨(some 1), .box true (.t 0), none⟩, ⟨(some 2), .mv (.c (.int .i64 (.ofNat 0))), none⟩, ⟨(some 3), .mv (.c (.int .i64 (.ofNat 0))), none⟩]
def g14_1 : List MOper := [⟨(some 7), .load true 3 (.t 1), none⟩, ⟨(some 8), .call (.c (.func (.func 47) [] [])) [(.t 7), (.c (.int .i64 (.ofNat 4000))), (.c (.int .i64 (.ofNat 1)))], none⟩, ⟨(some 6), .mv (.t 8), none⟩, ⟨(some 9), .extract 0 (.t 6), none⟩, ⟨(some 10), .extract 1 (.t 6), none⟩, ⟨(some 4), .mv (.t 9), none⟩, ⟨(some 5), .mv (.t 10), none⟩]
def g14_4 : List MOper := [⟨(some 13), .mv (.t 4), none⟩, ⟨(some 14), .bin false .sub (.c (.int .i64 (.ofNat 4000))) (.t 13), none⟩, ⟨(some 15), .load true 3 (.t 1), none⟩, ⟨(some 16), .call (.c (.func (.func 48) [] [])) [(.t 15)], none⟩, ⟨(some 2), .mv (.t 14), none⟩, ⟨(some 3), .mv (.t 16), none⟩]
def kf14 : MFunc := ⟨17, (.seq (.region g14_0)
 (.seq (.region g14_1)
 (.seq (.seq (.region [⟨(some 11), .mv (.t 5), none⟩, ⟨(some 12), .un .not (.t 11), none⟩])
 (.cond (.t 12)
 (.seq (.region [⟨(some 2), .mv (.c (.int .i64 (.ofNat 4001))), none⟩, ⟨(some 3), .mv (.c (.int .i64 (.ofNat 401))), none⟩])
 .ret)
 .skip))
 (.seq (.region g14_4)
 .ret)))), [.t 2, .t 3]⟩
theorem t14 : tbl 14 = some kf14 := by kernel_rfl
theorem arity2_run (n : Nat) (Y : Yenv) (r : Int) (st : St) : R (n + 1) Y 114 [.int .i64 r] st = .ret (.int .i64 (.ofNat (arN r))) st := by
 have b00 : Nat.beq 0 0 = true := rfl
 have eq : ∀ c : Nat, binB false .eql (.int .i64 r) (.int .i64 (.ofNat c)) = some (.bool (r == .ofNat c)) := fun _ => rfl
 cases h1 : (r == Int.ofNat 1) with
 | true =>
  refine fun_of (mf := kf114) (fr := ?x1a) t114 rfl (.inl ?x1b) ?x1c ?x1d
  case x1b =>
   simp only [amE, reduceEqDiff, ↓reduceIte, reduceCtorEq, reduceAdd, kf114, b00, eq, h1]
   rfl
  case x1c => rfl
  case x1d =>
   simp only [kf114, amE, Fr.get_set, reduceEqDiff, ↓reduceIte]
   try (have x : r = 1 := by simpa using h1)
   try subst x
   try rfl
 | false =>
  cases h2 : (r == Int.ofNat 2) with
  | true =>
   refine fun_of (mf := kf114) (fr := ?x2a) t114 rfl (.inl ?x2b) ?x2c ?x2d
   case x2b =>
    simp only [amE, reduceEqDiff, ↓reduceIte, reduceCtorEq, reduceAdd, kf114, b00, eq, h1, h2]
    rfl
   case x2c => rfl
   case x2d =>
    simp only [kf114, amE, Fr.get_set, reduceEqDiff, ↓reduceIte]
    try (have x : r = 2 := by simpa using h2)
    try subst x
    try rfl
  | false =>
   cases h7 : (r == Int.ofNat 7) with
   | true =>
    refine fun_of (mf := kf114) (fr := ?x7a) t114 rfl (.inl ?x7b) ?x7c ?x7d
    case x7b =>
     simp only [amE, reduceEqDiff, ↓reduceIte, reduceCtorEq, reduceAdd, kf114, b00, eq, h1, h2, h7]
     rfl
    case x7c => rfl
    case x7d =>
     simp only [kf114, amE, Fr.get_set, reduceEqDiff, ↓reduceIte]
     try (have x : r = 7 := by simpa using h7)
     try subst x
     try rfl
   | false =>
    refine fun_of (mf := kf114) (fr := ?x0a) t114 rfl (.inl ?x0b) ?x0c ?x0d
    case x0b =>
     simp only [amE, reduceEqDiff, ↓reduceIte, reduceCtorEq, reduceAdd, kf114, b00, eq, h1, h2, h7]
     rfl
    case x0c => rfl
    case x0d =>
     simp only [kf114, amE, Fr.get_set, reduceEqDiff, ↓reduceIte]
     try ((have x1 : r ≠ 1 := by simpa using h1); (have x2 : r ≠ 2 := by simpa using h2); (have x7 : r ≠ 7 := by simpa using h7); simp only [arN, x1, x2, x7, or_self, ↓reduceIte]; done)
theorem values2_run (n : Nat) (Y : Yenv) (r : Int) (st : St) : R (n + 1) Y 115 [.int .i64 r] st = .ret (.int .i64 (.ofNat (vaN r))) st := by
 have b00 : Nat.beq 0 0 = true := rfl
 have eq : ∀ c : Nat, binB false .eql (.int .i64 r) (.int .i64 (.ofNat c)) = some (.bool (r == .ofNat c)) := fun _ => rfl
 cases h1 : (r == Int.ofNat 1) with
 | true =>
  refine fun_of (mf := kf115) (fr := ?x1a) t115 rfl (.inl ?x1b) ?x1c ?x1d
  case x1b =>
   simp only [amE, reduceEqDiff, ↓reduceIte, reduceCtorEq, reduceAdd, kf115, b00, eq, h1]
   rfl
  case x1c => rfl
  case x1d =>
   simp only [kf115, amE, Fr.get_set, reduceEqDiff, ↓reduceIte]
   try (have x : r = 1 := by simpa using h1)
   try subst x
   try rfl
 | false =>
  cases h2 : (r == Int.ofNat 2) with
  | true =>
   refine fun_of (mf := kf115) (fr := ?x2a) t115 rfl (.inl ?x2b) ?x2c ?x2d
   case x2b =>
    simp only [amE, reduceEqDiff, ↓reduceIte, reduceCtorEq, reduceAdd, kf115, b00, eq, h1, h2]
    rfl
   case x2c => rfl
   case x2d =>
    simp only [kf115, amE, Fr.get_set, reduceEqDiff, ↓reduceIte]
    try (have x : r = 2 := by simpa using h2)
    try subst x
    try rfl
  | false =>
   cases h16 : (r == Int.ofNat 16) with
   | true =>
    refine fun_of (mf := kf115) (fr := ?x16a) t115 rfl (.inl ?x16b) ?x16c ?x16d
    case x16b =>
     simp only [amE, reduceEqDiff, ↓reduceIte, reduceCtorEq, reduceAdd, kf115, b00, eq, h1, h2, h16]
     rfl
    case x16c => rfl
    case x16d =>
     simp only [kf115, amE, Fr.get_set, reduceEqDiff, ↓reduceIte]
     try (have x : r = 16 := by simpa using h16)
     try subst x
     try rfl
   | false =>
    refine fun_of (mf := kf115) (fr := ?x0a) t115 rfl (.inl ?x0b) ?x0c ?x0d
    case x0b =>
     simp only [amE, reduceEqDiff, ↓reduceIte, reduceCtorEq, reduceAdd, kf115, b00, eq, h1, h2, h16]
     rfl
    case x0c => rfl
    case x0d =>
     simp only [kf115, amE, Fr.get_set, reduceEqDiff, ↓reduceIte]
     try ((have x1 : r ≠ 1 := by simpa using h1); (have x2 : r ≠ 2 := by simpa using h2); (have x16 : r ≠ 16 := by simpa using h16); simp only [vaN, x1, x2, x16, or_self, ↓reduceIte]; done)
mutual
def dpD : Dv -> Int
 | .mk _ _ _ _ _ _ l => aw (dpL l (.ofNat 0)) 1
def dpL : List Dv -> Int -> Int
 | [], n => n
 | d :: l, n => dpL l (mx n (dpD d))
end
theorem dpL_nil (n : Int) : dpL [] n = n := by unfold dpL; rfl
theorem dpL_cons (d : Dv) (l : List Dv) (n : Int) : dpL (d :: l) n = dpL l (mx n (dpD d)) := by conv => lhs; unfold dpL
mutual
theorem dpD_eq : ∀ (d : Dv), d.depth <= 1000 -> dpD d = d.depth
 | .mk _ _ _ _ _ _ l, h => by
  simp only [Dv.depth] at h
  unfold dpD
  rw [dpL_eq l 0 (by omega) (by omega)]
  simp only [Dv.depth]
  rw [if_neg (by omega), aw_eq (by omega) (by omega)]
  omega
theorem dpL_eq : ∀ (l : List Dv) (n : Nat), Dv.depthL l <= 1000 -> n <= 1000 -> dpL l (.ofNat n) = if (Dv.depthL l) < n then (n : Int) else (Dv.depthL l : Int)
 | [], n, _, hn => by
  rw [dpL_nil]
  have : Dv.depthL [] = 0 := by unfold Dv.depthL; rfl
  rw [this]
  by_cases h : 0 < n
  ·rw [if_pos h]; rfl
  ·rw [if_neg h]; have : n = 0 := by omega
   rw [this]; rfl
 | d :: l, n, h, hn => by
  rw [depthL_max] at h ⊢
  have hd : d.depth <= 1000 := by split at h <;> omega
  have hl : Dv.depthL l <= 1000 := by split at h <;> omega
  rw [dpL_cons, dpD_eq d hd]
  have hm : mx (Int.ofNat n) (d.depth : Int) = Int.ofNat (if d.depth > n then d.depth else n) := by
   unfold mx
   by_cases c : d.depth > n
   ·rw [if_pos c, if_pos (by simp; omega)]; rfl
   ·rw [if_neg c, if_neg (by simp; omega)]
  rw [hm, dpL_eq l _ hl (by split <;> omega)]
  by_cases c1 : d.depth > n
  ·rw [if_pos c1]
   by_cases c2 : d.depth <= Dv.depthL l
   ·rw [if_pos c2, if_neg (by omega), if_neg (by omega)]
   ·rw [if_neg c2, if_pos (by omega), if_neg (by omega)]
  ·rw [if_neg c1]
   by_cases c2 : d.depth <= Dv.depthL l
   ·rw [if_pos c2]
   ·rw [if_neg c2]
    by_cases c3 : Dv.depthL l < n
    ·rw [if_pos c3]
     by_cases c4 : d.depth < n
     ·rw [if_pos c4]
     ·rw [if_neg c4]; omega
    ·rw [if_neg c3]; rw [if_neg (by omega)]; omega
end
theorem depth_run (d : Dv) : ∀ (n : Nat) (Y : Yenv) (F : Nat -> Prop) (st : St) (cs : List AV), RepD F st d cs -> d.fz <= n -> R n Y 48 [.agg cs] st = .ret (.int .i64 (dpD d)) st := by
 induction hs : d.fz using Nat.strongRecOn generalizing d with
 | _ s ih =>
 intro n Y F st cs hr hn
 cases d with
 | mk r nv ev vs nl ex l =>
 simp only [RepD] at hr
 obtain ⟨sv, xv, sl, xs, rfl, -, -, hsl, hrs⟩ := hr
 simp only [Dv.fz] at hs
 obtain ⟨m, rfl⟩ : ∃ m, n = m + 1 := ⟨n - 1, by omega⟩
 have b00 : Nat.beq 0 0 = true := rfl
 have hxl := hrs.len
 have hlen := hsl.len st
 have fm : ∀ x y : Int, foldA maxA (.int .i64 x) [.int .i64 y] = some (.int .i64 (mx x y)) := fun _ _ => rfl
 unfold dpD
 obtain ⟨fA1, hA1⟩ : ∃ fA, fA = frOf 0 [.agg [.int .i64 r, sv, sl]] Fr.nil := ⟨_, rfl⟩
 have gA1_0 : fA1.get 0 = some (.agg [.int .i64 r, sv, sl]) := by rw [hA1]; simp only [frOf, Fr.get_set, reduceAdd, reduceEqDiff, ↓reduceIte]
 have dA1 : fA1.ds = [] := by rw [hA1]; rfl
 obtain ⟨fR2, hR2, kR2, oR2_1⟩ : ∃ fr', arun ((gT m).cg Y) [⟨(some 1), .box true (.t 0), none⟩, ⟨(some 2), .mv (.c (.int .i64 (.ofNat 0))), none⟩] fA1 st = .ok fr' st /\ Kp [] fA1 fr' /\ fr'.get 1 = some (.fptr [.int .i64 r, sv, sl] 0) := ⟨_, by simp only [amE, reduceEqDiff, ↓reduceIte, reduceCtorEq, reduceAdd, gA1_0] <;> rfl, Kp.refl.s.s, gn gh⟩
 have dR2 := kR2.1.trans dA1
 obtain ⟨fR3, hR3, kR3, oR3_3⟩ : ∃ fr', arun ((gT m).cg Y) [⟨(some 3), .mv (.c (.int .i64 (.ofNat 0))), none⟩] fR2 st = .ok fr' st /\ Kp [1] fR2 fr' /\ fr'.get 3 = some (.int .i64 (.ofNat 0)) := ⟨_, by simp only [amE, reduceEqDiff, ↓reduceIte, reduceCtorEq, reduceAdd] <;> rfl, Kp.refl.s, gh⟩
 have gR3_1 := kR3.g 1 oR2_1
 have dR3 := kR3.1.trans dR2
 obtain ⟨fR4, hR4, kR4, oR4_4⟩ : ∃ fr', arun ((gT m).cg Y) [⟨(some 4), .mv (.c (.int .i64 (.ofNat 0))), none⟩] fR3 st = .ok fr' st /\ Kp [1, 3] fR3 fr' /\ fr'.get 4 = some (.int .i64 (.ofNat 0)) := ⟨_, by simp only [amE, reduceEqDiff, ↓reduceIte, reduceCtorEq, reduceAdd] <;> rfl, Kp.refl.s, gh⟩
 have gR4_1 := kR4.g 1 gR3_1
 have gR4_3 := kR4.g 3 oR3_3
 have dR4 := kR4.1.trans dR3
 have hC : ∀ k fr s, k <= xs.length -> Kp [1] fR4 fr -> fr.get 4 = some (.int .i64 (.ofNat k)) -> (s = st /\ ∃ o, fr.get 3 = some (.int .i64 o) /\ dpL (l.drop k) o = dpL l (.ofNat 0)) ->
   ∃ fr', arun ((gT m).cg Y) cf48_0 fr s = .ok fr' s /\ Kp [4, 1] fr fr' /\ fr'.get 9 = some (.bool (decide (k < xs.length))) /\ (s = st /\ ∃ o, fr'.get 3 = some (.int .i64 o) /\ dpL (l.drop k) o = dpL l (.ofNat 0)) := by
  intro k fr s hk hkp gi ⟨hst, o, q3, hq⟩
  subst hst
  have q1 := hkp.at (k := 1) (by decide) gR4_1
  refine ⟨?c0, ?c1, ?c2, ?c3, rfl, o, ?c4, hq⟩
  case c1 =>
   simp only [amE, reduceEqDiff, ↓reduceIte, reduceCtorEq, reduceAdd, cf48_0, q1, gi, faf, ld2f, hlen, lssD]
   rfl
  case c2 => repeat (first | exact Kp.refl | refine Kp.set (by decide) ?_)
  case c3 => simp only [Fr.get_set, reduceEqDiff, ↓reduceIte]
  case c4 => simp only [Fr.get_set, reduceEqDiff, ↓reduceIte, q3]
 have hB : ∀ k fr s, k < xs.length -> Kp [1] fR4 fr -> fr.get 4 = some (.int .i64 (.ofNat k)) -> (s = st /\ ∃ o, fr.get 3 = some (.int .i64 o) /\ dpL (l.drop k) o = dpL l (.ofNat 0)) ->
   (∃ FR s', acode (gT m) Y m bf48_0 none fr s = .norm FR s' /\ Kp [4, 1] fr FR /\ (s' = st /\ ∃ o, FR.get 3 = some (.int .i64 o) /\ dpL (l.drop (k + 1)) o = dpL l (.ofNat 0))) ∨
   (∃ FR s', acode (gT m) Y m bf48_0 none fr s = .ret FR s' /\ False) := by
  intro k fr s hk hkp gi ⟨hst, o, q3, hq⟩
  subst hst
  obtain ⟨t, ht, hdr⟩ := drop_at (l := l) (k := k) (by omega)
  obtain ⟨x, hx, hrx⟩ := hrs.at ht
  obtain ⟨p, ia, ld⟩ := hsl.at hx
  have ld := ld s (Same.refl _ _)
  have hfz := Dv.fzL_mem (List.mem_of_getElem? ht)
  have hcall : ((gT m).cg Y).fn 48 [.agg x] s = .ret (.int .i64 (dpD t)) s := ih t.fz (by omega) t rfl m Y F s x hrx (by omega)
  have q1 := hkp.at (k := 1) (by decide) gR4_1
  rw [hdr, dpL_cons] at hq
  obtain ⟨fR5, hR5, kR5, oR5_3⟩ : ∃ fr', arun ((gT m).cg Y) [⟨(some 12), .mv (.t 3), none⟩, ⟨(some 13), .faddr 2 (.t 1), none⟩, ⟨(some 14), .load false 1 (.t 13), none⟩, ⟨(some 15), .mv (.t 4), none⟩, ⟨(some 16), .iaddr 3 (.t 14) (.t 15), none⟩, ⟨(some 17), .load true 3 (.t 16), none⟩, ⟨(some 18), .call (.c (.func (.func 48) [] [])) [(.t 17)], none⟩, ⟨(some 19), .max (.t 12) [(.t 18)], none⟩, ⟨(some 3), .mv (.t 19), none⟩] fr s = .ok fr' s /\ Kp [1, 4] fr fr' /\ fr'.get 3 = some (.int .i64 (mx o (dpD t))) := ⟨_, by simp only [amE, reduceEqDiff, ↓reduceIte, reduceCtorEq, reduceAdd, q1, q3, gi, nd_max, faf, ld2f, ia, ld, hcall, fm] <;> rfl, Kp.refl.s.s.s.s.s.s.s.s.s, gh⟩
  refine .inl ⟨fR5, s, ?q5, kR5.sub (by decide), rfl, _, oR5_3, hq⟩
  case q5 => simp only [amE, reduceEqDiff, ↓reduceIte, reduceCtorEq, reduceAdd, bf48_0, hR5]
 rcases floop (Γ := (gT m)) (Y := Y) (m := m) (N := xs.length) (c := 9) (i := 4) (j1 := 10) (j2 := 11) (b := 0) (b1 := 1) (ro := none) (C := cf48_0) (B := bf48_0) (L := [1]) (fr0 := fR4) (by decide) (by decide) (by decide) hsl.2.1
  (Q := fun k fr s => s = st /\ ∃ o, fr.get 3 = some (.int .i64 o) /\ dpL (l.drop k) o = dpL l (.ofNat 0)) (fun k fr s x v hx ⟨h1, o, h2, h3⟩ => ⟨h1, o, by rw [Fr.get_set, if_neg (by omega)]; exact h2, h3⟩) hC hB xs.length 0 fR4 st m (by omega) (by omega) Kp.refl oR4_4 ⟨rfl, _, gR4_3, rfl⟩
  with ⟨FR, s', h1, h2, h3, o, h4, h5⟩ | ⟨FR, s', h1, h2⟩
 ·subst h3
  rw [hxl, List.drop_length, dpL_nil] at h5
  rw [<- h5]
  refine fun_of (mf := kf48) (fr := ((FR.set 20 (some (.int .i64 o))).set 21 (some (.int .i64 (aw o 1)))).set 2 (some (.int .i64 (aw o 1)))) t48 rfl (.inl ?w1) (h2.1.trans dR4) ?w2
  case w1 =>
   rw [<- hA1]
   simp only [amE, reduceEqDiff, ↓reduceIte, reduceCtorEq, reduceAdd, kf48, b00, hR2, hR3, hR4, h1, h4, addW]
  case w2 => simp only [kf48, amE, Fr.get_set, ↓reduceIte]
 ·exact absurd h2 id
theorem measure_run (d : Dv) : ∀ (n : Nat) (Y : Yenv) (F : Nat -> Prop) (st : St) (id : Nat) (left deep : Int) (cs : List AV), RepD F st d cs -> (∀ i, F i -> i < st.next) -> ¬ F id -> id < st.next -> st.get id = some (.row [.int .i64 left]) -> d.fz <= n ->
  ∃ st', R n Y 46 [.agg cs, .ptr id 0, .int .i64 deep] st = .ret (.tuple [.int .i64 (meD d left deep).1, .bool (meD d left deep).2.1]) st' /\ Keep1 id st st' /\ st'.get id = some (.row [.int .i64 (meD d left deep).2.2]) := by
 induction hs : d.fz using Nat.strongRecOn generalizing d with
 | _ s ih =>
 intro n Y F st id left deep cs hr hF hid hlt hg hn
 cases d with
 | mk r nv ev vs nl ex l =>
 simp only [RepD] at hr
 obtain ⟨sv, xv, sl, xs, rfl, -, -, hsl, hrs⟩ := hr
 simp only [Dv.fz] at hs
 obtain ⟨m, rfl⟩ : ∃ m, n = m + 1 := ⟨n - 1, by omega⟩
 have b00 : Nat.beq 0 0 = true := rfl
 have hxl := hrs.len
 have l1 : loadA false 1 st (.ptr id 0) = some (.int .i64 left) := ld0 hg
 have s1 := stb1 (k := .i64) (v := sw left 1) hg
 obtain ⟨st1, hst1⟩ : ∃ st1, st1 = st.put id (.row [.int .i64 (sw left 1)]) := ⟨_, rfl⟩
 rw [<- hst1] at s1
 have k1 : Keep1 id st st1 := by rw [hst1]; exact Keep1.put _ _ _
 have g1 : st1.get id = some (.row [.int .i64 (sw left 1)]) := by rw [hst1, St.get_put, if_pos rfl]
 have l2 : loadA false 1 st1 (.ptr id 0) = some (.int .i64 (sw left 1)) := ld0 g1
 have nc : ∀ x, nilchkA (.ptr id x) = some (.ptr id x) := fun _ => rfl
 have hlen := hsl.len st1
 have e1 : binB false .lss (.int .i64 (sw left 1)) (.int .i64 (.ofNat 0)) = some (.bool (decide (sw left 1 < 0))) := rfl
 have e2 : binB false .gtr (.int .i64 deep) (.int .i64 (.ofNat 400)) = some (.bool (decide (deep > 400))) := rfl
 have fm : ∀ x y : Int, foldA maxA (.int .i64 x) [.int .i64 y] = some (.int .i64 (mx x y)) := fun _ _ => rfl
 unfold meD
 obtain ⟨fA6, hA6⟩ : ∃ fA, fA = frOf 0 [.agg [.int .i64 r, sv, sl], .ptr id 0, .int .i64 deep] Fr.nil := ⟨_, rfl⟩
 have gA6_0 : fA6.get 0 = some (.agg [.int .i64 r, sv, sl]) := by rw [hA6]; simp only [frOf, Fr.get_set, reduceAdd, reduceEqDiff, ↓reduceIte]
 have gA6_1 : fA6.get 1 = some (.ptr id 0) := by rw [hA6]; simp only [frOf, Fr.get_set, reduceAdd, reduceEqDiff, ↓reduceIte]
 have gA6_2 : fA6.get 2 = some (.int .i64 deep) := by rw [hA6]; simp only [frOf, Fr.get_set, reduceAdd, reduceEqDiff, ↓reduceIte]
 have dA6 : fA6.ds = [] := by rw [hA6]; rfl
 obtain ⟨fR7, hR7, kR7, oR7_3⟩ : ∃ fr', arun ((gT m).cg Y) [⟨(some 3), .box true (.t 0), none⟩, ⟨(some 6), .mv (.c (.int .i64 (.ofNat 0))), none⟩, ⟨(some 7), .mv (.c (.bool false)), none⟩] fA6 st = .ok fr' st /\ Kp [1, 2] fA6 fr' /\ fr'.get 3 = some (.fptr [.int .i64 r, sv, sl] 0) := ⟨_, by simp only [amE, reduceEqDiff, ↓reduceIte, reduceCtorEq, reduceAdd, gA6_0] <;> rfl, Kp.refl.s.s.s, gn (gn gh)⟩
 have gR7_1 := kR7.g 1 gA6_1
 have gR7_2 := kR7.g 2 gA6_2
 have dR7 := kR7.1.trans dA6
 obtain ⟨fR8, hR8, kR8⟩ : ∃ fr', arun ((gT m).cg Y) g46_6 fR7 st = .ok fr' st1 /\ Kp [1, 2, 3] fR7 fr' := ⟨_, by simp only [amE, reduceEqDiff, ↓reduceIte, reduceCtorEq, reduceAdd, gR7_1, g46_6, nc, l1, subW, s1] <;> rfl, Kp.refl.s.s.s.s.s⟩
 have gR8_1 := kR8.g 1 gR7_1
 have gR8_2 := kR8.g 2 gR7_2
 have gR8_3 := kR8.g 3 oR7_3
 have dR8 := kR8.1.trans dR7
 by_cases c1 : sw left 1 < 0
 ·rw [if_pos c1]
  have hB1 := decide_eq_true c1
  obtain ⟨fR9, hR9, kR9, oR9_25⟩ : ∃ fr', arun ((gT m).cg Y) g46_7 fR8 st1 = .ok fr' st1 /\ Kp [1, 2, 3] fR8 fr' /\ fr'.get 25 = some (.bool true) := ⟨_, by simp only [amE, reduceEqDiff, ↓reduceIte, reduceCtorEq, reduceAdd, gR8_1, gR8_2, g46_7, nc, l2, e1, e2, hB1, Bool.not_true, Bool.not_false] <;> rfl, Kp.refl.s.s.s.s.s.s.s.s, by simp only [Fr.get_set, reduceEqDiff, ↓reduceIte, amB]⟩
  have dR9 := kR9.1.trans dR8
  obtain ⟨fR10, hR10, kR10, oR10_6, oR10_7⟩ : ∃ fr', arun ((gT m).cg Y) [⟨(some 6), .mv (.c (.int .i64 (.ofNat 0))), none⟩, ⟨(some 7), .mv (.c (.bool false)), none⟩] fR9 st1 = .ok fr' st1 /\ Kp [] fR9 fr' /\ fr'.get 6 = some (.int .i64 (.ofNat 0)) /\ fr'.get 7 = some (.bool false) := ⟨_, by simp only [amE, reduceEqDiff, ↓reduceIte, reduceCtorEq, reduceAdd] <;> rfl, Kp.refl.s.s, gn gh, gh⟩
  have dR10 := kR10.1.trans dR9
  refine ⟨st1, fun_of (mf := kf46) (fr := fR10) t46 rfl (.inl ?q10) dR10 (by simp only [kf46, amE, oR10_6, oR10_7]; rfl), k1, g1⟩
  case q10 =>
   rw [<- hA6]
   simp only [amE, reduceEqDiff, ↓reduceIte, reduceCtorEq, reduceAdd, kf46, b00, hR7, hR8, hR9, hR10, oR9_25]
 rw [if_neg c1]
 have hB1 := decide_eq_false c1
 by_cases c2 : deep > 400
 ·rw [if_pos c2]
  have hB2 := decide_eq_true c2
  obtain ⟨fR11, hR11, kR11, oR11_25⟩ : ∃ fr', arun ((gT m).cg Y) g46_7 fR8 st1 = .ok fr' st1 /\ Kp [1, 2, 3] fR8 fr' /\ fr'.get 25 = some (.bool true) := ⟨_, by simp only [amE, reduceEqDiff, ↓reduceIte, reduceCtorEq, reduceAdd, gR8_1, gR8_2, g46_7, nc, l2, e1, e2, hB1, hB2, Bool.not_true, Bool.not_false] <;> rfl, Kp.refl.s.s.s.s.s.s.s.s, by simp only [Fr.get_set, reduceEqDiff, ↓reduceIte, amB]⟩
  have dR11 := kR11.1.trans dR8
  obtain ⟨fR12, hR12, kR12, oR12_6, oR12_7⟩ : ∃ fr', arun ((gT m).cg Y) [⟨(some 6), .mv (.c (.int .i64 (.ofNat 0))), none⟩, ⟨(some 7), .mv (.c (.bool false)), none⟩] fR11 st1 = .ok fr' st1 /\ Kp [] fR11 fr' /\ fr'.get 6 = some (.int .i64 (.ofNat 0)) /\ fr'.get 7 = some (.bool false) := ⟨_, by simp only [amE, reduceEqDiff, ↓reduceIte, reduceCtorEq, reduceAdd] <;> rfl, Kp.refl.s.s, gn gh, gh⟩
  have dR12 := kR12.1.trans dR11
  refine ⟨st1, fun_of (mf := kf46) (fr := fR12) t46 rfl (.inl ?q12) dR12 (by simp only [kf46, amE, oR12_6, oR12_7]; rfl), k1, g1⟩
  case q12 =>
   rw [<- hA6]
   simp only [amE, reduceEqDiff, ↓reduceIte, reduceCtorEq, reduceAdd, kf46, b00, hR7, hR8, hR11, hR12, oR11_25]
 rw [if_neg c2]
 have hB2 := decide_eq_false c2
 obtain ⟨fR13, hR13, kR13, oR13_25⟩ : ∃ fr', arun ((gT m).cg Y) g46_7 fR8 st1 = .ok fr' st1 /\ Kp [1, 2, 3] fR8 fr' /\ fr'.get 25 = some (.bool false) := ⟨_, by simp only [amE, reduceEqDiff, ↓reduceIte, reduceCtorEq, reduceAdd, gR8_1, gR8_2, g46_7, nc, l2, e1, e2, hB1, hB2, Bool.not_true, Bool.not_false] <;> rfl, Kp.refl.s.s.s.s.s.s.s.s, by simp only [Fr.get_set, reduceEqDiff, ↓reduceIte, amB]⟩
 have gR13_1 := kR13.g 1 gR8_1
 have gR13_2 := kR13.g 2 gR8_2
 have gR13_3 := kR13.g 3 gR8_3
 have dR13 := kR13.1.trans dR8
 obtain ⟨fR14, hR14, kR14, oR14_8⟩ : ∃ fr', arun ((gT m).cg Y) [⟨(some 26), .mv (.t 2), none⟩, ⟨(some 8), .mv (.t 26), none⟩] fR13 st1 = .ok fr' st1 /\ Kp [1, 2, 3] fR13 fr' /\ fr'.get 8 = some (.int .i64 deep) := ⟨_, by simp only [amE, reduceEqDiff, ↓reduceIte, reduceCtorEq, reduceAdd, gR13_2] <;> rfl, Kp.refl.s.s, gh⟩
 have gR14_1 := kR14.g 1 gR13_1
 have gR14_2 := kR14.g 2 gR13_2
 have gR14_3 := kR14.g 3 gR13_3
 have dR14 := kR14.1.trans dR13
 obtain ⟨fR15, hR15, kR15, oR15_28, oR15_29, oR15_30⟩ : ∃ fr', arun ((gT m).cg Y) g46_10 fR14 st1 = .ok fr' st1 /\ Kp [1, 2, 8] fR14 fr' /\ fr'.get 28 = some (sl) /\ fr'.get 29 = some (.int .i64 (.ofNat xs.length)) /\ fr'.get 30 = some (.int .i64 (.ofNat 0)) := ⟨_, by simp only [amE, reduceEqDiff, ↓reduceIte, reduceCtorEq, reduceAdd, gR14_3, g46_10, faf, ld2f, hlen] <;> rfl, Kp.refl.s.s.s.s, gn (gn gh), gn gh, gh⟩
 have gR15_1 := kR15.g 1 gR14_1
 have gR15_2 := kR15.g 2 gR14_2
 have gR15_8 := kR15.g 8 oR14_8
 have dR15 := kR15.1.trans dR14
 have hF1 : ∀ i, F i -> i < st1.next := fun i hi => Nat.lt_of_lt_of_le (hF i hi) k1.1
 have sm1 : Same F st st1 := Same.of1 k1 hF hid
 have hB : ∀ k fr s, k < xs.length -> Kp [1, 2, 28, 29] fR15 fr -> fr.get 30 = some (.int .i64 (.ofNat k)) -> (Keep1 id st1 s /\ ∃ lf mo, fr.get 8 = some (.int .i64 mo) /\ s.get id = some (.row [.int .i64 lf]) /\ meDL (l.drop k) lf deep mo = meDL l (sw left 1) deep deep) ->
   (∃ FR s', acode (gT m) Y m bf46_0 none fr s = .norm FR s' /\ Kp [30, 1, 2, 28, 29] fr FR /\ (Keep1 id st1 s' /\ ∃ lf mo, FR.get 8 = some (.int .i64 mo) /\ s'.get id = some (.row [.int .i64 lf]) /\ meDL (l.drop (k + 1)) lf deep mo = meDL l (sw left 1) deep deep)) ∨
   (∃ FR s', acode (gT m) Y m bf46_0 none fr s = .ret FR s' /\ (FR.ds = [] /\ FR.get 6 = some (.int .i64 (meDL l (sw left 1) deep deep).1) /\ FR.get 7 = some (.bool (meDL l (sw left 1) deep deep).2.1) /\ Keep1 id st1 s' /\ s'.get id = some (.row [.int .i64 (meDL l (sw left 1) deep deep).2.2]))) := by
  intro k fr s hk hkp g30 ⟨hks, lf, mo, q8, hgl, hq⟩
  obtain ⟨t, ht, hdr⟩ := drop_at (l := l) (k := k) (by omega)
  obtain ⟨x, hx, hrx⟩ := hrs.at ht
  obtain ⟨p, ia, ld⟩ := hsl.at hx
  have hsame : Same F st s := sm1.trans (Same.of1 hks hF1 hid)
  have ld := ld s hsame
  obtain ⟨s1, sto, ks, go, hnx⟩ := next_el s (zs := [(.int .i64 (.ofNat 0)), .nilsl, .nilsl]) rfl hrx.cells3
  have hlt1 : id < s.next := Nat.lt_of_lt_of_le hlt (Nat.le_trans k1.1 hks.1)
  have lx := load_row go hrx.cells3.1
  have hfz := Dv.fzL_mem (List.mem_of_getElem? ht)
  obtain ⟨s2, hcall, ks2, hg2⟩ := ih t.fz (by omega) t rfl m Y F s1 id lf (aw deep 1) x (hrx.mono (hsame.trans (Same.of ks fun i hi => Nat.lt_of_lt_of_le (hF1 i hi) hks.1)) fun _ h => h) (fun i hi => Nat.lt_of_lt_of_le (hF1 i hi) (Nat.le_trans hks.1 ks.1)) hid (Nat.lt_of_lt_of_le hlt1 ks.1) (ks.get hlt1 hgl) (by omega)
  have hcall' : ((gT m).cg Y).fn 46 [.agg x, .ptr id 0, .int .i64 (aw deep 1)] s1 = .ret (.tuple [.int .i64 (meD t lf (aw deep 1)).1, .bool (meD t lf (aw deep 1)).2.1]) s2 := hcall
  have kk : Keep1 id st1 s2 := (hks.trans (Keep1.of ks)).trans ks2
  have q1 := hkp.at (k := 1) (by decide) gR15_1
  have q2 := hkp.at (k := 2) (by decide) gR15_2
  have q28 := hkp.at (k := 28) (by decide) oR15_28
  rw [hdr, meDL_cons] at hq
  generalize (meD t lf (aw deep 1)).1 = M2 at *
  generalize (meD t lf (aw deep 1)).2.2 = L2 at *
  generalize (meD t lf (aw deep 1)).2.1 = ok at *
  obtain ⟨fR16, hR16, kR16, oR16_10⟩ : ∃ fr', arun ((gT m).cg Y) g46_0 fr s = .ok fr' s1 /\ Kp [1, 2, 8, 28, 29, 30] fr fr' /\ fr'.get 10 = some (.ptr s.next 0) := ⟨_, by simp only [amE, reduceEqDiff, ↓reduceIte, reduceCtorEq, reduceAdd, q28, g30, g46_0, ia, ld, sto] <;> rfl, Kp.refl.s.s.s, gh⟩
  have gR16_1 := kR16.g 1 q1
  have gR16_2 := kR16.g 2 q2
  have gR16_8 := kR16.g 8 q8
  obtain ⟨fR17, hR17, kR17, oR17_11, oR17_12⟩ : ∃ fr', arun ((gT m).cg Y) g46_1 fR16 s1 = .ok fr' s2 /\ Kp [1, 2, 8, 28, 29, 30] fR16 fr' /\ fr'.get 11 = some (.int .i64 M2) /\ fr'.get 12 = some (.bool ok) := ⟨_, by simp only [amE, reduceEqDiff, ↓reduceIte, reduceCtorEq, reduceAdd, gR16_1, gR16_2, oR16_10, g46_1, lx, addW, hcall', ex20, ex21] <;> rfl, Kp.refl.s.s.s.s.s.s.s.s.s.s, gn gh, gh⟩
  have gR17_8 := kR17.g 8 gR16_8
  obtain ⟨fR18, hR18, kR18, oR18_43⟩ : ∃ fr', arun ((gT m).cg Y) [⟨(some 42), .mv (.t 12), none⟩, ⟨(some 43), .un .not (.t 42), none⟩] fR17 s2 = .ok fr' s2 /\ Kp [1, 2, 8, 11, 28, 29, 30] fR17 fr' /\ fr'.get 43 = some (.bool (!ok)) := ⟨_, by simp only [amE, reduceEqDiff, ↓reduceIte, reduceCtorEq, reduceAdd, oR17_12, unN, Bool.not_true, Bool.not_false] <;> rfl, Kp.refl.s.s, gh⟩
  have gR18_8 := kR18.g 8 gR17_8
  have gR18_11 := kR18.g 11 oR17_11
  cases ok with
  | true =>
   obtain ⟨fR19, hR19, kR19, oR19_8⟩ : ∃ fr', arun ((gT m).cg Y) g46_4 fR18 s2 = .ok fr' s2 /\ Kp [1, 2, 28, 29, 30] fR18 fr' /\ fr'.get 8 = some (.int .i64 (mx mo M2)) := ⟨_, by simp only [amE, reduceEqDiff, ↓reduceIte, reduceCtorEq, reduceAdd, gR18_8, gR18_11, g46_4, nd_max, fm] <;> rfl, Kp.refl.s.s.s.s, gh⟩
   rw [if_pos rfl] at hq
   refine .inl ⟨fR19, s2, ?q19, ((((kR16.sub (by decide)).trans (kR17.sub (by decide))).trans (kR18.sub (by decide))).trans (kR19.sub (by decide))), kk, L2, _, oR19_8, hg2, hq⟩
   case q19 => simp only [amE, reduceEqDiff, ↓reduceIte, reduceCtorEq, reduceAdd, bf46_0, hR16, hR17, hR18, hR19, oR18_43, Bool.not_true]
  | false =>
   obtain ⟨fR20, hR20, kR20, oR20_6, oR20_7⟩ : ∃ fr', arun ((gT m).cg Y) [⟨(some 6), .mv (.c (.int .i64 (.ofNat 0))), none⟩, ⟨(some 7), .mv (.c (.bool false)), none⟩] fR18 s2 = .ok fr' s2 /\ Kp [] fR18 fr' /\ fr'.get 6 = some (.int .i64 (.ofNat 0)) /\ fr'.get 7 = some (.bool false) := ⟨_, by simp only [amE, reduceEqDiff, ↓reduceIte, reduceCtorEq, reduceAdd] <;> rfl, Kp.refl.s.s, gn gh, gh⟩
   rw [if_neg (by decide)] at hq
   refine .inr ⟨fR20, s2, ?q20, kR20.1.trans (kR18.1.trans (kR17.1.trans (kR16.1.trans (hkp.1.trans dR15)))), by rw [<- hq]; exact oR20_6, by rw [<- hq]; exact oR20_7, kk, by rw [<- hq]; exact hg2⟩
   case q20 => simp only [amE, reduceEqDiff, ↓reduceIte, reduceCtorEq, reduceAdd, bf46_0, hR16, hR17, hR18, hR20, oR18_43, Bool.not_false]
 rcases kloop (Γ := (gT m)) (Y := Y) (m := m) (N := xs.length) (c := 31) (i := 30) (n := 29) (i2 := 47) (ro := none) (L := [1, 2, 28, 29]) (fr0 := fR15) (by decide) (by decide) (by decide) (by decide) oR15_29 hsl.2.1
  (Q := fun k fr s => (Keep1 id st1 s /\ ∃ lf mo, fr.get 8 = some (.int .i64 mo) /\ s.get id = some (.row [.int .i64 lf]) /\ meDL (l.drop k) lf deep mo = meDL l (sw left 1) deep deep)) (fun k fr s x v hx ⟨h1, lf, mo, h2, h3⟩ => ⟨h1, lf, mo, by rw [Fr.get_set, if_neg (by omega)]; exact h2, h3⟩) hB xs.length 0 fR15 st1 m (by omega) (by omega) Kp.refl oR15_30 ⟨Keep1.refl _ _, _, _, gR15_8, g1, rfl⟩
  with ⟨FR, s', h1, h2, h3, lf, mo, h4, h5, h6⟩ | ⟨FR, s', h1, h2, h3, h4, h5, h6⟩
 ·rw [hxl, List.drop_length, meDL_nil] at h6
  rw [<- h6]
  refine ⟨s', fun_of (mf := kf46) (fr := ((FR.set 48 (some (.int .i64 mo))).set 6 (some (.int .i64 mo))).set 7 (some (.bool true))) t46 rfl (.inl ?w1) (h2.1.trans dR15) ?w2, k1.trans h3, h5⟩
  case w1 =>
   rw [<- hA6]
   simp only [amE, reduceEqDiff, ↓reduceIte, reduceCtorEq, reduceAdd, kf46, b00, hR7, hR8, hR13, hR14, hR15, oR13_25, h1, h4]
  case w2 => simp only [kf46, amE, Fr.get_set, reduceEqDiff, ↓reduceIte]
 ·refine ⟨s', fun_of (mf := kf46) (fr := FR) t46 rfl (.inl ?w3) h2 (by simp only [kf46, amE, h3, h4]), k1.trans h5, h6⟩
  case w3 =>
   rw [<- hA6]
   simp only [amE, reduceEqDiff, ↓reduceIte, reduceCtorEq, reduceAdd, kf46, b00, hR7, hR8, hR13, hR14, hR15, oR13_25, h1]
end
end Go.AM.D16
