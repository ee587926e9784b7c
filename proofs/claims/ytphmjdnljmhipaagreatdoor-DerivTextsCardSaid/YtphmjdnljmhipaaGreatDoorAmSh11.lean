import Derived.Test.YtphmjdnljmhipaaGreatDoorAmSh9
import Derived.Test.YtphmjdnljmhipaaGreatDoorAmSh3
set_option linter.unusedSimpArgs false
set_option linter.unusedVariables false
set_option maxRecDepth 100000
namespace Go.AM.D16
open Go Go.AM
noncomputable section
open Nat (reduceEqDiff reduceAdd)
def kf114 : MFunc := ⟨9, (.seq (.region [⟨(some 2), .mv (.c (.int .i64 (.ofNat 0))), none⟩])
 (.seq (.seq (.region [⟨(some 3), .mv (.t 0), none⟩])
 (.block 0 (.seq (.seq (.region [⟨(some 5), .bin false .eql (.t 3) (.c (.int .i64 (.ofNat 1))), none⟩, ⟨(some 4), .mv (.t 5), none⟩])
 (.cond (.t 4)
 .skip
 (.region [⟨(some 6), .bin false .eql (.t 3) (.c (.int .i64 (.ofNat 2))), none⟩, ⟨(some 4), .mv (.t 6), none⟩])))
 (.cond (.t 4)
 (.seq (.region [⟨(some 2), .mv (.c (.int .i64 (.ofNat 0))), none⟩])
 .ret)
 (.seq (.region [⟨(some 8), .bin false .eql (.t 3) (.c (.int .i64 (.ofNat 7))), none⟩, ⟨(some 7), .mv (.t 8), none⟩])
 (.cond (.t 7)
 (.seq (.region [⟨(some 2), .mv (.c (.int .i64 (.ofNat 2))), none⟩])
 .ret)
 .skip))))))
 (.seq (.region [⟨(some 2), .mv (.c (.int .i64 (.ofNat 1))), none⟩])
 .ret))), [.t 2]⟩
theorem t114 : tbl 114 = some kf114 := by kernel_rfl
def kf115 : MFunc := ⟨9, (.seq (.region [⟨(some 2), .mv (.c (.int .i64 (.ofNat 0))), none⟩])
 (.seq (.seq (.region [⟨(some 3), .mv (.t 0), none⟩])
 (.block 0 (.seq (.seq (.region [⟨(some 5), .bin false .eql (.t 3) (.c (.int .i64 (.ofNat 1))), none⟩, ⟨(some 4), .mv (.t 5), none⟩])
 (.cond (.t 4)
 .skip
 (.region [⟨(some 6), .bin false .eql (.t 3) (.c (.int .i64 (.ofNat 2))), none⟩, ⟨(some 4), .mv (.t 6), none⟩])))
 (.cond (.t 4)
 (.seq (.region [⟨(some 2), .mv (.c (.int .i64 (.ofNat 8))), none⟩])
 .ret)
 (.seq (.region [⟨(some 8), .bin false .eql (.t 3) (.c (.int .i64 (.ofNat 16))), none⟩, ⟨(some 7), .mv (.t 8), none⟩])
 (.cond (.t 7)
 (.seq (.region [⟨(some 2), .mv (.c (.int .i64 (.ofNat 64))), none⟩])
 .ret)
 .skip))))))
 (.seq (.region [⟨(some 2), .mv (.c (.int .i64 (.ofNat 0))), none⟩])
 .ret))), [.t 2]⟩
theorem t115 : tbl 115 = some kf115 := by kernel_rfl
def g46_0 : List MOper := [⟨(some 32), .iaddr 3 (.t 28) (.t 30), none⟩, ⟨(some 33), .load true 3 (.t 32), none⟩, ⟨(some 10), .alloc [(.int .i64 (.ofNat 0)), .nilsl, .nilsl], none⟩, ⟨none, .store 3 (.t 10) (.t 33), none⟩]
def g46_1 : List MOper := [⟨(some 35), .load true 3 (.t 10), none⟩, ⟨(some 36), .mv (.t 1), none⟩, ⟨(some 37), .mv (.t 2), none⟩, ⟨(some 38), .bin false .add (.t 37) (.c (.int .i64 (.ofNat 1))), none⟩, ⟨(some 39), .call (.c (.func (.func 46) [] [])) [(.t 35), (.t 36), (.t 38)], none⟩, ⟨(some 34), .mv (.t 39), none⟩, ⟨(some 40), .extract 0 (.t 34), none⟩, ⟨(some 41), .extract 1 (.t 34), none⟩, ⟨(some 11), .mv (.t 40), none⟩, ⟨(some 12), .mv (.t 41), none⟩]
def g46_4 : List MOper := [⟨(some 44), .mv (.t 8), none⟩, ⟨(some 45), .mv (.t 11), none⟩, ⟨(some 46), .max (.t 44) [(.t 45)], none⟩, ⟨(some 8), .mv (.t 46), none⟩]
def g46_6 : List MOper := [⟨(some 13), .mv (.t 1), none⟩, ⟨(some 14), .nilchk (.t 13), none⟩, ⟨(some 15), .load false 1 (.t 14), none⟩, ⟨(some 16), .bin false .sub (.t 15) (.c (.int .i64 (.ofNat 1))), none⟩, ⟨(some 17), .nilchk (.t 13), none⟩, ⟨none, .store 1 (.t 17) (.t 16), none⟩]
def g46_7 : List MOper := [⟨(some 18), .mv (.t 1), none⟩, ⟨(some 19), .nilchk (.t 18), none⟩, ⟨(some 20), .load false 1 (.t 19), none⟩, ⟨(some 21), .bin false .lss (.t 20) (.c (.int .i64 (.ofNat 0))), none⟩, ⟨(some 22), .mv (.t 21), none⟩, ⟨(some 23), .mv (.t 2), (some (22, false))⟩, ⟨(some 24), .bin false .gtr (.t 23) (.c (.int .i64 (.ofNat 400))), (some (22, false))⟩, ⟨(some 25), .pick (.t 22) (.c (.bool true)) (.t 24), none⟩]
def g46_10 : List MOper := [⟨(some 27), .faddr 2 (.t 3), none⟩, ⟨(some 28), .load false 1 (.t 27), none⟩, ⟨(some 29), .len 0 (.t 28), none⟩, ⟨(some 30), .mv (.c (.int .i64 (.ofNat 0))), none⟩]
def bf46_0 : MCode := (.seq (.region g46_0)
 (.seq (.region g46_1)
 (.seq (.seq (.region [⟨(some 42), .mv (.t 12), none⟩, ⟨(some 43), .un .not (.t 42), none⟩])
 (.cond (.t 43)
 (.seq (.region [⟨(some 6), .mv (.c (.int .i64 (.ofNat 0))), none⟩, ⟨(some 7), .mv (.c (.bool false)), none⟩])
 .ret)
 .skip))
 (.region g46_4))))
def kf46 : MFunc := ⟨49, (.seq (.region [⟨(some 3), .box true (.t 0), none⟩, ⟨(some 6), .mv (.c (.int .i64 (.ofNat 0))), none⟩, ⟨(some 7), .mv (.c (.bool false)), none⟩])
 (.seq (.seq (.region g46_6)
 (.seq (.region g46_7)
 (.cond (.t 25)
 (.seq (.region [⟨(some 6), .mv (.c (.int .i64 (.ofNat 0))), none⟩, ⟨(some 7), .mv (.c (.bool false)), none⟩])
 .ret)
 .skip)))
 (.seq (.region [⟨(some 26), .mv (.t 2), none⟩, ⟨(some 8), .mv (.t 26), none⟩])
 (.seq (.seq (.region g46_10)
 (.block 0 (.loop (lb 31 30 29 47 bf46_0))))
 (.seq (.region [⟨(some 48), .mv (.t 8), none⟩, ⟨(some 6), .mv (.t 48), none⟩, ⟨(some 7), .mv (.c (.bool true)), none⟩])
 .ret))))), [.t 6, .t 7]⟩
theorem t46 : tbl 46 = some kf46 := by kernel_rfl
theorem arity2_run (n : Nat) (Y : Yenv) (r : Int) (st : St) : R (n + 1) Y 114 [.int .i64 r] st = .ret (.int .i64 (.ofNat (arN r))) st := by
 have b00 : Nat.beq 0 0 = true := rfl
 have eq : ∀ c : Nat, binB false .eql (.int .i64 r) (.int .i64 (.ofNat c)) = some (.bool (r == .ofNat c)) := fun _ => rfl
 cases h1 : (r == Int.ofNat 1) with
 | true =>
  refine fun_of (mf := kf114) (fr := ?x1a) t114 rfl (.inl ?x1b) ?x1c ?x1d
  case x1b =>
   simp only [amE, reduceEqDiff, ↓reduceIte, reduceCtorEq, reduceAdd, kf114, b00, eq, h1]
   rfl
  case x1c => rfl
  case x1d =>
   simp only [kf114, amE, Fr.get_set, reduceEqDiff, ↓reduceIte]
   try (have x : r = 1 := by simpa using h1)
   try subst x
   try rfl
 | false =>
  cases h2 : (r == Int.ofNat 2) with
  | true =>
   refine fun_of (mf := kf114) (fr := ?x2a) t114 rfl (.inl ?x2b) ?x2c ?x2d
   case x2b =>
    simp only [amE, reduceEqDiff, ↓reduceIte, reduceCtorEq, reduceAdd, kf114, b00, eq, h1, h2]
    rfl
   case x2c => rfl
   case x2d =>
    simp only [kf114, amE, Fr.get_set, reduceEqDiff, ↓reduceIte]
    try (have x : r = 2 := by simpa using h2)
    try subst x
    try rfl
  | false =>
   cases h7 : (r == Int.ofNat 7) with
   | true =>
    refine fun_of (mf := kf114) (fr := ?x7a) t114 rfl (.inl ?x7b) ?x7c ?x7d
    case x7b =>
     simp only [amE, reduceEqDiff, ↓reduceIte, reduceCtorEq, reduceAdd, kf114, b00, eq, h1, h2, h7]
     rfl
    case x7c => rfl
    case x7d =>
     simp only [kf114, amE, Fr.get_set, reduceEqDiff, ↓reduceIte]
     try (have x : r = 7 := by simpa using h7)
     try subst x
     try rfl
   | false =>
    refine fun_of (mf := kf114) (fr := ?x0a) t114 rfl (.inl ?x0b) ?x0c ?x0d
    case x0b =>
     simp only [amE, reduceEqDiff, ↓reduceIte, reduceCtorEq, reduceAdd, kf114, b00, eq, h1, h2, h7]
     rfl
    case x0c => rfl
    case x0d =>
     simp only [kf114, amE, Fr.get_set, reduceEqDiff, ↓reduceIte]
     try ((have x1 : r ≠ 1 := by simpa using h1); (have x2 : r ≠ 2 := by simpa using h2); (have x7 : r ≠ 7 := by simpa using h7); simp only [arN, x1, x2, x7, or_self, ↓reduceIte]; done)
theorem values2_run (n : Nat) (Y : Yenv) (r : Int) (st : St) : R (n + 1) Y 115 [.int .i64 r] st = .ret (.int .i64 (.ofNat (vaN r))) st := by
 have b00 : Nat.beq 0 0 = true := rfl
 have eq : ∀ c : Nat, binB false .eql (.int .i64 r) (.int .i64 (.ofNat c)) = some (.bool (r == .ofNat c)) := fun _ => rfl
 cases h1 : (r == Int.ofNat 1) with
 | true =>
  refine fun_of (mf := kf115) (fr := ?x1a) t115 rfl (.inl ?x1b) ?x1c ?x1d
  case x1b =>
   simp only [amE, reduceEqDiff, ↓reduceIte, reduceCtorEq, reduceAdd, kf115, b00, eq, h1]
   rfl
  case x1c => rfl
  case x1d =>
   simp only [kf115, amE, Fr.get_set, reduceEqDiff, ↓reduceIte]
   try (have x : r = 1 := by simpa using h1)
   try subst x
   try rfl
 | false =>
  cases h2 : (r == Int.ofNat 2) with
  | true =>
   refine fun_of (mf := kf115) (fr := ?x2a) t115 rfl (.inl ?x2b) ?x2c ?x2d
   case x2b =>
    simp only [amE, reduceEqDiff, ↓reduceIte, reduceCtorEq, reduceAdd, kf115, b00, eq, h1, h2]
    rfl
   case x2c => rfl
   case x2d =>
    simp only [kf115, amE, Fr.get_set, reduceEqDiff, ↓reduceIte]
    try (have x : r = 2 := by simpa using h2)
    try subst x
    try rfl
  | false =>
   cases h16 : (r == Int.ofNat 16) with
   | true =>
    refine fun_of (mf := kf115) (fr := ?x16a) t115 rfl (.inl ?x16b) ?x16c ?x16d
    case x16b =>
     simp only [amE, reduceEqDiff, ↓reduceIte, reduceCtorEq, reduceAdd, kf115, b00, eq, h1, h2, h16]
     rfl
    case x16c => rfl
    case x16d =>
     simp only [kf115, amE, Fr.get_set, reduceEqDiff, ↓reduceIte]
     try (have x : r = 16 := by simpa using h16)
     try subst x
     try rfl
   | false =>
    refine fun_of (mf := kf115) (fr := ?x0a) t115 rfl (.inl ?x0b) ?x0c ?x0d
    case x0b =>
     simp only [amE, reduceEqDiff, ↓reduceIte, reduceCtorEq, reduceAdd, kf115, b00, eq, h1, h2, h16]
     rfl
    case x0c => rfl
    case x0d =>
     simp only [kf115, amE, Fr.get_set, reduceEqDiff, ↓reduceIte]
     try ((have x1 : r ≠ 1 := by simpa using h1); (have x2 : r ≠ 2 := by simpa using h2); (have x16 : r ≠ 16 := by simpa using h16); simp only [vaN, x1, x2, x16, or_self, ↓reduceIte]; done)
end
end Go.AM.D16
