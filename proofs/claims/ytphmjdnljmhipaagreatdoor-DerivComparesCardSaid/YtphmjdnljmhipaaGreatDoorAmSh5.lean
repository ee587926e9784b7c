import Derived.Test.YtphmjdnljmhipaaGreatDoorAmSh4
set_option linter.unusedSimpArgs false
set_option linter.unusedVariables false
set_option maxRecDepth 100000
namespace Go.AM.D16
open Go Go.AM
noncomputable section
open Nat (reduceEqDiff reduceAdd)
theorem intBeq_refl (n : Int) : intBeq n n = true := by cases n <;> exact Nat.beq_refl _
theorem bb_refl (b : Bool) : (bif b then b else !b) = true := by cases b <;> rfl
theorem avsBeq_app : ∀ {a b : List AV}, avsBeq a a = true -> avsBeq b b = true -> avsBeq (a ++ b) (a ++ b) = true
 | [], b, _, h => h
 | x :: a, b, h, k => by
  simp only [avsBeq, Bool.and_eq_true, List.cons_append] at h ⊢
  exact ⟨h.1, avsBeq_app h.2 k⟩
theorem SlR.beq {F : Nat -> Prop} {st : St} {sl : AV} {xs : List (List AV)} (h : SlR F st sl xs) (hx : avsBeq xs.flatten xs.flatten = true) : avBeq sl sl = true := by
 rcases h.2.2 with ⟨rfl, _⟩ | ⟨ex, rfl⟩ | ⟨id, cap, lo, rfl, _⟩
 ·rfl
 ·simp only [avBeq, Nat.beq_refl, bb_refl, hx, Bool.and_true]
 ·cases cap <;> simp only [avBeq, Nat.beq_refl, onBeq, Bool.and_true]
mutual
theorem RepT.beq {F : Nat -> Prop} {st : St} : ∀ (t : Tm) (cs : List AV), RepT F st t cs -> avsBeq cs cs = true
 | .mk k n nl ex l, cs, h => by
  simp only [RepT] at h
  obtain ⟨sl, xs, rfl, h2, h3⟩ := h
  simp only [avsBeq, avBeq, intBeq_refl, h2.beq (RepTs.beq l xs h3), decide_true, Bool.and_true]
theorem RepTs.beq {F : Nat -> Prop} {st : St} : ∀ (l : List Tm) (xs : List (List AV)), RepTs F st l xs -> avsBeq xs.flatten xs.flatten = true
 | [], xs, h => by simp only [RepTs] at h; subst h; rfl
 | t :: l, xs, h => by
  simp only [RepTs] at h
  obtain ⟨x, ys, rfl, h2, h3⟩ := h
  rw [List.flatten_cons]; exact avsBeq_app (RepT.beq t x h2) (RepTs.beq l ys h3)
end
mutual
theorem RepD.beq {F : Nat -> Prop} {st : St} : ∀ (t : Dv) (cs : List AV), RepD F st t cs -> avsBeq cs cs = true
 | .mk r nv ev vs nl ex l, cs, h => by
  simp only [RepD] at h
  obtain ⟨s1, x1, s2, x2, rfl, h2, h3, h4, h5⟩ := h
  simp only [avsBeq, avBeq, intBeq_refl, h2.beq (RepTs.beq vs x1 h3), h4.beq (RepDs.beq l x2 h5), decide_true, Bool.and_true]
theorem RepDs.beq {F : Nat -> Prop} {st : St} : ∀ (l : List Dv) (xs : List (List AV)), RepDs F st l xs -> avsBeq xs.flatten xs.flatten = true
 | [], xs, h => by simp only [RepDs] at h; subst h; rfl
 | t :: l, xs, h => by
  simp only [RepDs] at h
  obtain ⟨x, ys, rfl, h2, h3⟩ := h
  rw [List.flatten_cons]; exact avsBeq_app (RepD.beq t x h2) (RepDs.beq l ys h3)
end
theorem stw1 {st : St} {id : Nat} {x v : AV} (h : st.get id = some (.row [x])) (hv : AV.one v = true) : storeA 1 st (.ptr id 0) v = some (st.put id (.row [v])) := by
 simp only [storeA, h, one_cells hv]
 show (bif (true && (true && (AV.one v && true)) : Bool) then _ else _) = _
 rw [hv]; rfl
def kf45 : MFunc := ⟨8, (.seq (.region [⟨(some 2), .mv (.c .nilsl), none⟩])
 (.seq (.seq (.region [⟨(some 3), .mv (.t 0), none⟩, ⟨(some 4), .eqnil 1 false .eql (.t 3) (.c .nilsl), none⟩])
 (.cond (.t 4)
 (.seq (.region [⟨(some 2), .mv (.c .nilsl), none⟩])
 .ret)
 .skip))
 (.seq (.region [⟨(some 5), .bslice 0 [] [], none⟩, ⟨(some 6), .mv (.t 0), none⟩, ⟨(some 7), .append 8 1 none (.t 5) (.t 6), none⟩, ⟨(some 2), .mv (.t 7), none⟩])
 .ret))), [.t 2]⟩
theorem t45 : tbl 45 = some kf45 := by kernel_rfl
def g44_0 : List MOper := [⟨(some 22), .mv (.t 20), none⟩, ⟨(some 23), .iaddr 3 (.t 18) (.t 20), none⟩, ⟨(some 24), .load true 3 (.t 23), none⟩, ⟨(some 7), .alloc [(.int .i64 (.ofNat 0)), .nilsl, .nilsl], none⟩, ⟨(some 6), .mv (.t 22), none⟩, ⟨none, .store 3 (.t 7) (.t 24), none⟩]
def g44_1 : List (MOper × Nat) := [(⟨(some 25), .load false 1 (.t 3), none⟩, 0), (⟨(some 26), .load true 3 (.t 7), none⟩, 0), (⟨(some 27), .mv (.t 1), none⟩, 0), (⟨(some 28), .mv (.t 1), none⟩, 0), (⟨(some 29), .len 0 (.t 28), none⟩, 8), (⟨(some 30), .mv (.t 1), none⟩, 0), (⟨(some 31), .len 0 (.t 30), none⟩, 32), (⟨(some 32), .slice 1 (.t 27) none (some (.t 29)) (some (.t 31)), none⟩, 124), (⟨(some 33), .mv (.t 6), none⟩, 0), (⟨(some 34), .bslice 1 [(.int .i64 (.ofNat 0))] [(0, 1, (.t 33))], none⟩, 256), (⟨(some 35), .append 8 1 none (.t 32) (.t 34), none⟩, 1020), (⟨(some 36), .call (.t 25) [(.t 26), (.t 35)], none⟩, 2047)]
def g44_3 : List MOper := [⟨(some 8), .faddr 2 (.t 4), none⟩, ⟨(some 9), .load false 1 (.t 8), none⟩, ⟨(some 10), .len 0 (.t 9), none⟩, ⟨(some 11), .bin false .eql (.t 10) (.c (.int .i64 (.ofNat 0))), none⟩]
def g44_4 : List (MOper × Nat) := [(⟨(some 12), .load false 1 (.t 2), none⟩, 0), (⟨(some 13), .mv (.t 1), none⟩, 0), (⟨(some 14), .call (.c (.func (.func 45) [] [])) [(.t 13)], none⟩, 2), (⟨(some 15), .bslice 1 [.nilsl] [(0, 1, (.t 14))], none⟩, 6), (⟨(some 16), .append 24 1 none (.t 12) (.t 15), none⟩, 15), (⟨none, .store 1 (.t 2) (.t 16), none⟩, 31)]
def g44_5 : List MOper := [⟨(some 17), .faddr 2 (.t 4), none⟩, ⟨(some 18), .load false 1 (.t 17), none⟩, ⟨(some 19), .len 0 (.t 18), none⟩, ⟨(some 20), .mv (.c (.int .i64 (.ofNat 0))), none⟩]
def bf44_0 : MCode := (.seq (.region g44_0)
 (.draw g44_1 [(0, some 10), (0, some 11), (1, some 10), (1, some 11)]))
def kf44 : MFunc := ⟨38, (.seq (.region [⟨(some 4), .box true (.t 0), none⟩])
 (.seq (.seq (.region g44_3)
 (.cond (.t 11)
 (.draw g44_4 [(0, some 2), (0, some 4)])
 .skip))
 (.seq (.region g44_5)
 (.block 0 (.loop (lb 21 20 19 37 bf44_0)))))), []⟩
theorem t44 : tbl 44 = some kf44 := by kernel_rfl
def g12_1 : List MOper := [⟨(some 6), .load true 3 (.t 1), none⟩, ⟨(some 7), .call (.c (.func (.func 41) [] [])) [(.t 6)], none⟩, ⟨(some 8), .un .not (.t 7), none⟩]
def g12_6 : List MOper := [⟨(some 10), .load false 1 (.t 5), none⟩, ⟨(some 11), .load true 3 (.t 1), none⟩, ⟨(some 12), .call (.t 10) [(.t 11), (.c .nilsl)], none⟩]
def kf12 : MFunc := ⟨14, (.seq (.region [⟨(some 1), .box true (.t 0), none⟩, ⟨(some 2), .mv (.c .nilsl), none⟩, ⟨(some 3), .mv (.c (.int .i64 (.ofNat 0))), none⟩])
 (.seq (.seq (.region g12_1)
 (.cond (.t 8)
 (.seq (.region [⟨(some 2), .mv (.c .nilsl), none⟩, ⟨(some 3), .mv (.c (.int .i64 (.ofNat 160))), none⟩])
 .ret)
 .skip))
 (.seq (.region [⟨(some 4), .alloc [.nilsl], none⟩])
 (.seq (.region [⟨(some 5), .alloc [.nilfn], none⟩])
 (.seq (.region [⟨(some 9), .mkfn 44 [] [(.t 4), (.t 5)], none⟩, ⟨none, .store 1 (.t 5) (.t 9), none⟩])
 (.seq (.region g12_6)
 (.seq (.region [⟨(some 13), .load false 1 (.t 4), none⟩, ⟨(some 2), .mv (.t 13), none⟩, ⟨(some 3), .mv (.c (.int .i64 (.ofNat 0))), none⟩])
 .ret))))))), [.t 2, .t 3]⟩
theorem t12 : tbl 12 = some kf12 := by kernel_rfl
end
end Go.AM.D16
