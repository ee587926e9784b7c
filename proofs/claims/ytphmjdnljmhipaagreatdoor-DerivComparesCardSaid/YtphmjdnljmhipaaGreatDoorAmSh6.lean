import Derived.Test.YtphmjdnljmhipaaGreatDoorAmSh5
set_option linter.unusedSimpArgs false
set_option linter.unusedVariables false
set_option maxRecDepth 100000
namespace Go.AM.D16
open Go Go.AM
open Nat (reduceEqDiff reduceAdd)
theorem seq_reg {Γ : Gam} {Y : Yenv} {n : Nat} {ms : List MOper} {b : MCode} {ro : Option Nat} {fr fr' : Fr} {st st' : St} (h : arun (Γ.cg Y) ms fr st = .ok fr' st') : acode Γ Y n (.seq (.region ms) b) ro fr st = acode Γ Y n b ro fr' st' := by
 conv => lhs; unfold acode
 have : acode Γ Y n (.region ms) ro fr st = .norm fr' st' := by unfold acode; rw [h]
 rw [this]
theorem seq_reg2 {Γ : Gam} {Y : Yenv} {n : Nat} {ms : List MOper} {a b : MCode} {ro : Option Nat} {fr fr' fr2 : Fr} {st st' st2 : St} (h : arun (Γ.cg Y) ms fr st = .ok fr' st') (k : acode Γ Y n a ro fr' st' = .norm fr2 st2) : acode Γ Y n (.seq (.seq (.region ms) a) b) ro fr st = acode Γ Y n b ro fr2 st2 := by
 conv => lhs; unfold acode
 rw [seq_reg h, k]
theorem leavesL_nil : Dv.leavesL [] = 0 := by unfold Dv.leavesL; rfl
theorem leavesL_snoc : ∀ (l : List Dv) (d : Dv), Dv.leavesL (l ++ [d]) = Dv.leavesL l + d.leaves
 | [], d => by simp [Dv.leavesL]
 | x :: l, d => by simp only [List.cons_append, Dv.leavesL, leavesL_snoc l d]; omega
theorem leavesL_take : ∀ (l : List Dv) (k : Nat), Dv.leavesL (l.take k) <= Dv.leavesL l
 | [], k => by simp
 | x :: l, 0 => by simp [Dv.leavesL]
 | x :: l, k + 1 => by simp only [List.take_succ_cons, Dv.leavesL]; have := leavesL_take l k; omega
theorem depthL_mem : ∀ {l : List Dv} {d : Dv}, d ∈ l -> d.depth <= Dv.depthL l
 | x :: l, d, h => by
  rw [depthL_max]
  rcases List.mem_cons.1 h with rfl | h
  ·split <;> omega
  ·have := depthL_mem h; split <;> omega
end Go.AM.D16
