import Derived.Test.YtphmjdnljmhipaaGreatDoorAmLaw
set_option linter.unusedSimpArgs false
set_option linter.unusedVariables false
/- DerivOrder, for whatever arguments. -/
set_option maxRecDepth 100000
namespace Go.AM.D16
open Go Go.AM

theorem t3 : tbl 3 = some m3 := by kernel_rfl
noncomputable def oP0 : List MOper := [⟨(some 3), .box true (.t 0), none⟩, ⟨(some 4), .box true (.t 1), none⟩, ⟨(some 5), .box true (.t 2), none⟩, ⟨(some 6), .mv (.c (.bool false)), none⟩]
noncomputable def oP1 : List MOper := [⟨(some 10), .call (.c (.func (.func 7) [] [])) [], none⟩, ⟨(some 11), .un .not (.t 10), none⟩]
noncomputable def oP2 : List MOper := [⟨(some 12), .load true 3 (.t 3), none⟩, ⟨(some 13), .load true 3 (.t 4), none⟩, ⟨(some 14), .load true 3 (.t 5), none⟩, ⟨(some 15), .bslice 3 [(.int .i64 (.ofNat 0)), .nilsl, .nilsl, (.int .i64 (.ofNat 0)), .nilsl, .nilsl, (.int .i64 (.ofNat 0)), .nilsl, .nilsl] [(0, 3, (.t 12)), (3, 3, (.t 13)), (6, 3, (.t 14))], none⟩, ⟨(some 16), .call (.c (.func (.func 8) [] [])) [(.t 15)], none⟩, ⟨(some 17), .un .not (.t 16), none⟩]
noncomputable def oA1 : List MOper := [⟨(some 27), .mv (.t 7), none⟩, ⟨(some 28), .load true 3 (.t 4), none⟩, ⟨(some 29), .load true 3 (.t 3), none⟩, ⟨(some 30), .call (.c (.func (.func 9) [] [])) [(.t 28), (.t 29)], none⟩, ⟨(some 31), .un .neg (.t 30), none⟩, ⟨(some 32), .bin false .neq (.t 27) (.t 31), none⟩, ⟨(some 33), .mv (.t 32), none⟩]
noncomputable def oA2 : List MOper := [⟨(some 34), .mv (.t 7), (some (33, false))⟩, ⟨(some 35), .bin false .lss (.t 34) (.c (.int .i64 (.negSucc 0))), (some (33, false))⟩, ⟨(some 36), .pick (.t 33) (.c (.bool true)) (.t 35), none⟩, ⟨(some 37), .mv (.t 36), none⟩, ⟨(some 38), .mv (.t 7), (some (37, false))⟩, ⟨(some 39), .bin false .gtr (.t 38) (.c (.int .i64 (.ofNat 1))), (some (37, false))⟩, ⟨(some 40), .pick (.t 37) (.c (.bool true)) (.t 39), none⟩, ⟨(some 41), .mv (.t 40), none⟩]
noncomputable def oA3 : List MOper := [⟨(some 42), .mv (.t 7), (some (41, false))⟩, ⟨(some 43), .bin false .eql (.t 42) (.c (.int .i64 (.ofNat 0))), (some (41, false))⟩, ⟨(some 44), .load true 3 (.t 3), (some (41, false))⟩, ⟨(some 45), .load true 3 (.t 4), (some (41, false))⟩, ⟨(some 46), .call (.c (.func (.func 10) [] [])) [(.t 44), (.t 45)], (some (41, false))⟩, ⟨(some 47), .bin true .neq (.t 43) (.t 46), (some (41, false))⟩, ⟨(some 48), .pick (.t 41) (.c (.bool true)) (.t 47), none⟩, ⟨(some 49), .mv (.t 48), none⟩]
noncomputable def oA4 : List MOper := [⟨(some 50), .load true 3 (.t 3), (some (49, false))⟩, ⟨(some 51), .load true 3 (.t 3), (some (49, false))⟩, ⟨(some 52), .call (.c (.func (.func 9) [] [])) [(.t 50), (.t 51)], (some (49, false))⟩, ⟨(some 53), .bin false .neq (.t 52) (.c (.int .i64 (.ofNat 0))), (some (49, false))⟩, ⟨(some 54), .pick (.t 49) (.c (.bool true)) (.t 53), none⟩]
noncomputable def oB1 : List MOper := [⟨(some 55), .mv (.t 7), none⟩, ⟨(some 56), .bin false .gtr (.t 55) (.c (.int .i64 (.ofNat 0))), none⟩, ⟨(some 57), .mv (.t 56), none⟩, ⟨(some 58), .mv (.t 8), (some (57, false))⟩, ⟨(some 59), .bin false .gtr (.t 58) (.c (.int .i64 (.ofNat 0))), (some (57, false))⟩, ⟨(some 60), .pick (.t 57) (.c (.bool true)) (.t 59), none⟩, ⟨(some 61), .mv (.t 60), none⟩]
noncomputable def oB2 : List MOper := [⟨(some 62), .mv (.t 9), (some (61, false))⟩, ⟨(some 63), .bin false .leq (.t 62) (.c (.int .i64 (.ofNat 0))), (some (61, false))⟩, ⟨(some 64), .mv (.t 63), (some (61, false))⟩, ⟨(some 65), .mv (.t 9), (some (64, true))⟩, ⟨(some 66), .bin false .neq (.t 65) (.c (.int .i64 (.ofNat 0))), (some (64, true))⟩, ⟨(some 67), .mv (.t 66), (some (64, true))⟩, ⟨(some 68), .mv (.t 7), (some (67, false))⟩, ⟨(some 69), .bin false .eql (.t 68) (.c (.int .i64 (.ofNat 0))), (some (67, false))⟩, ⟨(some 70), .mv (.t 69), (some (67, false))⟩, ⟨(some 71), .mv (.t 8), (some (70, true))⟩, ⟨(some 72), .bin false .eql (.t 71) (.c (.int .i64 (.ofNat 0))), (some (70, true))⟩, ⟨(some 73), .pick (.t 70) (.t 72) (.c (.bool false)), (some (67, false))⟩, ⟨(some 74), .pick (.t 67) (.c (.bool true)) (.t 73), (some (64, true))⟩, ⟨(some 75), .pick (.t 64) (.t 74) (.c (.bool false)), (some (61, false))⟩, ⟨(some 76), .pick (.t 61) (.c (.bool true)) (.t 75), none⟩, ⟨(some 6), .mv (.t 76), none⟩]
noncomputable def d3 : List (MOper × Nat) := [(⟨(some 18), .load true 3 (.t 3), none⟩, 0), (⟨(some 19), .load true 3 (.t 4), none⟩, 0), (⟨(some 20), .call (.c (.func (.func 9) [] [])) [(.t 18), (.t 19)], none⟩, 3), (⟨(some 21), .load true 3 (.t 4), none⟩, 0), (⟨(some 22), .load true 3 (.t 5), none⟩, 0), (⟨(some 23), .call (.c (.func (.func 9) [] [])) [(.t 21), (.t 22)], none⟩, 31), (⟨(some 24), .load true 3 (.t 3), none⟩, 0), (⟨(some 25), .load true 3 (.t 5), none⟩, 0), (⟨(some 26), .call (.c (.func (.func 9) [] [])) [(.t 24), (.t 25)], none⟩, 255), (⟨(some 7), .mv (.t 20), none⟩, 511), (⟨(some 8), .mv (.t 23), none⟩, 1023), (⟨(some 9), .mv (.t 26), none⟩, 2047)]
noncomputable def kf3 : MFunc := ⟨77, (.seq (.region oP0)
 (.seq (.seq (.region oP1)
 (.cond (.t 11)
 (.seq (.region [⟨(some 6), .mv (.c (.bool false)), none⟩])
 .ret)
 .skip))
 (.seq (.seq (.region oP2)
 (.cond (.t 17)
 (.seq (.region [⟨(some 6), .mv (.c (.bool true)), none⟩])
 .ret)
 .skip))
 (.seq (.draw d3 [(3, some 2), (3, some 5), (4, some 2), (4, some 5), (6, some 2), (6, some 5), (6, some 8), (7, some 2), (7, some 5), (7, some 8)])
 (.seq (.seq (.region (oA1 ++ (oA2 ++ (oA3 ++ oA4))))
 (.cond (.t 54)
 (.seq (.region [⟨(some 6), .mv (.c (.bool false)), none⟩])
 .ret)
 .skip))
 (.seq (.region (oB1 ++ oB2))
 .ret)))))), [.t 6]⟩
theorem m3_eq : m3 = kf3 := by kernel_rfl

/-- What the calls of functions 9 and 10 come to. -/
def Cmp9 (Γ : Cg) (a b : List AV) (p : Int) : Prop := ∀ st, ∃ st', Γ.fn 9 [.agg a, .agg b] st = .ret (.int .i64 p) st'
def Same10 (Γ : Cg) (a b : List AV) (s : Bool) : Prop := ∀ st, ∃ st', Γ.fn 10 [.agg a, .agg b] st = .ret (.bool s) st'

section
variable {Γ : Cg} {a1 a2 a3 b1 b2 b3 c1 c2 c3 : AV} {fr : Fr} {st : St} {p q r : Int}
theorem ld3 (x y z : AV) (st : St) : loadA true 3 st (.fptr [x, y, z] 0) = some (.agg [x, y, z]) := rfl

theorem pP2 (g3 : fr.get 3 = some (.fptr [a1, a2, a3] 0)) (g4 : fr.get 4 = some (.fptr [b1, b2, b3] 0)) (g5 : fr.get 5 = some (.fptr [c1, c2, c3] 0)) (h8 : ∃ b st', Γ.fn 8 [.lst 3 [a1, a2, a3, b1, b2, b3, c1, c2, c3] true] st = .ret (.bool b) st') :
    ∃ fr' st' b, arun Γ oP2 fr st = .ok fr' st' ∧ Kp [3, 4, 5, 6] fr fr' ∧ fr'.get 17 = some (.bool b) := by
  obtain ⟨b, st', h8⟩ := h8
  have fi : fillA [(.int .i64 (.ofNat 0)), .nilsl, .nilsl, (.int .i64 (.ofNat 0)), .nilsl, .nilsl, (.int .i64 (.ofNat 0)), .nilsl, .nilsl] [(0, 3, .agg [a1, a2, a3]), (3, 3, .agg [b1, b2, b3]), (6, 3, .agg [c1, c2, c3])] = some [a1, a2, a3, b1, b2, b3, c1, c2, c3] := rfl
  have un : unA .not (.bool b) = some (.bool (!b)) := rfl
  refine ⟨?x, st', !b, ?y, ?z, ?w⟩
  case y =>
    simp only [Nat.reduceEqDiff, ↓reduceIte, Option.getD_some, reduceCtorEq, Option.bind_some, Option.map_some, cond_true, cond_false, Fr.set_ds, acode, arun_nil, nd_mv, nd_pick, nd_alloc, nd_box, nd_build, nd_bslice, nd_load, nd_store, nd_nilchk, nd_bin, nd_un, nd_faddr, nd_iaddr, nd_len, nd_call, nd_eqnil, nd_extract, nd_field, nd_append, nd_conv, nd_mkif, Go.AM.opr, aop, Go.AM.ev, frOf, Fr.put, Fr.get_set, wantedA, OpR.of, OpR.ofSt, callR, Go.AM.FR.toOp, List.map_cons, List.map_nil, List.nil_append, List.append_nil, List.cons_append, endF, aleaves, resultA, ressA, resA, Fr.nil, Nat.reduceAdd, AV.cells, evParts, dlin, okLin, frzX, oP2, g3, g4, g5, ld3, fi, h8, un]
    rfl
  case z => repeat (first | exact Kp.refl | refine Kp.set (by decide) ?_)
  case w => simp only [Fr.get_set, ↓reduceIte]

theorem pD3 (g3 : fr.get 3 = some (.fptr [a1, a2, a3] 0)) (g4 : fr.get 4 = some (.fptr [b1, b2, b3] 0)) (g5 : fr.get 5 = some (.fptr [c1, c2, c3] 0)) (hp : Cmp9 Γ [a1, a2, a3] [b1, b2, b3] p) (hq : Cmp9 Γ [b1, b2, b3] [c1, c2, c3] q) (hr : Cmp9 Γ [a1, a2, a3] [c1, c2, c3] r)
    {chk : List (Nat × Option Nat)} (hc : chkLoads d3 chk = true) :
    ∃ fr' st', adraw Γ d3 chk fr st = .ok fr' st' ∧ Kp [3, 4, 5] fr fr' ∧ fr'.get 7 = some (.int .i64 p) ∧ fr'.get 8 = some (.int .i64 q) ∧ fr'.get 9 = some (.int .i64 r) := by
  obtain ⟨s1, e1⟩ := hp st
  obtain ⟨s2, e2⟩ := hq s1
  obtain ⟨s3, e3⟩ := hr s2
  refine ⟨?x, s3, ?y, ?z, ?w1, ?w2, ?w3⟩
  case y =>
    refine adraw_lin hc rfl ?_
    simp only [Nat.reduceEqDiff, ↓reduceIte, Option.getD_some, reduceCtorEq, Option.bind_some, Option.map_some, cond_true, cond_false, Fr.set_ds, acode, arun_nil, nd_mv, nd_pick, nd_alloc, nd_box, nd_build, nd_bslice, nd_load, nd_store, nd_nilchk, nd_bin, nd_un, nd_faddr, nd_iaddr, nd_len, nd_call, nd_eqnil, nd_extract, nd_field, nd_append, nd_conv, nd_mkif, Go.AM.opr, aop, Go.AM.ev, frOf, Fr.put, Fr.get_set, wantedA, OpR.of, OpR.ofSt, callR, Go.AM.FR.toOp, List.map_cons, List.map_nil, List.nil_append, List.append_nil, List.cons_append, endF, aleaves, resultA, ressA, resA, Fr.nil, Nat.reduceAdd, AV.cells, evParts, dlin, okLin, frzX, d3, g3, g4, g5, ld3, e1, e2, e3]
    rfl
  case z => repeat (first | exact Kp.refl | refine Kp.set (by decide) ?_)
  case w1 => simp only [Fr.get_set, Nat.reduceEqDiff, ↓reduceIte]
  case w2 => simp only [Fr.get_set, Nat.reduceEqDiff, ↓reduceIte]
  case w3 => simp only [Fr.get_set, Nat.reduceEqDiff, ↓reduceIte]

theorem neqSame (x : Int) : binB false .neq (.int .i64 x) (.int .i64 x) = some (.bool false) := by rw [neqI]; simp

theorem pA1 (g3 : fr.get 3 = some (.fptr [a1, a2, a3] 0)) (g4 : fr.get 4 = some (.fptr [b1, b2, b3] 0)) (g7 : fr.get 7 = some (.int .i64 p)) (hs : Sg p) (hq : Cmp9 Γ [b1, b2, b3] [a1, a2, a3] (-p)) :
    ∃ fr' st', arun Γ oA1 fr st = .ok fr' st' ∧ Kp [3, 4, 5, 7, 8, 9] fr fr' ∧ fr'.get 33 = some (.bool false) := by
  obtain ⟨s1, e1⟩ := hq st
  have hn : unA .neg (.int .i64 (-p)) = some (.int .i64 p) := by rcases hs with rfl | rfl | rfl <;> rfl
  refine ⟨?x, s1, ?y, ?z, ?w⟩
  case y =>
    simp only [Nat.reduceEqDiff, ↓reduceIte, Option.getD_some, reduceCtorEq, Option.bind_some, Option.map_some, cond_true, cond_false, Fr.set_ds, acode, arun_nil, nd_mv, nd_pick, nd_alloc, nd_box, nd_build, nd_bslice, nd_load, nd_store, nd_nilchk, nd_bin, nd_un, nd_faddr, nd_iaddr, nd_len, nd_call, nd_eqnil, nd_extract, nd_field, nd_append, nd_conv, nd_mkif, Go.AM.opr, aop, Go.AM.ev, frOf, Fr.put, Fr.get_set, wantedA, OpR.of, OpR.ofSt, callR, Go.AM.FR.toOp, List.map_cons, List.map_nil, List.nil_append, List.append_nil, List.cons_append, endF, aleaves, resultA, ressA, resA, Fr.nil, Nat.reduceAdd, AV.cells, evParts, dlin, okLin, frzX, oA1, g3, g4, g7, ld3, e1, hn, neqSame]
    rfl
  case z => repeat (first | exact Kp.refl | refine Kp.set (by decide) ?_)
  case w => simp only [Fr.get_set, ↓reduceIte]

theorem pA2 (g33 : fr.get 33 = some (.bool false)) (g7 : fr.get 7 = some (.int .i64 p)) (hs : Sg p) :
    ∃ fr', arun Γ oA2 fr st = .ok fr' st ∧ Kp [3, 4, 5, 7, 8, 9] fr fr' ∧ fr'.get 41 = some (.bool false) := by
  have e1 : binB false .lss (.int .i64 p) (.int .i64 (.negSucc 0)) = some (.bool false) := by rcases hs with rfl | rfl | rfl <;> rfl
  have e2 : binB false .gtr (.int .i64 p) (.int .i64 (.ofNat 1)) = some (.bool false) := by rcases hs with rfl | rfl | rfl <;> rfl
  refine ⟨?x, ?y, ?z, ?w⟩
  case y =>
    simp only [Nat.reduceEqDiff, ↓reduceIte, Option.getD_some, reduceCtorEq, Option.bind_some, Option.map_some, cond_true, cond_false, Fr.set_ds, acode, arun_nil, nd_mv, nd_pick, nd_alloc, nd_box, nd_build, nd_bslice, nd_load, nd_store, nd_nilchk, nd_bin, nd_un, nd_faddr, nd_iaddr, nd_len, nd_call, nd_eqnil, nd_extract, nd_field, nd_append, nd_conv, nd_mkif, Go.AM.opr, aop, Go.AM.ev, frOf, Fr.put, Fr.get_set, wantedA, OpR.of, OpR.ofSt, callR, Go.AM.FR.toOp, List.map_cons, List.map_nil, List.nil_append, List.append_nil, List.cons_append, endF, aleaves, resultA, ressA, resA, Fr.nil, Nat.reduceAdd, AV.cells, evParts, dlin, okLin, frzX, oA2, g33, g7, e1, e2, Bool.not_false, Bool.not_true]
    rfl
  case z => repeat (first | exact Kp.refl | refine Kp.set (by decide) ?_)
  case w => simp only [Fr.get_set, ↓reduceIte]

theorem pA3 (g3 : fr.get 3 = some (.fptr [a1, a2, a3] 0)) (g4 : fr.get 4 = some (.fptr [b1, b2, b3] 0)) (g7 : fr.get 7 = some (.int .i64 p)) (g41 : fr.get 41 = some (.bool false)) (hq : Same10 Γ [a1, a2, a3] [b1, b2, b3] (p == 0)) :
    ∃ fr' st', arun Γ oA3 fr st = .ok fr' st' ∧ Kp [3, 4, 5, 7, 8, 9] fr fr' ∧ fr'.get 49 = some (.bool false) := by
  obtain ⟨s1, e1⟩ := hq st
  have e2 : binB false .eql (.int .i64 p) (.int .i64 (.ofNat 0)) = some (.bool (p == 0)) := rfl
  have e3 : ∀ b : Bool, binB true .neq (.bool b) (.bool b) = some (.bool false) := fun b => by cases b <;> rfl
  refine ⟨?x, s1, ?y, ?z, ?w⟩
  case y =>
    simp only [Nat.reduceEqDiff, ↓reduceIte, Option.getD_some, reduceCtorEq, Option.bind_some, Option.map_some, cond_true, cond_false, Fr.set_ds, acode, arun_nil, nd_mv, nd_pick, nd_alloc, nd_box, nd_build, nd_bslice, nd_load, nd_store, nd_nilchk, nd_bin, nd_un, nd_faddr, nd_iaddr, nd_len, nd_call, nd_eqnil, nd_extract, nd_field, nd_append, nd_conv, nd_mkif, Go.AM.opr, aop, Go.AM.ev, frOf, Fr.put, Fr.get_set, wantedA, OpR.of, OpR.ofSt, callR, Go.AM.FR.toOp, List.map_cons, List.map_nil, List.nil_append, List.append_nil, List.cons_append, endF, aleaves, resultA, ressA, resA, Fr.nil, Nat.reduceAdd, AV.cells, evParts, dlin, okLin, frzX, oA3, g3, g4, g7, g41, ld3, e1, e2, e3, Bool.not_false, Bool.not_true]
    rfl
  case z => repeat (first | exact Kp.refl | refine Kp.set (by decide) ?_)
  case w => simp only [Fr.get_set, ↓reduceIte]

theorem pA4 (g3 : fr.get 3 = some (.fptr [a1, a2, a3] 0)) (g49 : fr.get 49 = some (.bool false)) (hq : Cmp9 Γ [a1, a2, a3] [a1, a2, a3] 0) :
    ∃ fr' st', arun Γ oA4 fr st = .ok fr' st' ∧ Kp [3, 4, 5, 7, 8, 9] fr fr' ∧ fr'.get 54 = some (.bool false) := by
  obtain ⟨s1, e1⟩ := hq st
  have e2 : binB false .neq (.int .i64 0) (.int .i64 (.ofNat 0)) = some (.bool false) := rfl
  refine ⟨?x, s1, ?y, ?z, ?w⟩
  case y =>
    simp only [Nat.reduceEqDiff, ↓reduceIte, Option.getD_some, reduceCtorEq, Option.bind_some, Option.map_some, cond_true, cond_false, Fr.set_ds, acode, arun_nil, nd_mv, nd_pick, nd_alloc, nd_box, nd_build, nd_bslice, nd_load, nd_store, nd_nilchk, nd_bin, nd_un, nd_faddr, nd_iaddr, nd_len, nd_call, nd_eqnil, nd_extract, nd_field, nd_append, nd_conv, nd_mkif, Go.AM.opr, aop, Go.AM.ev, frOf, Fr.put, Fr.get_set, wantedA, OpR.of, OpR.ofSt, callR, Go.AM.FR.toOp, List.map_cons, List.map_nil, List.nil_append, List.append_nil, List.cons_append, endF, aleaves, resultA, ressA, resA, Fr.nil, Nat.reduceAdd, AV.cells, evParts, dlin, okLin, frzX, oA4, g3, g49, ld3, e1, e2, Bool.not_false, Bool.not_true]
    rfl
  case z => repeat (first | exact Kp.refl | refine Kp.set (by decide) ?_)
  case w => simp only [Fr.get_set, ↓reduceIte]

theorem gtr0 (p : Int) : binB false .gtr (.int .i64 p) (.int .i64 (.ofNat 0)) = some (.bool (decide (p > 0))) := rfl
theorem leq0 (p : Int) : binB false .leq (.int .i64 p) (.int .i64 (.ofNat 0)) = some (.bool (decide (p ≤ 0))) := rfl
theorem eql0 (p : Int) : binB false .eql (.int .i64 p) (.int .i64 (.ofNat 0)) = some (.bool (p == 0)) := rfl

theorem pB1 (g7 : fr.get 7 = some (.int .i64 p)) (g8 : fr.get 8 = some (.int .i64 q)) :
    ∃ fr', arun Γ oB1 fr st = .ok fr' st ∧ Kp [7, 8, 9] fr fr' ∧ fr'.get 61 = some (.bool (decide (p > 0) || decide (q > 0))) := by
  have e1 := gtr0 p
  have e2 := gtr0 q
  revert e1 e2
  generalize decide (p > 0) = x
  generalize decide (q > 0) = y
  intro e1 e2
  cases x with
  | true =>
    refine ⟨?x, ?y, ?z, ?w⟩
    case y =>
      simp only [Nat.reduceEqDiff, ↓reduceIte, Option.getD_some, reduceCtorEq, Option.bind_some, Option.map_some, cond_true, cond_false, Fr.set_ds, acode, arun_nil, nd_mv, nd_pick, nd_alloc, nd_box, nd_build, nd_bslice, nd_load, nd_store, nd_nilchk, nd_bin, nd_un, nd_faddr, nd_iaddr, nd_len, nd_call, nd_eqnil, nd_extract, nd_field, nd_append, nd_conv, nd_mkif, Go.AM.opr, aop, Go.AM.ev, frOf, Fr.put, Fr.get_set, wantedA, OpR.of, OpR.ofSt, callR, Go.AM.FR.toOp, List.map_cons, List.map_nil, List.nil_append, List.append_nil, List.cons_append, endF, aleaves, resultA, ressA, resA, Fr.nil, Nat.reduceAdd, AV.cells, evParts, dlin, okLin, frzX, oB1, g7, g8, e1, e2, Bool.not_false, Bool.not_true]
      rfl
    case z => repeat (first | exact Kp.refl | refine Kp.set (by decide) ?_)
    case w => simp only [Fr.get_set, ↓reduceIte, Bool.true_or]
  | false =>
    refine ⟨?x2, ?y2, ?z2, ?w2⟩
    case y2 =>
      simp only [Nat.reduceEqDiff, ↓reduceIte, Option.getD_some, reduceCtorEq, Option.bind_some, Option.map_some, cond_true, cond_false, Fr.set_ds, acode, arun_nil, nd_mv, nd_pick, nd_alloc, nd_box, nd_build, nd_bslice, nd_load, nd_store, nd_nilchk, nd_bin, nd_un, nd_faddr, nd_iaddr, nd_len, nd_call, nd_eqnil, nd_extract, nd_field, nd_append, nd_conv, nd_mkif, Go.AM.opr, aop, Go.AM.ev, frOf, Fr.put, Fr.get_set, wantedA, OpR.of, OpR.ofSt, callR, Go.AM.FR.toOp, List.map_cons, List.map_nil, List.nil_append, List.append_nil, List.cons_append, endF, aleaves, resultA, ressA, resA, Fr.nil, Nat.reduceAdd, AV.cells, evParts, dlin, okLin, frzX, oB1, g7, g8, e1, e2, Bool.not_false, Bool.not_true]
      rfl
    case z2 => repeat (first | exact Kp.refl | refine Kp.set (by decide) ?_)
    case w2 => simp only [Fr.get_set, ↓reduceIte, Bool.false_or]

theorem pB2 {x : Bool} (g7 : fr.get 7 = some (.int .i64 p)) (g8 : fr.get 8 = some (.int .i64 q)) (g9 : fr.get 9 = some (.int .i64 r)) (g61 : fr.get 61 = some (.bool x)) (hx : x = false → r ≤ 0 ∧ (r = 0 → p = 0 ∧ q = 0)) :
    ∃ fr', arun Γ oB2 fr st = .ok fr' st ∧ fr'.ds = fr.ds ∧ fr'.get 6 = some (.bool true) := by
  cases x with
  | true =>
    refine ⟨?x, ?y, ?z, ?w⟩
    case y =>
      simp only [Nat.reduceEqDiff, ↓reduceIte, Option.getD_some, reduceCtorEq, Option.bind_some, Option.map_some, cond_true, cond_false, Fr.set_ds, acode, arun_nil, nd_mv, nd_pick, nd_alloc, nd_box, nd_build, nd_bslice, nd_load, nd_store, nd_nilchk, nd_bin, nd_un, nd_faddr, nd_iaddr, nd_len, nd_call, nd_eqnil, nd_extract, nd_field, nd_append, nd_conv, nd_mkif, Go.AM.opr, aop, Go.AM.ev, frOf, Fr.put, Fr.get_set, wantedA, OpR.of, OpR.ofSt, callR, Go.AM.FR.toOp, List.map_cons, List.map_nil, List.nil_append, List.append_nil, List.cons_append, endF, aleaves, resultA, ressA, resA, Fr.nil, Nat.reduceAdd, AV.cells, evParts, dlin, okLin, frzX, oB2, g61, Bool.not_false, Bool.not_true]
      rfl
    case z => rfl
    case w => simp only [Fr.get_set, ↓reduceIte]
  | false =>
    obtain ⟨h1, h2⟩ := hx rfl
    have e1 : binB false .leq (.int .i64 r) (.int .i64 (.ofNat 0)) = some (.bool true) := by rw [leq0]; simp [h1]
    by_cases h0 : r = 0
    · obtain ⟨hp, hq⟩ := h2 h0
      have e2 : binB false .neq (.int .i64 r) (.int .i64 (.ofNat 0)) = some (.bool false) := by rw [h0]; rfl
      have e3 : binB false .eql (.int .i64 p) (.int .i64 (.ofNat 0)) = some (.bool true) := by rw [hp]; rfl
      have e4 : binB false .eql (.int .i64 q) (.int .i64 (.ofNat 0)) = some (.bool true) := by rw [hq]; rfl
      refine ⟨?x2, ?y2, ?z2, ?w2⟩
      case y2 =>
        simp only [Nat.reduceEqDiff, ↓reduceIte, Option.getD_some, reduceCtorEq, Option.bind_some, Option.map_some, cond_true, cond_false, Fr.set_ds, acode, arun_nil, nd_mv, nd_pick, nd_alloc, nd_box, nd_build, nd_bslice, nd_load, nd_store, nd_nilchk, nd_bin, nd_un, nd_faddr, nd_iaddr, nd_len, nd_call, nd_eqnil, nd_extract, nd_field, nd_append, nd_conv, nd_mkif, Go.AM.opr, aop, Go.AM.ev, frOf, Fr.put, Fr.get_set, wantedA, OpR.of, OpR.ofSt, callR, Go.AM.FR.toOp, List.map_cons, List.map_nil, List.nil_append, List.append_nil, List.cons_append, endF, aleaves, resultA, ressA, resA, Fr.nil, Nat.reduceAdd, AV.cells, evParts, dlin, okLin, frzX, oB2, g61, g7, g8, g9, e1, e2, e3, e4, Bool.not_false, Bool.not_true]
        rfl
      case z2 => rfl
      case w2 => simp only [Fr.get_set, ↓reduceIte]
    · have e2 : binB false .neq (.int .i64 r) (.int .i64 (.ofNat 0)) = some (.bool true) := by
        rw [neqI]
        have : (r != Int.ofNat 0) = true := by simpa using h0
        rw [this]
      refine ⟨?x3, ?y3, ?z3, ?w3⟩
      case y3 =>
        simp only [Nat.reduceEqDiff, ↓reduceIte, Option.getD_some, reduceCtorEq, Option.bind_some, Option.map_some, cond_true, cond_false, Fr.set_ds, acode, arun_nil, nd_mv, nd_pick, nd_alloc, nd_box, nd_build, nd_bslice, nd_load, nd_store, nd_nilchk, nd_bin, nd_un, nd_faddr, nd_iaddr, nd_len, nd_call, nd_eqnil, nd_extract, nd_field, nd_append, nd_conv, nd_mkif, Go.AM.opr, aop, Go.AM.ev, frOf, Fr.put, Fr.get_set, wantedA, OpR.of, OpR.ofSt, callR, Go.AM.FR.toOp, List.map_cons, List.map_nil, List.nil_append, List.append_nil, List.cons_append, endF, aleaves, resultA, ressA, resA, Fr.nil, Nat.reduceAdd, AV.cells, evParts, dlin, okLin, frzX, oB2, g61, g7, g8, g9, e1, e2, Bool.not_false, Bool.not_true]
        rfl
      case z3 => rfl
      case w3 => simp only [Fr.get_set, ↓reduceIte]
end

/-- DerivOrder: true. -/
theorem order_run {Γ : Gam} {n : Nat} {DF : Nat → List AV → St → DM → Option (DM × St)} {st stS : St} {a b c : Dv} (h7 : (Γ.cg Y0).fn 7 [] st = .ret (.bool true) stS) (h8 : ∃ v st', (Γ.cg Y0).fn 8 [slAV false true (Dv.cellsL [a, b, c])] stS = .ret (.bool v) st')
    (h9 : ∀ x y, (x = a ∨ x = b ∨ x = c) → (y = a ∨ y = b ∨ y = c) → Cmp9 (Γ.cg Y0) x.cells y.cells (cmpD x y)) (h10 : Same10 (Γ.cg Y0) a.cells b.cells (cmpD a b == 0)) :
    ∃ st', abody Γ Y0 n DF m3 [.agg a.cells, .agg b.cells, .agg c.cells] st = .ret (.bool true) st' := by
  have hab := h9 a b (.inl rfl) (.inr (.inl rfl))
  have hbc := h9 b c (.inr (.inl rfl)) (.inr (.inr rfl))
  have hac := h9 a c (.inl rfl) (.inr (.inr rfl))
  have hba := h9 b a (.inr (.inl rfl)) (.inl rfl)
  have haa := h9 a a (.inl rfl) (.inl rfl)
  rw [cmpD_anti a b] at hba
  rw [cmpD_self] at haa
  have hord := cmpD_order a b c
  have hsg := cmpD_sg a b
  obtain ⟨a1, a2, a3, ha⟩ : ∃ x y z, a.cells = [x, y, z] := by cases a; simp only [Dv.cells]; exact ⟨_, _, _, rfl⟩
  obtain ⟨b1, b2, b3, hb⟩ : ∃ x y z, b.cells = [x, y, z] := by cases b; simp only [Dv.cells]; exact ⟨_, _, _, rfl⟩
  obtain ⟨c1, c2, c3, hc⟩ : ∃ x y z, c.cells = [x, y, z] := by cases c; simp only [Dv.cells]; exact ⟨_, _, _, rfl⟩
  have hsl : slAV false true (Dv.cellsL [a, b, c]) = .lst 3 [a1, a2, a3, b1, b2, b3, c1, c2, c3] true := by
    simp only [Dv.cellsL, ha, hb, hc]; rfl
  rw [hsl] at h8
  rw [ha, hb] at hab hba h10
  rw [hb, hc] at hbc
  rw [ha, hc] at hac
  rw [ha] at haa
  rw [ha, hb, hc]
  rw [m3_eq]
  unfold abody
  have hle : Nat.ble [AV.agg [a1, a2, a3], .agg [b1, b2, b3], .agg [c1, c2, c3]].length kf3.N = true := rfl
  rw [hle]
  have unt : unA .not (.bool true) = some (.bool false) := rfl
  have e0 : ∃ fr0, arun (Γ.cg Y0) oP0 (frOf 0 [AV.agg [a1, a2, a3], .agg [b1, b2, b3], .agg [c1, c2, c3]] Fr.nil) st = .ok fr0 st ∧ fr0.get 3 = some (.fptr [a1, a2, a3] 0) ∧ fr0.get 4 = some (.fptr [b1, b2, b3] 0) ∧ fr0.get 5 = some (.fptr [c1, c2, c3] 0) ∧ fr0.ds = [] := by
    refine ⟨?x, ?y, ?z, ?w, ?v, ?u⟩
    case y =>
      simp only [Nat.reduceEqDiff, ↓reduceIte, Option.getD_some, reduceCtorEq, Option.bind_some, Option.map_some, cond_true, cond_false, Fr.set_ds, acode, arun_nil, nd_mv, nd_pick, nd_alloc, nd_box, nd_build, nd_bslice, nd_load, nd_store, nd_nilchk, nd_bin, nd_un, nd_faddr, nd_iaddr, nd_len, nd_call, nd_eqnil, nd_extract, nd_field, nd_append, nd_conv, nd_mkif, Go.AM.opr, aop, Go.AM.ev, frOf, Fr.put, Fr.get_set, wantedA, OpR.of, OpR.ofSt, callR, Go.AM.FR.toOp, List.map_cons, List.map_nil, List.nil_append, List.append_nil, List.cons_append, endF, aleaves, resultA, ressA, resA, Fr.nil, Nat.reduceAdd, AV.cells, evParts, dlin, okLin, frzX, oP0]
      rfl
    case z => simp only [Fr.get_set, Nat.reduceEqDiff, ↓reduceIte]
    case w => simp only [Fr.get_set, Nat.reduceEqDiff, ↓reduceIte]
    case v => simp only [Fr.get_set, Nat.reduceEqDiff, ↓reduceIte]
    case u => rfl
  obtain ⟨fr0, e0, y3, y4, y5, yd⟩ := e0
  obtain ⟨fr1, e1, k1, g11⟩ : ∃ fr1, arun (Γ.cg Y0) oP1 fr0 st = .ok fr1 stS ∧ Kp [3, 4, 5] fr0 fr1 ∧ fr1.get 11 = some (.bool false) := by
    refine ⟨?x', ?y', ?z', ?w'⟩
    case y' =>
      simp only [Nat.reduceEqDiff, ↓reduceIte, Option.getD_some, reduceCtorEq, Option.bind_some, Option.map_some, cond_true, cond_false, Fr.set_ds, acode, arun_nil, nd_mv, nd_pick, nd_alloc, nd_box, nd_build, nd_bslice, nd_load, nd_store, nd_nilchk, nd_bin, nd_un, nd_faddr, nd_iaddr, nd_len, nd_call, nd_eqnil, nd_extract, nd_field, nd_append, nd_conv, nd_mkif, Go.AM.opr, aop, Go.AM.ev, frOf, Fr.put, Fr.get_set, wantedA, OpR.of, OpR.ofSt, callR, Go.AM.FR.toOp, List.map_cons, List.map_nil, List.nil_append, List.append_nil, List.cons_append, endF, aleaves, resultA, ressA, resA, Fr.nil, Nat.reduceAdd, AV.cells, evParts, dlin, okLin, frzX, oP1, h7, unt]
      rfl
    case z' => repeat (first | exact Kp.refl | refine Kp.set (by decide) ?_)
    case w' => simp only [Fr.get_set, ↓reduceIte]
  obtain ⟨fr2, st2, bv, e2, k2, g17⟩ := pP2 (Γ := Γ.cg Y0) (k1.at (by decide) y3) (k1.at (by decide) y4) (k1.at (by decide) y5) h8
  have K2 : Kp [3, 4, 5] fr0 fr2 := ⟨k2.1.trans k1.1, fun x hx => (k2.2 x (by simp at hx ⊢; omega)).trans (k1.2 x hx)⟩
  generalize frOf 0 [AV.agg [a1, a2, a3], .agg [b1, b2, b3], .agg [c1, c2, c3]] Fr.nil = frS at *
  cases bv with
  | true =>
    have hds : fr2.ds = [] := K2.1.trans yd
    refine ⟨st2, ?_⟩
    simp only [Nat.reduceEqDiff, ↓reduceIte, Option.getD_some, reduceCtorEq, Option.bind_some, Option.map_some, cond_true, cond_false, Fr.set_ds, acode, arun_nil, nd_mv, nd_pick, nd_alloc, nd_box, nd_build, nd_bslice, nd_load, nd_store, nd_nilchk, nd_bin, nd_un, nd_faddr, nd_iaddr, nd_len, nd_call, nd_eqnil, nd_extract, nd_field, nd_append, nd_conv, nd_mkif, Go.AM.opr, aop, Go.AM.ev, frOf, Fr.put, Fr.get_set, wantedA, OpR.of, OpR.ofSt, callR, Go.AM.FR.toOp, List.map_cons, List.map_nil, List.nil_append, List.append_nil, List.cons_append, endF, aleaves, resultA, ressA, resA, Fr.nil, Nat.reduceAdd, AV.cells, evParts, dlin, okLin, frzX, kf3, e0, e1, g11, e2, g17, hds]
  | false =>
    obtain ⟨fr3, st3, e3, k3, g7, g8, g9⟩ := pD3 (Γ := Γ.cg Y0) (st := st2) (K2.at (by decide) y3) (K2.at (by decide) y4) (K2.at (by decide) y5) hab hbc hac (chk := [(3, some 2), (3, some 5), (4, some 2), (4, some 5), (6, some 2), (6, some 5), (6, some 8), (7, some 2), (7, some 5), (7, some 8)]) rfl
    have K3 := K2.trans k3
    have z3 := K3.at (by decide) y3
    have z4 := K3.at (by decide) y4
    obtain ⟨fr4, st4, e4, k4, g33⟩ := pA1 (Γ := Γ.cg Y0) (st := st3) z3 z4 g7 hsg hba
    obtain ⟨fr5, e5, k5, g41⟩ := pA2 (Γ := Γ.cg Y0) (st := st4) g33 (k4.at (by decide) g7) hsg
    have K5 := k4.trans k5
    obtain ⟨fr6, st6, e6, k6, g49⟩ := pA3 (Γ := Γ.cg Y0) (st := st4) (K5.at (by decide) z3) (K5.at (by decide) z4) (K5.at (by decide) g7) g41 h10
    have K6 := K5.trans k6
    obtain ⟨fr7, st7, e7, k7, g54⟩ := pA4 (Γ := Γ.cg Y0) (st := st6) (K6.at (by decide) z3) g49 haa
    have K7 := K6.trans k7
    have eA : arun (Γ.cg Y0) (oA1 ++ (oA2 ++ (oA3 ++ oA4))) fr3 st3 = .ok fr7 st7 := by rw [arun_app e4, arun_app e5, arun_app e6, e7]
    obtain ⟨fr8, e8, k8, g61⟩ := pB1 (Γ := Γ.cg Y0) (st := st7) (K7.at (by decide) g7) (K7.at (by decide) g8)
    obtain ⟨fr9, e9, ds9, g6⟩ := pB2 (Γ := Γ.cg Y0) (st := st7) (k8.at (by decide) (K7.at (by decide) g7)) (k8.at (by decide) (K7.at (by decide) g8)) (k8.at (by decide) (K7.at (by decide) g9)) g61 (fun h => by
      simp only [Bool.or_eq_false_iff, decide_eq_false_iff_not] at h
      exact hord (by omega) (by omega))
    have eB : arun (Γ.cg Y0) (oB1 ++ oB2) fr7 st7 = .ok fr9 st7 := by rw [arun_app e8, e9]
    have hds : fr9.ds = [] := ds9.trans (k8.1.trans (K7.1.trans (K3.1.trans yd)))
    refine ⟨st7, ?_⟩
    simp only [Nat.reduceEqDiff, ↓reduceIte, Option.getD_some, reduceCtorEq, Option.bind_some, Option.map_some, cond_true, cond_false, Fr.set_ds, acode, arun_nil, nd_mv, nd_pick, nd_alloc, nd_box, nd_build, nd_bslice, nd_load, nd_store, nd_nilchk, nd_bin, nd_un, nd_faddr, nd_iaddr, nd_len, nd_call, nd_eqnil, nd_extract, nd_field, nd_append, nd_conv, nd_mkif, Go.AM.opr, aop, Go.AM.ev, frOf, Fr.put, Fr.get_set, wantedA, OpR.of, OpR.ofSt, callR, Go.AM.FR.toOp, List.map_cons, List.map_nil, List.nil_append, List.append_nil, List.cons_append, endF, aleaves, resultA, ressA, resA, Fr.nil, Nat.reduceAdd, AV.cells, evParts, dlin, okLin, frzX, kf3, e0, e1, g11, e2, g17, e3, eA, g54, eB, g6, hds]
end Go.AM.D16
