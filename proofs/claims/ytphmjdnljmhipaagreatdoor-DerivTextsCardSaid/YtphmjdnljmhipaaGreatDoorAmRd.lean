import Derived.Test.YtphmjdnljmhipaaGreatDoorAmWr6
set_option linter.unusedSimpArgs false
set_option linter.unusedVariables false
set_option maxRecDepth 100000
namespace Go.AM.D16
open Go Go.AM
noncomputable section
open Nat (reduceEqDiff reduceAdd)
def plainD (zs : List (MOper × Nat)) : Bool := zs.all fun z => (match z.1.op with | .alloc _ => false | _ => true) && !z.1.op.isDefer
theorem drun_seq {Γ : Cg} : ∀ (zs : List (MOper × Nat)) (i id : Nat) (fr : Fr) (st : St) (fr' : Fr) (st' : St), plainD zs = true -> arun Γ (zs.map Prod.fst) fr st = .ok fr' st' -> ∃ its, drun Γ zs i id fr st none = some (its, fr', st') /\ panOf its = none
 | [], i, id, fr, st, fr', st', _, h => by
  simp only [List.map_nil, arun, RR.ok.injEq] at h
  obtain ⟨rfl, rfl⟩ := h
  exact ⟨[], rfl, rfl⟩
 | z :: zs, i, id, fr, st, fr', st', hp, h => by
  unfold plainD at hp
  simp only [List.all_cons, Bool.and_eq_true, Bool.not_eq_true'] at hp
  obtain ⟨⟨h1, h2⟩, h3⟩ := hp
  have ih := drun_seq (Γ := Γ) zs
  simp only [List.map_cons, arun] at h
  unfold drun
  simp only [deadA, cond_false]
  cases hw : wantedA fr z.1.guard with
  | none => rw [hw] at h; cases h
  | some b =>
   rw [hw] at h
   cases b with
   | false =>
    obtain ⟨its, e1, e2⟩ := ih (i + 1) (nextId id z.1.op) _ _ _ _ h3 h
    refine ⟨.val fr st .undef st :: its, ?_, e2⟩
    simp only [e1]; rfl
   | true =>
    simp only [h2, cond_false] at h
    have ho : oprD Γ id fr st z.1.op = opr Γ fr st z.1.op := by
     unfold oprD
     split
     ·rename_i hh; rw [hh] at h1; cases h1
     ·rfl
    simp only [ho]
    cases hr : opr Γ fr st z.1.op with
    | val v s1 =>
     rw [hr] at h
     obtain ⟨its, e1, e2⟩ := ih (i + 1) (nextId id z.1.op) _ _ _ _ h3 h
     refine ⟨.val fr st v s1 :: its, ?_, e2⟩
     simp only [e1]; rfl
    | pan v s1 => rw [hr] at h; cases h
    | stuck => rw [hr] at h; cases h
theorem preA_plain : ∀ (zs : List (MOper × Nat)) (st : St), plainD zs = true -> preA zs st = st
 | [], _, _ => rfl
 | z :: zs, st, hp => by
  unfold plainD at hp
  simp only [List.all_cons, Bool.and_eq_true] at hp
  unfold preA
  split
  ·rename_i hh; rw [hh] at hp; cases hp.1.1
  ·exact preA_plain zs st hp.2
theorem adraw_seq {Γ : Cg} {zs : List (MOper × Nat)} {fr fr' : Fr} {st st' : St} (hp : plainD zs = true) (h : arun Γ (zs.map Prod.fst) fr st = .ok fr' st') : adraw Γ zs [] fr st = .ok fr' st' := by
 obtain ⟨its, e1, e2⟩ := drun_seq zs 0 st.next fr st fr' st' hp h
 unfold adraw
 rw [preA_plain zs st hp, e1]
 simp only [List.all_nil, cond_true, e2]
def sgn (s : List Nat) (p c : Nat) : Bool := decide (s[p]? = some c)
def dgt (s : List Nat) (p : Nat) : Bool :=
 match s[p]? with
 | some c => decide (48 <= c) && decide (c <= 57)
 | none => false
inductive PR (α : Type) where
 | ok (a : α) (p : Nat)
 | err (p : Nat)
theorem sidx_at {s : List Nat} {p c : Nat} (h : s[p]? = some c) : sindexA (.str s) (.int .i64 (.ofNat p)) = some (.int .u8 (.ofNat c)) := by
 simp only [sindexA, h]
theorem u8geq (a b : Nat) : binB false .geq (.int .u8 (.ofNat a)) (.int .u8 (.ofNat b)) = some (.bool (decide (b <= a))) := by
 show some (AV.bool (decide ((Int.ofNat a) >= Int.ofNat b))) = _
 congr 2; simp
theorem u8leq (a b : Nat) : binB false .leq (.int .u8 (.ofNat a)) (.int .u8 (.ofNat b)) = some (.bool (decide (a <= b))) := by
 show some (AV.bool (decide ((Int.ofNat a) <= Int.ofNat b))) = _
 congr 2; simp
theorem u8eql (a b : Nat) : binB false .eql (.int .u8 (.ofNat a)) (.int .u8 (.ofNat b)) = some (.bool (decide (a = b))) := by
 show some (AV.bool (decide ((Int.ofNat a) = Int.ofNat b))) = _
 congr 2; simp; omega
theorem fa0 (q : Nat) : faddrA 0 (.ptr q 0) = some (.ptr q 0) := rfl
theorem fa1 (q : Nat) : faddrA 1 (.ptr q 0) = some (.ptr q 1) := rfl
theorem fa2 (q : Nat) : faddrA 2 (.ptr q 0) = some (.ptr q 2) := rfl
theorem ncp (q o : Nat) : nilchkA (.ptr q o) = some (.ptr q o) := rfl
theorem lnS (s : List Nat) (st : St) : (bif lenFits 1 (.str s) then lenA st (.str s) else none) = some (.int .i64 (.ofNat s.length)) := rfl
def Rdr (q : Nat) (st : St) (s : List Nat) (p : Nat) : Prop := st.get q = some (.row [.str s, .int .i64 (.ofNat p)])
def Rgr (q : Nat) (st : St) (s : List Nat) (p : Nat) (b : Bool) : Prop := st.get q = some (.row [.str s, .int .i64 (.ofNat p), .bool b])
def g121_1 : List (MOper × Nat) := [(⟨(some 3), .mv (.t 0), none⟩, 0), (⟨(some 4), .nilchk (.t 3), none⟩, 1), (⟨(some 5), .faddr 1 (.t 4), none⟩, 3), (⟨(some 6), .load false 1 (.t 5), none⟩, 7), (⟨(some 7), .mv (.t 0), none⟩, 0), (⟨(some 8), .nilchk (.t 7), none⟩, 16), (⟨(some 9), .faddr 0 (.t 8), none⟩, 48), (⟨(some 10), .load false 1 (.t 9), none⟩, 112), (⟨(some 11), .len 1 (.t 10), none⟩, 240), (⟨(some 12), .bin false .lss (.t 6) (.t 11), none⟩, 511), (⟨(some 13), .mv (.t 12), none⟩, 1023), (⟨(some 14), .mv (.t 0), (some (13, true))⟩, 2047), (⟨(some 15), .nilchk (.t 14), (some (13, true))⟩, 4095), (⟨(some 16), .faddr 0 (.t 15), (some (13, true))⟩, 8191), (⟨(some 17), .load false 1 (.t 16), (some (13, true))⟩, 16383), (⟨(some 18), .mv (.t 0), (some (13, true))⟩, 2047), (⟨(some 19), .nilchk (.t 18), (some (13, true))⟩, 34815), (⟨(some 20), .faddr 1 (.t 19), (some (13, true))⟩, 100351), (⟨(some 21), .load false 1 (.t 20), (some (13, true))⟩, 231423), (⟨(some 22), .sidx (.t 17) (.t 21), (some (13, true))⟩, 524287), (⟨(some 23), .bin false .geq (.t 22) (.c (.int .u8 (.ofNat 48))), (some (13, true))⟩, 1048575), (⟨(some 24), .pick (.t 13) (.t 23) (.c (.bool false)), none⟩, 2097151), (⟨(some 25), .mv (.t 24), none⟩, 4194303), (⟨(some 26), .mv (.t 0), (some (25, true))⟩, 8388607), (⟨(some 27), .nilchk (.t 26), (some (25, true))⟩, 16777215), (⟨(some 28), .faddr 0 (.t 27), (some (25, true))⟩, 33554431), (⟨(some 29), .load false 1 (.t 28), (some (25, true))⟩, 67108863), (⟨(some 30), .mv (.t 0), (some (25, true))⟩, 8388607), (⟨(some 31), .nilchk (.t 30), (some (25, true))⟩, 142606335), (⟨(some 32), .faddr 1 (.t 31), (some (25, true))⟩, 411041791), (⟨(some 33), .load false 1 (.t 32), (some (25, true))⟩, 947912703), (⟨(some 34), .sidx (.t 29) (.t 33), (some (25, true))⟩, 2147483647), (⟨(some 35), .bin false .leq (.t 34) (.c (.int .u8 (.ofNat 57))), (some (25, true))⟩, 4294967295), (⟨(some 36), .pick (.t 25) (.t 35) (.c (.bool false)), none⟩, 8589934591), (⟨(some 2), .mv (.t 36), none⟩, 17179869183)]
def kf121 : MFunc := ⟨37, (.seq (.region [⟨(some 2), .mv (.c (.bool false)), none⟩])
 (.seq (.draw g121_1 [])
 .ret)), [.t 2]⟩
theorem t121 : tbl 121 = some kf121 := by kernel_rfl
def g122_1 : List (MOper × Nat) := [(⟨(some 5), .mv (.t 0), none⟩, 0), (⟨(some 6), .nilchk (.t 5), none⟩, 1), (⟨(some 7), .faddr 1 (.t 6), none⟩, 3), (⟨(some 8), .load false 1 (.t 7), none⟩, 7), (⟨(some 9), .mv (.t 0), none⟩, 0), (⟨(some 10), .nilchk (.t 9), none⟩, 16), (⟨(some 11), .faddr 0 (.t 10), none⟩, 48), (⟨(some 12), .load false 1 (.t 11), none⟩, 112), (⟨(some 13), .len 1 (.t 12), none⟩, 240), (⟨(some 14), .bin false .lss (.t 8) (.t 13), none⟩, 511), (⟨(some 15), .mv (.t 14), none⟩, 1023), (⟨(some 16), .mv (.t 0), (some (15, true))⟩, 2047), (⟨(some 17), .nilchk (.t 16), (some (15, true))⟩, 4095), (⟨(some 18), .faddr 0 (.t 17), (some (15, true))⟩, 8191), (⟨(some 19), .load false 1 (.t 18), (some (15, true))⟩, 16383), (⟨(some 20), .mv (.t 0), (some (15, true))⟩, 2047), (⟨(some 21), .nilchk (.t 20), (some (15, true))⟩, 34815), (⟨(some 22), .faddr 1 (.t 21), (some (15, true))⟩, 100351), (⟨(some 23), .load false 1 (.t 22), (some (15, true))⟩, 231423), (⟨(some 24), .sidx (.t 19) (.t 23), (some (15, true))⟩, 524287), (⟨(some 25), .mv (.t 1), (some (15, true))⟩, 2047), (⟨(some 26), .bin false .eql (.t 24) (.t 25), (some (15, true))⟩, 2097151), (⟨(some 27), .pick (.t 15) (.t 26) (.c (.bool false)), none⟩, 4194303)]
def g122_2 : List MOper := [⟨(some 28), .mv (.t 0), none⟩, ⟨(some 29), .nilchk (.t 28), none⟩, ⟨(some 30), .faddr 1 (.t 29), none⟩, ⟨(some 31), .load false 1 (.t 30), none⟩, ⟨(some 32), .bin false .add (.t 31) (.c (.int .i64 (.ofNat 1))), none⟩, ⟨(some 33), .nilchk (.t 28), none⟩, ⟨(some 34), .faddr 1 (.t 33), none⟩, ⟨none, .store 1 (.t 34) (.t 32), none⟩]
def kf122 : MFunc := ⟨35, (.seq (.region [⟨(some 4), .mv (.c (.bool false)), none⟩])
 (.seq (.seq (.draw g122_1 [])
 (.cond (.t 27)
 (.seq (.region g122_2)
 (.seq (.region [⟨(some 4), .mv (.c (.bool true)), none⟩])
 .ret))
 .skip))
 (.seq (.region [⟨(some 4), .mv (.c (.bool false)), none⟩])
 .ret))), [.t 4]⟩
theorem t122 : tbl 122 = some kf122 := by kernel_rfl
def g94_1 : List (MOper × Nat) := [(⟨(some 5), .mv (.t 0), none⟩, 0), (⟨(some 6), .nilchk (.t 5), none⟩, 1), (⟨(some 7), .faddr 2 (.t 6), none⟩, 3), (⟨(some 8), .load false 1 (.t 7), none⟩, 7), (⟨(some 9), .un .not (.t 8), none⟩, 15), (⟨(some 10), .mv (.t 9), none⟩, 31), (⟨(some 11), .mv (.t 0), (some (10, true))⟩, 63), (⟨(some 12), .nilchk (.t 11), (some (10, true))⟩, 127), (⟨(some 13), .faddr 1 (.t 12), (some (10, true))⟩, 255), (⟨(some 14), .load false 1 (.t 13), (some (10, true))⟩, 511), (⟨(some 15), .mv (.t 0), (some (10, true))⟩, 63), (⟨(some 16), .nilchk (.t 15), (some (10, true))⟩, 1087), (⟨(some 17), .faddr 0 (.t 16), (some (10, true))⟩, 3135), (⟨(some 18), .load false 1 (.t 17), (some (10, true))⟩, 7231), (⟨(some 19), .len 1 (.t 18), (some (10, true))⟩, 15423), (⟨(some 20), .bin false .lss (.t 14) (.t 19), (some (10, true))⟩, 32767), (⟨(some 21), .pick (.t 10) (.t 20) (.c (.bool false)), none⟩, 65535), (⟨(some 22), .mv (.t 21), none⟩, 131071), (⟨(some 23), .mv (.t 0), (some (22, true))⟩, 262143), (⟨(some 24), .nilchk (.t 23), (some (22, true))⟩, 524287), (⟨(some 25), .faddr 0 (.t 24), (some (22, true))⟩, 1048575), (⟨(some 26), .load false 1 (.t 25), (some (22, true))⟩, 2097151), (⟨(some 27), .mv (.t 0), (some (22, true))⟩, 262143), (⟨(some 28), .nilchk (.t 27), (some (22, true))⟩, 4456447), (⟨(some 29), .faddr 1 (.t 28), (some (22, true))⟩, 12845055), (⟨(some 30), .load false 1 (.t 29), (some (22, true))⟩, 29622271), (⟨(some 31), .sidx (.t 26) (.t 30), (some (22, true))⟩, 67108863), (⟨(some 32), .mv (.t 1), (some (22, true))⟩, 262143), (⟨(some 33), .bin false .eql (.t 31) (.t 32), (some (22, true))⟩, 268435455), (⟨(some 34), .pick (.t 22) (.t 33) (.c (.bool false)), none⟩, 536870911), (⟨(some 4), .mv (.t 34), none⟩, 1073741823)]
def kf94 : MFunc := ⟨35, (.seq (.region [⟨(some 4), .mv (.c (.bool false)), none⟩])
 (.seq (.draw g94_1 [])
 .ret)), [.t 4]⟩
theorem t94 : tbl 94 = some kf94 := by kernel_rfl
def g96_2 : List MOper := [⟨(some 7), .mv (.t 0), none⟩, ⟨(some 8), .nilchk (.t 7), none⟩, ⟨(some 9), .faddr 1 (.t 8), none⟩, ⟨(some 10), .load false 1 (.t 9), none⟩, ⟨(some 11), .bin false .add (.t 10) (.c (.int .i64 (.ofNat 1))), none⟩, ⟨(some 12), .nilchk (.t 7), none⟩, ⟨(some 13), .faddr 1 (.t 12), none⟩, ⟨none, .store 1 (.t 13) (.t 11), none⟩]
def g96_4 : List MOper := [⟨(some 14), .mv (.t 0), none⟩, ⟨(some 15), .mv (.t 1), none⟩, ⟨(some 16), .call (.c (.func (.func 94) [] [])) [(.t 14), (.t 15)], none⟩]
def g96_5 : List MOper := [⟨(some 17), .mv (.t 0), none⟩, ⟨(some 18), .nilchk (.t 17), none⟩, ⟨(some 19), .faddr 1 (.t 18), none⟩, ⟨(some 20), .load false 1 (.t 19), none⟩, ⟨(some 21), .bin false .add (.t 20) (.c (.int .i64 (.ofNat 1))), none⟩, ⟨(some 22), .nilchk (.t 17), none⟩, ⟨(some 23), .faddr 1 (.t 22), none⟩, ⟨none, .store 1 (.t 23) (.t 21), none⟩]
def g96_7 : List MOper := [⟨(some 24), .mv (.t 0), none⟩, ⟨(some 25), .nilchk (.t 24), none⟩, ⟨(some 26), .faddr 2 (.t 25), none⟩, ⟨none, .store 1 (.t 26) (.c (.bool true)), none⟩]
def kf96 : MFunc := ⟨27, (.seq (.region [⟨(some 4), .mv (.c (.bool false)), none⟩])
 (.seq (.seq (.region [⟨(some 5), .mv (.t 0), none⟩, ⟨(some 6), .call (.c (.func (.func 94) [] [])) [(.t 5), (.c (.int .u8 (.ofNat 44)))], none⟩])
 (.cond (.t 6)
 (.seq (.region g96_2)
 (.seq (.region [⟨(some 4), .mv (.c (.bool true)), none⟩])
 .ret))
 .skip))
 (.seq (.seq (.region g96_4)
 (.cond (.t 16)
 (.seq (.region g96_5)
 (.seq (.region [⟨(some 4), .mv (.c (.bool false)), none⟩])
 .ret))
 .skip))
 (.seq (.region g96_7)
 (.seq (.region [⟨(some 4), .mv (.c (.bool false)), none⟩])
 .ret))))), [.t 4]⟩
theorem t96 : tbl 96 = some kf96 := by kernel_rfl
theorem isd_run {q : Nat} {st : St} {s : List Nat} {p : Nat} (h : Rdr q st s p) (n : Nat) (Y : Yenv) : R (n + 1) Y 121 [.ptr q 0] st = .ret (.bool (dgt s p)) st := by
 have l0 := ld0 h
 have l1 := ld1 h
 have lt := lssN p s.length
 obtain ⟨fr, hd, g2, gd⟩ : ∃ fr, adraw ((gT n).cg Y) g121_1 [] ((({ t := Tr.nil, ds := [] } : Fr).set 0 (some (.ptr q 0))).set 2 (some (.bool false))) st = .ok fr st /\ fr.get 2 = some (.bool (dgt s p)) /\ fr.ds = [] := by
  by_cases hp : p < s.length
  ·rw [decide_eq_true hp] at lt
   have hx : s[p]? = some (s[p]) := List.getElem?_eq_getElem hp
   have ix := sidx_at hx
   have hg : dgt s p = (decide (48 <= s[p]) && decide (s[p] <= 57)) := by unfold dgt; rw [hx]
   have c1 := u8geq s[p] 48
   have c2 := u8leq s[p] 57
   rw [hg]
   generalize decide (48 <= s[p]) = A at *
   generalize decide (s[p] <= 57) = B at *
   cases A <;> cases B <;> exact ⟨_, adraw_seq rfl (by simp only [amE, reduceEqDiff, ↓reduceIte, reduceCtorEq, reduceAdd, g121_1, nd_sidx, fa0, fa1, ncp, l0, l1, lnS, lt, ix, c1, c2] <;> rfl), by simp only [Fr.get_set, reduceEqDiff, ↓reduceIte, Bool.and_true, Bool.and_false, Bool.true_and, Bool.false_and], rfl⟩
  ·rw [decide_eq_false hp] at lt
   have hg : dgt s p = false := by unfold dgt; rw [List.getElem?_eq_none (by omega)]
   rw [hg]
   exact ⟨_, adraw_seq rfl (by simp only [amE, reduceEqDiff, ↓reduceIte, reduceCtorEq, reduceAdd, g121_1, nd_sidx, fa0, fa1, ncp, l0, l1, lnS, lt] <;> rfl), by simp only [Fr.get_set, reduceEqDiff, ↓reduceIte], rfl⟩
 refine fun_of (mf := kf121) (fr := fr) t121 rfl (.inl ?x) gd (by simp only [kf121, amE, g2])
 simp only [amE, reduceEqDiff, ↓reduceIte, reduceCtorEq, reduceAdd, kf121, hd]
theorem isc_run {q : Nat} {st : St} {s : List Nat} {p c : Nat} (h : Rdr q st s p) (hl : s.length < 9223372036854775807) (n : Nat) (Y : Yenv) :
  ∃ st', R (n + 1) Y 122 [.ptr q 0, .int .u8 (.ofNat c)] st = .ret (.bool (sgn s p c)) st' /\ Keep1 q st st' /\ Rdr q st' s (if sgn s p c = true then p + 1 else p) /\ st'.next = st.next := by
 have l0 := ld0 h
 have l1 := ld1 h
 have lt := lssN p s.length
 obtain ⟨fr, hd, g0, g27, gd⟩ : ∃ fr, adraw ((gT n).cg Y) g122_1 [] (((({ t := Tr.nil, ds := [] } : Fr).set 0 (some (.ptr q 0))).set 1 (some (.int .u8 (.ofNat c)))).set 4 (some (.bool false))) st = .ok fr st /\ fr.get 0 = some (.ptr q 0) /\ fr.get 27 = some (.bool (sgn s p c)) /\ fr.ds = [] := by
  by_cases hp : p < s.length
  ·rw [decide_eq_true hp] at lt
   have hx : s[p]? = some (s[p]) := List.getElem?_eq_getElem hp
   have ix := sidx_at hx
   have hg : sgn s p c = decide (s[p] = c) := by unfold sgn; rw [hx]; simp
   have c1 := u8eql s[p] c
   rw [hg]
   exact ⟨_, adraw_seq rfl (by simp only [amE, reduceEqDiff, ↓reduceIte, reduceCtorEq, reduceAdd, g122_1, nd_sidx, fa0, fa1, ncp, l0, l1, lnS, lt, ix, c1] <;> rfl), by simp only [Fr.get_set, reduceEqDiff, ↓reduceIte], by simp only [Fr.get_set, reduceEqDiff, ↓reduceIte], rfl⟩
  ·rw [decide_eq_false hp] at lt
   have hg : sgn s p c = false := by unfold sgn; rw [List.getElem?_eq_none (by omega)]; simp
   rw [hg]
   exact ⟨_, adraw_seq rfl (by simp only [amE, reduceEqDiff, ↓reduceIte, reduceCtorEq, reduceAdd, g122_1, nd_sidx, fa0, fa1, ncp, l0, l1, lnS, lt] <;> rfl), by simp only [Fr.get_set, reduceEqDiff, ↓reduceIte], by simp only [Fr.get_set, reduceEqDiff, ↓reduceIte], rfl⟩
 cases hs : sgn s p c with
 | false =>
  rw [hs] at g27
  refine ⟨st, fun_of (mf := kf122) (fr := ?f1) t122 rfl (.inl ?x1) ?d1 ?r1, Keep1.refl q st, by rw [if_neg (by decide)]; exact h, rfl⟩
  case x1 => simp only [amE, reduceEqDiff, ↓reduceIte, reduceCtorEq, reduceAdd, kf122, hd, g27] <;> rfl
  case d1 => exact gd
  case r1 => simp only [kf122, amE, reduceEqDiff, ↓reduceIte]
 | true =>
  rw [hs] at g27
  have hp : p < s.length := by
   unfold sgn at hs
   exact (List.getElem?_eq_some_iff.1 (of_decide_eq_true hs)).1
  have ad := add1 (i := p) (by omega)
  have sto := st21 (k := .i64) (v := .ofNat (p + 1)) h
  refine ⟨_, fun_of (mf := kf122) (fr := ?f2) t122 rfl (.inl ?x2) ?d2 ?r2, Keep1.put q st _, by rw [if_pos rfl]; unfold Rdr; rw [St.get_put, if_pos rfl], rfl⟩
  case x2 => simp only [amE, reduceEqDiff, ↓reduceIte, reduceCtorEq, reduceAdd, kf122, hd, g27, g122_2, g0, ncp, fa1, l1, ad, sto] <;> rfl
  case d2 => exact gd
  case r2 => simp only [kf122, amE, reduceEqDiff, ↓reduceIte]
theorem next_run {q : Nat} {st : St} {s : List Nat} {p : Nat} {b : Bool} (h : Rgr q st s p b) (c n : Nat) (Y : Yenv) : R (n + 1) Y 94 [.ptr q 0, .int .u8 (.ofNat c)] st = .ret (.bool (!b && sgn s p c)) st := by
 have l0 := ld0 h
 have l1 := ld1 h
 have l2 := ld2 h
 have lt := lssN p s.length
 obtain ⟨fr, hd, g4, gd⟩ : ∃ fr, adraw ((gT n).cg Y) g94_1 [] (((({ t := Tr.nil, ds := [] } : Fr).set 0 (some (.ptr q 0))).set 1 (some (.int .u8 (.ofNat c)))).set 4 (some (.bool false))) st = .ok fr st /\ fr.get 4 = some (.bool (!b && sgn s p c)) /\ fr.ds = [] := by
  cases b with
  | true => exact ⟨_, adraw_seq rfl (by simp only [amE, reduceEqDiff, ↓reduceIte, reduceCtorEq, reduceAdd, g94_1, nd_sidx, fa0, fa1, fa2, ncp, l0, l1, l2, unN, Bool.not_true] <;> rfl), by simp only [Fr.get_set, reduceEqDiff, ↓reduceIte, Bool.not_true, Bool.false_and], rfl⟩
  | false =>
   by_cases hp : p < s.length
   ·rw [decide_eq_true hp] at lt
    have hx : s[p]? = some (s[p]) := List.getElem?_eq_getElem hp
    have ix := sidx_at hx
    have hg : sgn s p c = decide (s[p] = c) := by unfold sgn; rw [hx]; simp
    have c1 := u8eql s[p] c
    rw [hg]
    exact ⟨_, adraw_seq rfl (by simp only [amE, reduceEqDiff, ↓reduceIte, reduceCtorEq, reduceAdd, g94_1, nd_sidx, fa0, fa1, fa2, ncp, l0, l1, l2, unN, Bool.not_false, lnS, lt, ix, c1] <;> rfl), by simp only [Fr.get_set, reduceEqDiff, ↓reduceIte, Bool.not_false, Bool.true_and], rfl⟩
   ·rw [decide_eq_false hp] at lt
    have hg : sgn s p c = false := by unfold sgn; rw [List.getElem?_eq_none (by omega)]; simp
    rw [hg]
    exact ⟨_, adraw_seq rfl (by simp only [amE, reduceEqDiff, ↓reduceIte, reduceCtorEq, reduceAdd, g94_1, nd_sidx, fa0, fa1, fa2, ncp, l0, l1, l2, unN, Bool.not_false, lnS, lt] <;> rfl), by simp only [Fr.get_set, reduceEqDiff, ↓reduceIte, Bool.not_false, Bool.and_false], rfl⟩
 refine fun_of (mf := kf94) (fr := fr) t94 rfl (.inl ?x) gd (by simp only [kf94, amE, g4])
 simp only [amE, reduceEqDiff, ↓reduceIte, reduceCtorEq, reduceAdd, kf94, hd]
theorem st31 {st : St} {id : Nat} {x y z : AV} {k : IntKind} {v : Int} (h : st.get id = some (.row [x, y, z])) : storeA 1 st (.ptr id 1) (.int k v) = some (st.put id (.row [x, .int k v, z])) := by
 simp only [storeA, h]; rfl
theorem st3b {st : St} {id : Nat} {x y z : AV} {v : Bool} (h : st.get id = some (.row [x, y, z])) : storeA 1 st (.ptr id 2) (.bool v) = some (st.put id (.row [x, y, .bool v])) := by
 simp only [storeA, h]; rfl
theorem goes_run {q : Nat} {st : St} {s : List Nat} {p : Nat} (h : Rgr q st s p false) (hl : s.length < 9223372036854775807) (c n : Nat) (Y : Yenv) :
  ∃ st', R (n + 2) Y 96 [.ptr q 0, .int .u8 (.ofNat c)] st = .ret (.bool (sgn s p 44)) st' /\ Keep1 q st st' /\ Rgr q st' s (if sgn s p 44 = true then p + 1 else if sgn s p c = true then p + 1 else p) (!sgn s p 44 && !sgn s p c) /\ st'.next = st.next := by
 have l1 := ld1 h
 have n1 := next_run h 44 n Y
 have n2 := next_run h c n Y
 rw [Bool.not_false, Bool.true_and] at n1 n2
 have hlt : ∀ d, sgn s p d = true -> p < s.length := fun d hs => by
  unfold sgn at hs
  exact (List.getElem?_eq_some_iff.1 (of_decide_eq_true hs)).1
 cases h1 : sgn s p 44 with
 | true =>
  rw [h1] at n1
  have ad := add1 (i := p) (by have := hlt _ h1; omega)
  have sto := st31 (k := .i64) (v := .ofNat (p + 1)) h
  refine ⟨_, fun_of (mf := kf96) (fr := ?f1) t96 rfl (.inl ?x1) ?d1 ?r1, Keep1.put q st _, by rw [if_pos rfl, Bool.not_true, Bool.false_and]; unfold Rgr; rw [St.get_put, if_pos rfl], rfl⟩
  case x1 => simp only [amE, reduceEqDiff, ↓reduceIte, reduceCtorEq, reduceAdd, kf96, g96_2, cg_fn, n1, ncp, fa1, l1, ad, sto] <;> rfl
  case d1 => rfl
  case r1 => rfl
 | false =>
  rw [h1] at n1
  cases h2 : sgn s p c with
  | true =>
   rw [h2] at n2
   have ad := add1 (i := p) (by have := hlt _ h2; omega)
   have sto := st31 (k := .i64) (v := .ofNat (p + 1)) h
   refine ⟨_, fun_of (mf := kf96) (fr := ?f2) t96 rfl (.inl ?x2) ?d2 ?r2, Keep1.put q st _, by rw [if_neg (by decide), if_pos rfl]; unfold Rgr; (rw [St.get_put, if_pos rfl]; try rfl), rfl⟩
   case x2 => simp only [amE, reduceEqDiff, ↓reduceIte, reduceCtorEq, reduceAdd, kf96, g96_4, g96_5, cg_fn, n1, n2, ncp, fa1, l1, ad, sto] <;> rfl
   case d2 => rfl
   case r2 => rfl
  | false =>
   rw [h2] at n2
   have sto := st3b (v := true) h
   refine ⟨_, fun_of (mf := kf96) (fr := ?f3) t96 rfl (.inl ?x3) ?d3 ?r3, Keep1.put q st _, by rw [if_neg (by decide), if_neg (by decide)]; unfold Rgr; (rw [St.get_put, if_pos rfl]; try rfl), rfl⟩
   case x3 => simp only [amE, reduceEqDiff, ↓reduceIte, reduceCtorEq, reduceAdd, kf96, g96_4, g96_7, cg_fn, n1, n2, ncp, fa2, l1, sto] <;> rfl
   case d3 => rfl
   case r3 => rfl
end
end Go.AM.D16
