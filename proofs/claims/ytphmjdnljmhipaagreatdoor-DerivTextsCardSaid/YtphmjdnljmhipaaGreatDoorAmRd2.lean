import Derived.Test.YtphmjdnljmhipaaGreatDoorAmRd
set_option linter.unusedSimpArgs false
set_option linter.unusedVariables false
set_option maxRecDepth 100000
namespace Go.AM.D16
open Go Go.AM
noncomputable section
open Nat (reduceEqDiff reduceAdd)
def ch (s : List Nat) (p : Nat) : Nat := (s[p]?).getD 0
def nmL (s : List Nat) : Nat -> Nat -> Nat -> Nat -> PR Nat
 | 0, _, p, _ => .err p
 | j + 1, i, p, n => if dgt s p = true then (if (0 < i /\ n = 0) \/ 9 <= i then .err p else nmL s j (i + 1) (p + 1) (10 * n + (ch s p - 48))) else .ok n p
def nm (s : List Nat) (p : Nat) : PR Nat := if dgt s p = true then nmL s 11 0 p 0 else .err p
theorem dgt_ch {s : List Nat} {p : Nat} (h : dgt s p = true) : s[p]? = some (ch s p) /\ 48 <= ch s p /\ ch s p <= 57 /\ p < s.length := by
 unfold dgt at h
 cases hx : s[p]? with
 | none => rw [hx] at h; cases h
 | some c =>
  rw [hx] at h
  simp only [Bool.and_eq_true, decide_eq_true_eq] at h
  have hc : ch s p = c := by unfold ch; rw [hx]; rfl
  exact ⟨by rw [hc], by omega, by omega, (List.getElem?_eq_some_iff.1 hx).1⟩
def wrong : AV := .iface 122 (.agg [])
theorem fun_pan {f n : Nat} {mf : MFunc} {Y : Yenv} {args : List AV} {st st' : St} {fr : Fr} {v : AV} (ht : tbl f = some mf) (hle : args.length.ble mf.N = true)
  (h : acode (gT n) Y n mf.code none (frOf 0 args Fr.nil) st = .pan fr v st') (hd : fr.ds = []) :
  R (n + 1) Y f args st = .pan v st' := by
 unfold R
 rw [run_of ht]
 unfold abody
 rw [hle]
 simp only [cond_true, h, endF, hd, aleaves]
theorem sub48 {c : Nat} (h : 48 <= c) (h' : c <= 57) : binB false .sub (.int .u8 (.ofNat c)) (.int .u8 (.ofNat 48)) = some (.int .u8 (.ofNat (c - 48))) := by
 have : c = 48 \/ c = 49 \/ c = 50 \/ c = 51 \/ c = 52 \/ c = 53 \/ c = 54 \/ c = 55 \/ c = 56 \/ c = 57 := by omega
 rcases this with rfl | rfl | rfl | rfl | rfl | rfl | rfl | rfl | rfl | rfl <;> rfl
theorem conv8 (c : Nat) (h : c <= 9223372036854775807) : convA .i64 (.int .u8 (.ofNat c)) = some (.int .i64 (.ofNat c)) := by
 show some (AV.int .i64 (wr .i64 (.ofNat c))) = _
 rw [wr_nat h]
theorem mul10 {n : Nat} (h : 10 * n <= 9223372036854775807) : binB false .mul (.int .i64 (.ofNat 10)) (.int .i64 (.ofNat n)) = some (.int .i64 (.ofNat (10 * n))) := by
 show some (AV.int .i64 (wr .i64 (.ofNat (10 * n)))) = _
 rw [wr_nat h]
theorem addN {a b : Nat} (h : a + b <= 9223372036854775807) : binB false .add (.int .i64 (.ofNat a)) (.int .i64 (.ofNat b)) = some (.int .i64 (.ofNat (a + b))) := by
 show some (AV.int .i64 (wr .i64 (.ofNat (a + b)))) = _
 rw [wr_nat h]
theorem subN {a b : Nat} (h : b <= a) (h' : a <= 9223372036854775807) : binB false .sub (.int .i64 (.ofNat a)) (.int .i64 (.ofNat b)) = some (.int .i64 (.ofNat (a - b))) := by
 show some (AV.int .i64 (wr .i64 (.ofNat a - .ofNat b))) = _
 have : (Int.ofNat a - Int.ofNat b : Int) = Int.ofNat (a - b) := by simp only [Int.ofNat_eq_natCast]; omega
 rw [this, wr_nat (by omega)]
theorem gtrN (a b : Nat) : binB false .gtr (.int .i64 (.ofNat a)) (.int .i64 (.ofNat b)) = some (.bool (decide (b < a))) := by
 show some (AV.bool (decide ((Int.ofNat a) > Int.ofNat b))) = _
 congr 2
 simp
def g89_0 : List MOper := [⟨(some 2), .mv (.c (.int .i64 (.ofNat 0))), none⟩]
def g89_1 : List MOper := [⟨(some 5), .mv (.t 0), none⟩, ⟨(some 6), .call (.c (.func (.func 121) [] [])) [(.t 5)], none⟩, ⟨(some 7), .un .not (.t 6), none⟩]
def g89_2 : List MOper := [⟨(some 8), .build [] [], none⟩, ⟨(some 9), .mkif 122 (.t 8), none⟩, ⟨none, .panic (.t 9), none⟩]
def g89_3 : List MOper := [⟨(some 3), .mv (.c (.int .i64 (.ofNat 0))), none⟩]
def g89_4 : List MOper := [⟨(some 10), .mv (.t 0), none⟩, ⟨(some 11), .nilchk (.t 10), none⟩, ⟨(some 12), .faddr 1 (.t 11), none⟩, ⟨(some 13), .load false 1 (.t 12), none⟩, ⟨(some 4), .mv (.t 13), none⟩]
def g89_5 : List MOper := [⟨(some 14), .mv (.t 0), none⟩, ⟨(some 15), .call (.c (.func (.func 121) [] [])) [(.t 14)], none⟩]
def g89_6 : List MOper := [⟨(some 23), .mv (.t 0), none⟩, ⟨(some 24), .nilchk (.t 23), none⟩, ⟨(some 25), .faddr 1 (.t 24), none⟩, ⟨(some 26), .load false 1 (.t 25), none⟩, ⟨(some 27), .mv (.t 4), none⟩, ⟨(some 28), .bin false .gtr (.t 26) (.t 27), none⟩, ⟨(some 29), .mv (.t 28), none⟩, ⟨(some 30), .mv (.t 3), (some (29, true))⟩, ⟨(some 31), .bin false .eql (.t 30) (.c (.int .i64 (.ofNat 0))), (some (29, true))⟩, ⟨(some 32), .pick (.t 29) (.t 31) (.c (.bool false)), none⟩, ⟨(some 33), .mv (.t 32), none⟩, ⟨(some 34), .mv (.t 0), (some (33, false))⟩, ⟨(some 35), .nilchk (.t 34), (some (33, false))⟩, ⟨(some 36), .faddr 1 (.t 35), (some (33, false))⟩, ⟨(some 37), .load false 1 (.t 36), (some (33, false))⟩, ⟨(some 38), .mv (.t 4), (some (33, false))⟩, ⟨(some 39), .bin false .sub (.t 37) (.t 38), (some (33, false))⟩, ⟨(some 40), .bin false .geq (.t 39) (.c (.int .i64 (.ofNat 9))), (some (33, false))⟩, ⟨(some 41), .pick (.t 33) (.c (.bool true)) (.t 40), none⟩]
def g89_7 : List MOper := [⟨(some 42), .build [] [], none⟩, ⟨(some 43), .mkif 122 (.t 42), none⟩, ⟨none, .panic (.t 43), none⟩]
def g89_8 : List (MOper × Nat) := [(⟨(some 44), .mv (.t 3), none⟩, 0), (⟨(some 45), .bin false .mul (.c (.int .i64 (.ofNat 10))) (.t 44), none⟩, 1), (⟨(some 46), .mv (.t 0), none⟩, 0), (⟨(some 47), .nilchk (.t 46), none⟩, 4), (⟨(some 48), .faddr 0 (.t 47), none⟩, 12), (⟨(some 49), .load false 1 (.t 48), none⟩, 28), (⟨(some 50), .mv (.t 0), none⟩, 0), (⟨(some 51), .nilchk (.t 50), none⟩, 64), (⟨(some 52), .faddr 1 (.t 51), none⟩, 192), (⟨(some 53), .load false 1 (.t 52), none⟩, 448), (⟨(some 54), .sidx (.t 49) (.t 53), none⟩, 1020), (⟨(some 55), .bin false .sub (.t 54) (.c (.int .u8 (.ofNat 48))), none⟩, 2044), (⟨(some 56), .conv .i64 (.t 55), none⟩, 4092), (⟨(some 57), .bin false .add (.t 45) (.t 56), none⟩, 8191), (⟨(some 3), .mv (.t 57), none⟩, 16383)]
def g89_9 : List MOper := [⟨(some 16), .mv (.t 0), none⟩, ⟨(some 17), .nilchk (.t 16), none⟩, ⟨(some 18), .faddr 1 (.t 17), none⟩, ⟨(some 19), .load false 1 (.t 18), none⟩, ⟨(some 20), .bin false .add (.t 19) (.c (.int .i64 (.ofNat 1))), none⟩, ⟨(some 21), .nilchk (.t 16), none⟩, ⟨(some 22), .faddr 1 (.t 21), none⟩, ⟨none, .store 1 (.t 22) (.t 20), none⟩]
def g89_10 : List MOper := [⟨(some 58), .mv (.t 3), none⟩, ⟨(some 2), .mv (.t 58), none⟩]
def bl89_0 : MCode := (.seq (.seq (.region g89_5) (.cond (.t 15) .skip (.exit 0))) (.seq (.block 1 (.seq (.seq (.region g89_6) (.cond (.t 41) (.region g89_7) .skip)) (.draw g89_8 []))) (.region g89_9)))
def kf89 : MFunc := ⟨59, (.seq (.region g89_0) (.seq (.seq (.region g89_1) (.cond (.t 7) (.region g89_2) .skip)) (.seq (.region g89_3) (.seq (.seq (.region g89_4) (.block 0 (.loop bl89_0))) (.seq (.region g89_10) .ret))))), [.t 2]⟩
theorem t89 : tbl 89 = some kf89 := by kernel_rfl
theorem step89 {q : Nat} {st : St} {s : List Nat} {p : Nat} (h : Rdr q st s p) (hp : p < s.length) (hl : s.length < 9223372036854775807) {Γ : Cg} {fr : Fr} (g0 : fr.get 0 = some (.ptr q 0)) :
  ∃ fr' st', arun Γ g89_9 fr st = .ok fr' st' /\ Kp [0, 3, 4] fr fr' /\ Rdr q st' s (p + 1) /\ Keep1 q st st' /\ st'.next = st.next := by
 have l1 := ld1 h
 have ad := add1 (i := p) (by omega)
 have sto := st21 (k := .i64) (v := .ofNat (p + 1)) h
 exact ⟨_, _, by simp only [amE, reduceEqDiff, ↓reduceIte, reduceCtorEq, reduceAdd, g89_9, g0, ncp, fa1, l1, ad, sto] <;> rfl, Kp.refl.s.s.s.s.s.s.s, by unfold Rdr; rw [St.get_put, if_pos rfl], Keep1.put q st _, rfl⟩
theorem nmL_run {m q a : Nat} {Y : Yenv} {s : List Nat} (hl : s.length < 9223372036854775807) (hm : 1 <= m) : ∀ (j i p n : Nat) (fr : Fr) (st : St) (fuel : Nat), j < fuel -> 11 <= i + j -> i <= 9 -> n < 10 ^ i -> p = a + i -> Rdr q st s p -> fr.get 0 = some (.ptr q 0) -> fr.get 3 = some (.int .i64 (.ofNat n)) -> fr.get 4 = some (.int .i64 (.ofNat a)) ->
  match nmL s j i p n with
  | .ok n' p' => ∃ FR st', aloop (acode (gT m) Y m bl89_0 none) fuel fr st = .exit 0 FR st' /\ FR.get 3 = some (.int .i64 (.ofNat n')) /\ FR.ds = fr.ds /\ Rdr q st' s p' /\ Keep1 q st st' /\ st'.next = st.next
  | .err p' => ∃ FR st', aloop (acode (gT m) Y m bl89_0 none) fuel fr st = .pan FR wrong st' /\ FR.ds = fr.ds /\ Rdr q st' s p' /\ Keep1 q st st' /\ st'.next = st.next
 | 0, i, _, _, _, _, _, _, hij, hi, _, _, _, _, _, _ => by omega
 | j + 1, i, p, n, fr, st, 0, hf, _, _, _, _, _, _, _, _ => by omega
 | j + 1, i, p, n, fr, st, fuel + 1, hf, hij, hi, hn, hp, h, g0, g3, g4 => by
  have b11 : Nat.beq 1 1 = true := rfl
  have l0 := ld0 h
  have l1 := ld1 h
  have hd := isd_run h (m - 1) Y
  rw [Nat.sub_add_cancel hm] at hd
  obtain ⟨f1, hA, kA, oA⟩ : ∃ fr', arun ((gT m).cg Y) g89_5 fr st = .ok fr' st /\ Kp [0, 3, 4] fr fr' /\ fr'.get 15 = some (.bool (dgt s p)) := ⟨_, by simp only [amE, reduceEqDiff, ↓reduceIte, reduceCtorEq, reduceAdd, g89_5, g0, cg_fn, hd] <;> rfl, Kp.refl.s.s, gh⟩
  unfold nmL
  cases hdg : dgt s p with
  | false =>
   rw [hdg] at oA
   rw [if_neg (by decide)]
   refine ⟨f1, st, ?_, kA.at (by decide) g3, kA.1, h, Keep1.refl q st, rfl⟩
   rw [aloop]
   simp only [amE, reduceEqDiff, ↓reduceIte, reduceCtorEq, reduceAdd, bl89_0, hA, oA]
  | true =>
   rw [hdg] at oA
   rw [if_pos rfl]
   obtain ⟨hx, h48, h57, hpl⟩ := dgt_ch hdg
   have q0 := kA.at (k := 0) (by decide) g0
   have q3 := kA.at (k := 3) (by decide) g3
   have q4 := kA.at (k := 4) (by decide) g4
   have c1 := gtrN p a
   have c2 := eql0 n
   have c3 := subN (a := p) (b := a) (by omega) (by omega)
   have c4 : binB false .geq (.int .i64 (.ofNat (p - a))) (.int .i64 (.ofNat 9)) = some (.bool (decide (9 <= i))) := by rw [geqN, hp, Nat.add_sub_cancel_left]
   have e1 : decide (a < p) = decide (0 < i) := by rw [hp]; congr 1; simp
   rw [e1] at c1
   obtain ⟨f2, hB, kB, oB⟩ : ∃ fr', arun ((gT m).cg Y) g89_6 f1 st = .ok fr' st /\ Kp [0, 3, 4] f1 fr' /\ fr'.get 41 = some (.bool ((decide (0 < i) && decide (n = 0)) || decide (9 <= i))) := by
    generalize decide (0 < i) = A at *
    generalize decide (n = 0) = B at *
    generalize decide (9 <= i) = C at *
    cases A <;> cases B <;> cases C <;> exact ⟨_, by simp only [amE, reduceEqDiff, ↓reduceIte, reduceCtorEq, reduceAdd, g89_6, q0, q3, q4, ncp, fa1, l1, c1, c2, c3, c4, Bool.not_true, Bool.not_false] <;> rfl, Kp.refl.s.s.s.s.s.s.s.s.s.s.s.s.s.s.s.s.s.s.s, by simp only [Fr.get_set, reduceEqDiff, ↓reduceIte, Bool.and_true, Bool.and_false, Bool.true_and, Bool.false_and, Bool.or_true, Bool.or_false, Bool.true_or, Bool.false_or]⟩
   by_cases hbad : (0 < i /\ n = 0) \/ 9 <= i
   ·have ob : ((decide (0 < i) && decide (n = 0)) || decide (9 <= i)) = true := by simpa using hbad
    rw [ob] at oB
    rw [if_pos hbad]
    refine ⟨?pf, st, ?px, ?pd, h, Keep1.refl q st, rfl⟩
    case px =>
     rw [aloop]
     simp only [amE, reduceEqDiff, ↓reduceIte, reduceCtorEq, reduceAdd, bl89_0, hA, oA, hB, oB, g89_7, fillA, panicR] <;> rfl
    case pd => exact kB.1.trans kA.1
   ·have ob : ((decide (0 < i) && decide (n = 0)) || decide (9 <= i)) = false := by
     cases hc : ((decide (0 < i) && decide (n = 0)) || decide (9 <= i)) with
     | false => rfl
     | true => exact absurd (by simpa using hc) hbad
    rw [ob] at oB
    rw [if_neg hbad]
    have r0 := kB.at (k := 0) (by decide) q0
    have r3 := kB.at (k := 3) (by decide) q3
    have r4 := kB.at (k := 4) (by decide) q4
    have ix := sidx_at hx
    have i9 : i < 9 := by omega
    have hpw : 10 ^ i <= 10 ^ 8 := Nat.pow_le_pow_right (by decide) (by omega)
    have m1 := mul10 (n := n) (by omega)
    have m2 := sub48 h48 h57
    have m3 := conv8 (ch s p - 48) (by omega)
    have m4 := addN (a := 10 * n) (b := ch s p - 48) (by omega)
    obtain ⟨f3, hC, kC, oC⟩ : ∃ fr', adraw ((gT m).cg Y) g89_8 [] f2 st = .ok fr' st /\ Kp [0, 4] f2 fr' /\ fr'.get 3 = some (.int .i64 (.ofNat (10 * n + (ch s p - 48)))) := ⟨_, adraw_seq rfl (by simp only [amE, reduceEqDiff, ↓reduceIte, reduceCtorEq, reduceAdd, g89_8, nd_sidx, r0, r3, ncp, fa0, fa1, l0, l1, ix, m1, m2, m3, m4] <;> rfl), Kp.refl.s.s.s.s.s.s.s.s.s.s.s.s.s.s.s, gh⟩
    obtain ⟨f4, s4, hD, kD, h4, k4, n4⟩ := step89 h hpl hl (Γ := (gT m).cg Y) (kC.at (k := 0) (by decide) r0)
    have hst : acode (gT m) Y m bl89_0 none fr st = .norm f4 s4 := by simp only [amE, reduceEqDiff, ↓reduceIte, reduceCtorEq, reduceAdd, bl89_0, b11, hA, oA, hB, oB, hC, hD]
    have ih := nmL_run (Y := Y) hl hm j (i + 1) (p + 1) (10 * n + (ch s p - 48)) f4 s4 fuel (by omega) (by omega) (by omega) (by rw [Nat.pow_succ]; omega) (by omega) h4 (kD.at (k := 0) (by decide) (kC.at (k := 0) (by decide) r0)) (kD.at (k := 3) (by decide) oC) (kD.at (k := 4) (by decide) (kC.at (k := 4) (by decide) r4))
    have hds : f4.ds = fr.ds := kD.1.trans (kC.1.trans (kB.1.trans kA.1))
    rw [aloop, hst]
    cases hnm : nmL s j (i + 1) (p + 1) (10 * n + (ch s p - 48)) with
    | ok n' p' =>
     rw [hnm] at ih
     obtain ⟨FR, s9, e1, e2, e3, e4, e5, e6⟩ := ih
     exact ⟨FR, s9, e1, e2, e3.trans hds, e4, k4.trans e5, e6.trans n4⟩
    | err p' =>
     rw [hnm] at ih
     obtain ⟨FR, s9, e1, e3, e4, e5, e6⟩ := ih
     exact ⟨FR, s9, e1, e3.trans hds, e4, k4.trans e5, e6.trans n4⟩
theorem num_run {q : Nat} {st : St} {s : List Nat} {p : Nat} (h : Rdr q st s p) (hl : s.length < 9223372036854775807) (n : Nat) (Y : Yenv) (hn : 12 <= n) :
  match nm s p with
  | .ok x p' => ∃ st', R (n + 1) Y 89 [.ptr q 0] st = .ret (.int .i64 (.ofNat x)) st' /\ Rdr q st' s p' /\ Keep1 q st st' /\ st'.next = st.next
  | .err p' => ∃ st', R (n + 1) Y 89 [.ptr q 0] st = .pan wrong st' /\ Rdr q st' s p' /\ Keep1 q st st' /\ st'.next = st.next := by
 have b00 : Nat.beq 0 0 = true := rfl
 have l1 := ld1 h
 have hd := isd_run h (n - 1) Y
 rw [Nat.sub_add_cancel (by omega)] at hd
 unfold nm
 cases hdg : dgt s p with
 | false =>
  rw [hdg] at hd
  rw [if_neg (by decide)]
  refine ⟨st, fun_pan (mf := kf89) (fr := ?f0) t89 rfl ?x0 ?d0, h, Keep1.refl q st, rfl⟩
  case x0 => simp only [amE, reduceEqDiff, ↓reduceIte, reduceCtorEq, reduceAdd, kf89, g89_0, g89_1, g89_2, cg_fn, hd, unN, Bool.not_false, fillA, panicR] <;> rfl
  case d0 => rfl
 | true =>
  rw [hdg] at hd
  rw [if_pos rfl]
  obtain ⟨fr1, hpre, q0, q3, q4, qd⟩ : ∃ fr1, (∀ L T, acode (gT n) Y n (.seq (.region g89_0) (.seq (.seq (.region g89_1) (.cond (.t 7) (.region g89_2) .skip)) (.seq (.region g89_3) (.seq (.seq (.region g89_4) L) T)))) none (frOf 0 [.ptr q 0] Fr.nil) st = match acode (gT n) Y n L none fr1 st with | .norm fr s => acode (gT n) Y n T none fr s | r => r) /\ fr1.get 0 = some (.ptr q 0) /\ fr1.get 3 = some (.int .i64 (.ofNat 0)) /\ fr1.get 4 = some (.int .i64 (.ofNat p)) /\ fr1.ds = [] := by
   refine ⟨?f, fun L T => ?x, ?a, ?b, ?c, ?d⟩
   case x =>
    simp only [amE, reduceEqDiff, ↓reduceIte, reduceCtorEq, reduceAdd, g89_0, g89_1, g89_3, g89_4, cg_fn, hd, unN, Bool.not_true, ncp, fa1, l1]
    rfl
   case a => simp only [Fr.get_set, reduceEqDiff, ↓reduceIte]
   case b => simp only [Fr.get_set, reduceEqDiff, ↓reduceIte]
   case c => simp only [Fr.get_set, reduceEqDiff, ↓reduceIte]
   case d => rfl
  have key := nmL_run (m := n) (q := q) (a := p) (Y := Y) hl (by omega) 11 0 p 0 fr1 st n (by omega) (by omega) (by omega) (by decide) (by omega) h q0 q3 q4
  cases hnm : nmL s 11 0 p 0 with
  | ok x p' =>
   rw [hnm] at key
   obtain ⟨FR, s9, e1, e2, e3, e4, e5, e6⟩ := key
   refine ⟨s9, fun_of (mf := kf89) (fr := ?f1) t89 rfl (.inl ((hpre _ _).trans ?x1)) ?d1 ?r1, e4, e5, e6⟩
   case x1 => simp only [amE, reduceEqDiff, ↓reduceIte, reduceCtorEq, reduceAdd, e1, b00, g89_10, e2] <;> rfl
   case d1 => exact e3.trans qd
   case r1 => simp only [kf89, amE, reduceEqDiff, ↓reduceIte]
  | err p' =>
   rw [hnm] at key
   obtain ⟨FR, s9, e1, e3, e4, e5, e6⟩ := key
   refine ⟨s9, fun_pan (mf := kf89) (fr := FR) t89 rfl ((hpre _ _).trans ?x2) (e3.trans qd), e4, e5, e6⟩
   case x2 => simp only [amE, reduceEqDiff, ↓reduceIte, reduceCtorEq, reduceAdd, e1]
end
end Go.AM.D16
