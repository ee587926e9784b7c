import Derived.Test.YtphmjdnljmhipaaGreatDoorAmSh14
import Derived.Test.YtphmjdnljmhipaaGreatDoorAmSh12
set_option linter.unusedSimpArgs false
set_option linter.unusedVariables false
set_option maxRecDepth 100000
namespace Go.AM.D16
open Go Go.AM
noncomputable section
open Nat (reduceEqDiff reduceAdd)
theorem lex2_zero (p q : Int) : lex2 p q = 0 ↔ p = 0 /\ q = 0 := by
 unfold lex2
 by_cases h : p = 0
 ·rw [if_pos h]; exact ⟨fun k => ⟨h, k⟩, fun k => k.2⟩
 ·rw [if_neg h]; exact ⟨fun k => absurd k h, fun k => absurd k.1 h⟩
theorem cmpI_iff (x y : Int) : cmpI x y = 0 ↔ x = y := ⟨cmpI_zero, cmpI_same⟩
theorem cmpT_zero (k1 n1 : Int) (a b : Bool) (l1 : List Tm) (k2 n2 : Int) (a' b' : Bool) (l2 : List Tm) : decide (cmpT (.mk k1 n1 a b l1) (.mk k2 n2 a' b' l2) = 0) = (!(((k1 != k2) || (n1 != n2)) || (Int.ofNat l1.length != Int.ofNat l2.length)) && decide (cmpTs l1 l2 = 0)) := by
 rw [Bool.eq_iff_iff, decide_eq_true_iff, cmpT_eq]
 simp only [lex2_zero, cmpI_iff, Bool.and_eq_true, Bool.not_eq_true', Bool.or_eq_false_iff, bne_eq_false_iff_eq, decide_eq_true_iff, and_assoc]
theorem cmpTs_zero_len : ∀ {a b : List Tm}, cmpTs a b = 0 -> a.length = b.length
 | [], [], _ => rfl
 | [], _ :: _, h => by rw [cmpTs_nc] at h; cases h
 | _ :: _, [], h => by rw [cmpTs_cn] at h; cases h
 | x :: xs, y :: ys, h => by rw [cmpTs_eq, lex2_zero] at h; simp only [List.length_cons]; rw [cmpTs_zero_len h.2]
theorem neI (x y : Int) : binB false .neq (.int .i64 x) (.int .i64 y) = some (.bool (x != y)) := rfl
def g31_0 : List (MOper × Nat) := [(⟨(some 34), .faddr 2 (.t 2), none⟩, 0), (⟨(some 35), .load false 1 (.t 34), none⟩, 1), (⟨(some 36), .mv (.t 5), none⟩, 0), (⟨(some 37), .iaddr 3 (.t 35) (.t 36), none⟩, 7), (⟨(some 38), .load true 3 (.t 37), none⟩, 15), (⟨(some 39), .faddr 2 (.t 3), none⟩, 0), (⟨(some 40), .load false 1 (.t 39), none⟩, 32), (⟨(some 41), .mv (.t 5), none⟩, 0), (⟨(some 42), .iaddr 3 (.t 40) (.t 41), none⟩, 224), (⟨(some 43), .load true 3 (.t 42), none⟩, 480), (⟨(some 44), .call (.c (.func (.func 31) [] [])) [(.t 38), (.t 43)], none⟩, 1023), (⟨(some 45), .un .not (.t 44), none⟩, 2047)]
def g31_3 : List MOper := [⟨(some 6), .faddr 0 (.t 2), none⟩, ⟨(some 7), .load false 1 (.t 6), none⟩, ⟨(some 8), .faddr 0 (.t 3), none⟩, ⟨(some 9), .load false 1 (.t 8), none⟩, ⟨(some 10), .bin false .neq (.t 7) (.t 9), none⟩, ⟨(some 11), .mv (.t 10), none⟩, ⟨(some 12), .faddr 1 (.t 2), (some (11, false))⟩, ⟨(some 13), .load false 1 (.t 12), (some (11, false))⟩, ⟨(some 14), .faddr 1 (.t 3), (some (11, false))⟩, ⟨(some 15), .load false 1 (.t 14), (some (11, false))⟩, ⟨(some 16), .bin false .neq (.t 13) (.t 15), (some (11, false))⟩, ⟨(some 17), .pick (.t 11) (.c (.bool true)) (.t 16), none⟩, ⟨(some 18), .mv (.t 17), none⟩, ⟨(some 19), .faddr 2 (.t 2), (some (18, false))⟩, ⟨(some 20), .load false 1 (.t 19), (some (18, false))⟩, ⟨(some 21), .len 0 (.t 20), (some (18, false))⟩, ⟨(some 22), .faddr 2 (.t 3), (some (18, false))⟩, ⟨(some 23), .load false 1 (.t 22), (some (18, false))⟩, ⟨(some 24), .len 0 (.t 23), (some (18, false))⟩, ⟨(some 25), .bin false .neq (.t 21) (.t 24), (some (18, false))⟩, ⟨(some 26), .pick (.t 18) (.c (.bool true)) (.t 25), none⟩]
def bf31_0 : MCode := (.seq (.draw g31_0 [])
 (.cond (.t 45)
 (.seq (.region [⟨(some 4), .mv (.c (.bool false)), none⟩])
 .ret)
 .skip))
def cf31_0 : List MOper := [⟨(some 27), .mv (.t 5), none⟩, ⟨(some 28), .faddr 2 (.t 2), none⟩, ⟨(some 29), .load false 1 (.t 28), none⟩, ⟨(some 30), .len 0 (.t 29), none⟩, ⟨(some 31), .bin false .lss (.t 27) (.t 30), none⟩]
def kf31 : MFunc := ⟨46, (.seq (.region [⟨(some 2), .box true (.t 0), none⟩, ⟨(some 3), .box true (.t 1), none⟩, ⟨(some 4), .mv (.c (.bool false)), none⟩])
 (.seq (.seq (.region g31_3)
 (.cond (.t 26)
 (.seq (.region [⟨(some 4), .mv (.c (.bool false)), none⟩])
 .ret)
 .skip))
 (.seq (.seq (.region [⟨(some 5), .mv (.c (.int .i64 (.ofNat 0))), none⟩])
 (.block 0 (.loop (lb2 31 5 32 33 0 1 cf31_0 bf31_0))))
 (.seq (.region [⟨(some 4), .mv (.c (.bool true)), none⟩])
 .ret)))), [.t 4]⟩
theorem t31 : tbl 31 = some kf31 := by kernel_rfl
def g117_0 : List (MOper × Nat) := [(⟨(some 17), .mv (.t 0), none⟩, 0), (⟨(some 18), .mv (.t 5), none⟩, 0), (⟨(some 19), .iaddr 3 (.t 17) (.t 18), none⟩, 3), (⟨(some 20), .load true 3 (.t 19), none⟩, 7), (⟨(some 21), .mv (.t 1), none⟩, 0), (⟨(some 22), .mv (.t 5), none⟩, 0), (⟨(some 23), .iaddr 3 (.t 21) (.t 22), none⟩, 48), (⟨(some 24), .load true 3 (.t 23), none⟩, 112), (⟨(some 25), .call (.c (.func (.func 31) [] [])) [(.t 20), (.t 24)], none⟩, 255), (⟨(some 26), .un .not (.t 25), none⟩, 511)]
def g117_3 : List MOper := [⟨(some 6), .mv (.t 0), none⟩, ⟨(some 7), .len 0 (.t 6), none⟩, ⟨(some 8), .mv (.t 1), none⟩, ⟨(some 9), .len 0 (.t 8), none⟩, ⟨(some 10), .bin false .neq (.t 7) (.t 9), none⟩]
def bf117_0 : MCode := (.seq (.draw g117_0 [])
 (.cond (.t 26)
 (.seq (.region [⟨(some 4), .mv (.c (.bool false)), none⟩])
 .ret)
 .skip))
def cf117_0 : List MOper := [⟨(some 11), .mv (.t 5), none⟩, ⟨(some 12), .mv (.t 0), none⟩, ⟨(some 13), .len 0 (.t 12), none⟩, ⟨(some 14), .bin false .lss (.t 11) (.t 13), none⟩]
def kf117 : MFunc := ⟨27, (.seq (.region [⟨(some 4), .mv (.c (.bool false)), none⟩])
 (.seq (.seq (.region g117_3)
 (.cond (.t 10)
 (.seq (.region [⟨(some 4), .mv (.c (.bool false)), none⟩])
 .ret)
 .skip))
 (.seq (.seq (.region [⟨(some 5), .mv (.c (.int .i64 (.ofNat 0))), none⟩])
 (.block 0 (.loop (lb2 14 5 15 16 0 1 cf117_0 bf117_0))))
 (.seq (.region [⟨(some 4), .mv (.c (.bool true)), none⟩])
 .ret)))), [.t 4]⟩
theorem t117 : tbl 117 = some kf117 := by kernel_rfl
def g81_1 : List MOper := [⟨(some 5), .mv (.t 0), none⟩, ⟨(some 6), .mv (.t 1), none⟩, ⟨(some 7), .call (.c (.func (.func 117) [] [])) [(.t 5), (.t 6)], none⟩, ⟨(some 4), .mv (.t 7), none⟩]
def kf81 : MFunc := ⟨8, (.seq (.region [⟨(some 4), .mv (.c (.bool false)), none⟩])
 (.seq (.region g81_1)
 .ret)), [.t 4]⟩
theorem t81 : tbl 81 = some kf81 := by kernel_rfl
def g17_1 : List MOper := [⟨(some 5), .load true 3 (.t 2), none⟩, ⟨(some 6), .load true 3 (.t 3), none⟩, ⟨(some 7), .call (.c (.func (.func 18) [] [])) [(.t 5), (.t 6)], none⟩, ⟨(some 8), .bin false .eql (.t 7) (.c (.int .i64 (.ofNat 0))), none⟩, ⟨(some 4), .mv (.t 8), none⟩]
def kf17 : MFunc := ⟨9, (.seq (.region [⟨(some 2), .box true (.t 0), none⟩, ⟨(some 3), .box true (.t 1), none⟩, ⟨(some 4), .mv (.c (.bool false)), none⟩])
 (.seq (.region g17_1)
 .ret)), [.t 4]⟩
theorem t17 : tbl 17 = some kf17 := by kernel_rfl
theorem rsameT (a : Tm) : ∀ (b : Tm) (n : Nat) (Y : Yenv) (F : Nat -> Prop) (st : St) (ca cb : List AV), RepT F st a ca -> RepT F st b cb -> a.fz < n ->
  R n Y 31 [.agg ca, .agg cb] st = .ret (.bool (decide (cmpT a b = 0))) st := by
 induction hs : a.fz using Nat.strongRecOn generalizing a with
 | _ s ih =>
 intro b n Y F st ca cb ha hb hn
 cases a with
 | mk k1 n1 nl1 ex1 l1 =>
 cases b with
 | mk k2 n2 nl2 ex2 l2 =>
 simp only [RepT] at ha hb
 obtain ⟨sl, xs, rfl, hsl, hrs⟩ := ha
 obtain ⟨sl', ys, rfl, hsl', hrs'⟩ := hb
 simp only [Tm.fz] at hs
 obtain ⟨m, rfl⟩ : ∃ m, n = m + 1 := ⟨n - 1, by omega⟩
 have b00 : Nat.beq 0 0 = true := rfl
 have hxl := hrs.len
 have hyl := hrs'.len
 have hlen := hsl.len st
 have hlen' := hsl'.len st
 rw [cmpT_zero]
 have e1 := neI k1 k2
 have e2 := neI n1 n2
 have e3 : binB false .neq (.int .i64 (.ofNat xs.length)) (.int .i64 (.ofNat ys.length)) = some (.bool (Int.ofNat l1.length != Int.ofNat l2.length)) := by rw [hxl, hyl]; rfl
 have hll : (Int.ofNat l1.length != Int.ofNat l2.length) = false -> l1.length = l2.length := fun h => by rw [bne_eq_false_iff_eq] at h; simp only [Int.ofNat_eq_natCast] at h; omega
 generalize (k1 != k2) = B1 at *
 generalize (n1 != n2) = B2 at *
 generalize (Int.ofNat l1.length != Int.ofNat l2.length) = B3 at *
 obtain ⟨fA1, hA1⟩ : ∃ fA, fA = frOf 0 [.agg [.int .i64 k1, .int .i64 n1, sl], .agg [.int .i64 k2, .int .i64 n2, sl']] Fr.nil := ⟨_, rfl⟩
 have gA1_0 : fA1.get 0 = some (.agg [.int .i64 k1, .int .i64 n1, sl]) := by rw [hA1]; simp only [frOf, Fr.get_set, reduceAdd, reduceEqDiff, ↓reduceIte]
 have gA1_1 : fA1.get 1 = some (.agg [.int .i64 k2, .int .i64 n2, sl']) := by rw [hA1]; simp only [frOf, Fr.get_set, reduceAdd, reduceEqDiff, ↓reduceIte]
 have dA1 : fA1.ds = [] := by rw [hA1]; rfl
 obtain ⟨fR2, hR2, kR2, oR2_2, oR2_3⟩ : ∃ fr', arun ((gT m).cg Y) [⟨(some 2), .box true (.t 0), none⟩, ⟨(some 3), .box true (.t 1), none⟩, ⟨(some 4), .mv (.c (.bool false)), none⟩] fA1 st = .ok fr' st /\ Kp [] fA1 fr' /\ fr'.get 2 = some (.fptr [.int .i64 k1, .int .i64 n1, sl] 0) /\ fr'.get 3 = some (.fptr [.int .i64 k2, .int .i64 n2, sl'] 0) := ⟨_, by simp only [amE, reduceEqDiff, ↓reduceIte, reduceCtorEq, reduceAdd, gA1_0, gA1_1] <;> rfl, Kp.refl.s.s.s, gn (gn gh), gn gh⟩
 have dR2 := kR2.1.trans dA1
 obtain ⟨fR3, hR3, kR3, oR3_26⟩ : ∃ fr', arun ((gT m).cg Y) g31_3 fR2 st = .ok fr' st /\ Kp [2, 3] fR2 fr' /\ fr'.get 26 = some (.bool ((B1 || B2) || B3)) := by cases B1 <;> cases B2 <;> cases B3 <;> exact ⟨_, by simp only [amE, reduceEqDiff, ↓reduceIte, reduceCtorEq, reduceAdd, oR2_2, oR2_3, g31_3, faf, ld0f, ld1f, ld2f, hlen, hlen', e1, e2, e3, Bool.not_true, Bool.not_false] <;> rfl, Kp.refl.s.s.s.s.s.s.s.s.s.s.s.s.s.s.s.s.s.s.s.s.s, by simp only [Fr.get_set, reduceEqDiff, ↓reduceIte, amB]⟩
 have gR3_2 := kR3.g 2 oR2_2
 have gR3_3 := kR3.g 3 oR2_3
 have dR3 := kR3.1.trans dR2
 have hll2 : ((B1 || B2) || B3) = false -> l1.length = l2.length := fun h => hll (by cases B3 with | false => rfl | true => rw [Bool.or_true] at h; cases h)
 generalize ((B1 || B2) || B3) = BB at *
 cases BB with
 | true =>
  obtain ⟨fR4, hR4, kR4, oR4_4⟩ : ∃ fr', arun ((gT m).cg Y) [⟨(some 4), .mv (.c (.bool false)), none⟩] fR3 st = .ok fr' st /\ Kp [] fR3 fr' /\ fr'.get 4 = some (.bool false) := ⟨_, by simp only [amE, reduceEqDiff, ↓reduceIte, reduceCtorEq, reduceAdd] <;> rfl, Kp.refl.s, gh⟩
  have dR4 := kR4.1.trans dR3
  rw [Bool.not_true, Bool.false_and]
  refine fun_of (mf := kf31) (fr := fR4) t31 rfl (.inl ?q4) dR4 (by simp only [kf31, amE, oR4_4])
  case q4 =>
   rw [<- hA1]
   simp only [amE, reduceEqDiff, ↓reduceIte, reduceCtorEq, reduceAdd, kf31, b00, hR2, hR3, hR4, oR3_26]
 | false =>
  rw [Bool.not_false, Bool.true_and]
  have hl := hll2 rfl
  generalize hV : decide (cmpTs l1 l2 = 0) = V at *
  obtain ⟨fR5, hR5, kR5, oR5_5⟩ : ∃ fr', arun ((gT m).cg Y) [⟨(some 5), .mv (.c (.int .i64 (.ofNat 0))), none⟩] fR3 st = .ok fr' st /\ Kp [2, 3] fR3 fr' /\ fr'.get 5 = some (.int .i64 (.ofNat 0)) := ⟨_, by simp only [amE, reduceEqDiff, ↓reduceIte, reduceCtorEq, reduceAdd] <;> rfl, Kp.refl.s, gh⟩
  have gR5_2 := kR5.g 2 gR3_2
  have gR5_3 := kR5.g 3 gR3_3
  have dR5 := kR5.1.trans dR3
  have hC : ∀ k fr s, k <= xs.length -> Kp [2, 3] fR5 fr -> fr.get 5 = some (.int .i64 (.ofNat k)) -> (s = st /\ decide (cmpTs (l1.drop k) (l2.drop k) = 0) = V) ->
    ∃ fr', arun ((gT m).cg Y) cf31_0 fr s = .ok fr' s /\ Kp [5, 2, 3] fr fr' /\ fr'.get 31 = some (.bool (decide (k < xs.length))) /\ (s = st /\ decide (cmpTs (l1.drop k) (l2.drop k) = 0) = V) := by
   intro k fr s hk hkp gi ⟨hst, hq⟩
   subst hst
   have q2 := hkp.at (k := 2) (by decide) gR5_2
   have q3 := hkp.at (k := 3) (by decide) gR5_3
   refine ⟨?m0, ?m1, ?m2, ?m3, rfl, hq⟩
   case m1 =>
    simp only [amE, reduceEqDiff, ↓reduceIte, reduceCtorEq, reduceAdd, cf31_0, q2, q3, gi, faf, ld2f, hlen, lssD]
    rfl
   case m2 => repeat (first | exact Kp.refl | refine Kp.set (by decide) ?_)
   case m3 => simp only [Fr.get_set, reduceEqDiff, ↓reduceIte]
  have hB : ∀ k fr s, k < xs.length -> Kp [2, 3] fR5 fr -> fr.get 5 = some (.int .i64 (.ofNat k)) -> (s = st /\ decide (cmpTs (l1.drop k) (l2.drop k) = 0) = V) ->
    (∃ FR s', acode (gT m) Y m bf31_0 none fr s = .norm FR s' /\ Kp [5, 2, 3] fr FR /\ (s' = st /\ decide (cmpTs (l1.drop (k + 1)) (l2.drop (k + 1)) = 0) = V)) ∨
    (∃ FR s', acode (gT m) Y m bf31_0 none fr s = .ret FR s' /\ (s' = st /\ FR.ds = [] /\ FR.get 4 = some (.bool false) /\ V = false)) := by
   intro k fr s hk hkp gi ⟨hst, hq⟩
   subst hst
   have q2 := hkp.at (k := 2) (by decide) gR5_2
   have q3 := hkp.at (k := 3) (by decide) gR5_3
   obtain ⟨t, ht, hdr⟩ := drop_at (l := l1) (k := k) (by omega)
   obtain ⟨t', ht', hdr'⟩ := drop_at (l := l2) (k := k) (by omega)
   obtain ⟨x, hx, hrx⟩ := hrs.at ht
   obtain ⟨y, hy, hry⟩ := hrs'.at ht'
   obtain ⟨p, ia, ld⟩ := hsl.at hx
   obtain ⟨p', ia', ld'⟩ := hsl'.at hy
   have ld := ld s (Same.refl _ _)
   have ld' := ld' s (Same.refl _ _)
   have hfz := Tm.fzL_mem (List.mem_of_getElem? ht)
   have hcall : ((gT m).cg Y).fn 31 [.agg x, .agg y] s = .ret (.bool (decide (cmpT t t' = 0))) s := ih t.fz (by omega) t rfl t' m Y F s x y hrx hry (by omega)
   have hq1 : (decide (cmpT t t' = 0) && decide (cmpTs (l1.drop (k + 1)) (l2.drop (k + 1)) = 0)) = V := by
    rw [<- hq, cmpTs_step hdr hdr']
    by_cases h : cmpT t t' = 0
    ·rw [if_pos h, decide_eq_true h, Bool.true_and]
    ·rw [if_neg h, decide_eq_false h, Bool.false_and]
   generalize decide (cmpT t t' = 0) = ok at *
   obtain ⟨fR6, hR6, kR6, oR6_45⟩ : ∃ fr', adraw ((gT m).cg Y) g31_0 [] fr s = .ok fr' s /\ Kp [5, 2, 3] fr fr' /\ fr'.get 45 = some (.bool (!ok)) := by
    refine ⟨?r60, ?r61, ?r62, ?r6o45⟩
    case r61 =>
     refine adraw_ok (its := ?r6i) ?r6x ?r6y ?r6z
     case r6x =>
      simp only [amE, reduceEqDiff, ↓reduceIte, reduceCtorEq, reduceAdd, drun_cons, drun_nil, DR.cons, oprD, nextId, preA, q2, q3, gi, g31_0, faf, ld2f, ia, ld, ia', ld', hcall, unN, Bool.not_true, Bool.not_false]
      rfl
     case r6y => rfl
     case r6z =>
      simp only [List.all_cons, List.all_nil, Bool.and_true, Bool.and_eq_true]
    case r62 => repeat (first | exact Kp.refl | refine Kp.set (by decide) ?_)
    case r6o45 => simp only [Fr.get_set, reduceEqDiff, ↓reduceIte]
   cases ok with
   | true =>
    refine .inl ⟨fR6, s, ?w6, kR6, rfl, hq1⟩
    case w6 => simp only [amE, reduceEqDiff, ↓reduceIte, reduceCtorEq, reduceAdd, bf31_0, hR6, oR6_45, Bool.not_true]
   | false =>
    obtain ⟨fR7, hR7, kR7, oR7_4⟩ : ∃ fr', arun ((gT m).cg Y) [⟨(some 4), .mv (.c (.bool false)), none⟩] fR6 s = .ok fr' s /\ Kp [] fR6 fr' /\ fr'.get 4 = some (.bool false) := ⟨_, by simp only [amE, reduceEqDiff, ↓reduceIte, reduceCtorEq, reduceAdd] <;> rfl, Kp.refl.s, gh⟩
    refine .inr ⟨fR7, s, ?w7, rfl, kR7.1.trans (kR6.1.trans (hkp.1.trans dR5)), oR7_4, hq1.symm⟩
    case w7 => simp only [amE, reduceEqDiff, ↓reduceIte, reduceCtorEq, reduceAdd, bf31_0, hR6, hR7, oR6_45, Bool.not_false]
  rcases floop (Γ := (gT m)) (Y := Y) (m := m) (N := xs.length) (c := 31) (i := 5) (j1 := 32) (j2 := 33) (b := 0) (b1 := 1) (ro := none) (C := cf31_0) (B := bf31_0) (L := [2, 3]) (fr0 := fR5) (by decide) (by decide) (by decide) hsl.2.1
   (Q := fun k _ s => s = st /\ decide (cmpTs (l1.drop k) (l2.drop k) = 0) = V) (Post := fun FR s' => s' = st /\ FR.ds = [] /\ FR.get 4 = some (.bool false) /\ V = false) (fun _ _ _ _ _ _ h => h) hC hB xs.length 0 fR5 st m (by omega) (by omega) Kp.refl oR5_5 ⟨rfl, hV⟩
   with ⟨FR, s2, h1, h2, h3, h4⟩ | ⟨FR, s2, h1, h3, h4, h5, h6⟩
  rotate_left
  ·have h3 := h3.symm
   subst h3
   rw [h6]
   refine fun_of (mf := kf31) (fr := FR) t31 rfl (.inl ?z3) h4 (by simp only [kf31, amE, h5])
   case z3 =>
    rw [<- hA1]
    simp only [amE, reduceEqDiff, ↓reduceIte, reduceCtorEq, reduceAdd, kf31, b00, hR2, hR3, oR3_26, hR5, h1]
  have h3 := h3.symm
  subst h3
  rw [hxl, List.drop_length, List.drop_of_length_le (by omega), cmpTs_nn, show decide ((0 : Int) = 0) = true from rfl] at h4
  rw [<- h4]
  have dF := h2.1.trans dR5
  obtain ⟨fR8, hR8, kR8, oR8_4⟩ : ∃ fr', arun ((gT m).cg Y) [⟨(some 4), .mv (.c (.bool true)), none⟩] FR st = .ok fr' st /\ Kp [] FR fr' /\ fr'.get 4 = some (.bool true) := ⟨_, by simp only [amE, reduceEqDiff, ↓reduceIte, reduceCtorEq, reduceAdd] <;> rfl, Kp.refl.s, gh⟩
  have dR8 := kR8.1.trans dF
  refine fun_of (mf := kf31) (fr := fR8) t31 rfl (.inl ?q8) dR8 (by simp only [kf31, amE, oR8_4])
  case q8 =>
   rw [<- hA1]
   simp only [amE, reduceEqDiff, ↓reduceIte, reduceCtorEq, reduceAdd, kf31, b00, hR2, hR3, oR3_26, hR5, h1, hR8]
theorem sameAll (l1 l2 : List Tm) (n : Nat) (Y : Yenv) (F : Nat -> Prop) (st : St) (sl sl' : AV) (xs ys : List (List AV)) (hsl : SlR F st sl xs) (hrs : RepTs F st l1 xs) (hsl' : SlR F st sl' ys) (hrs' : RepTs F st l2 ys) (hn : Tm.fzL l1 + l1.length + 1 < n) :
  R n Y 117 [sl, sl'] st = .ret (.bool (decide (cmpTs l1 l2 = 0))) st := by
 obtain ⟨m, rfl⟩ : ∃ m, n = m + 1 := ⟨n - 1, by omega⟩
 have b00 : Nat.beq 0 0 = true := rfl
 have hxl := hrs.len
 have hyl := hrs'.len
 have hlen := hsl.len st
 have hlen' := hsl'.len st
 have e3 : binB false .neq (.int .i64 (.ofNat xs.length)) (.int .i64 (.ofNat ys.length)) = some (.bool (Int.ofNat l1.length != Int.ofNat l2.length)) := by rw [hxl, hyl]; rfl
 have hll : (Int.ofNat l1.length != Int.ofNat l2.length) = false -> l1.length = l2.length := fun h => by rw [bne_eq_false_iff_eq] at h; simp only [Int.ofNat_eq_natCast] at h; omega
 have hll3 : (Int.ofNat l1.length != Int.ofNat l2.length) = true -> decide (cmpTs l1 l2 = 0) = false := fun h => decide_eq_false fun k => by rw [cmpTs_zero_len k] at h; simp at h
 generalize (Int.ofNat l1.length != Int.ofNat l2.length) = BB at *
 obtain ⟨fA9, hA9⟩ : ∃ fA, fA = frOf 0 [sl, sl'] Fr.nil := ⟨_, rfl⟩
 have gA9_0 : fA9.get 0 = some (sl) := by rw [hA9]; simp only [frOf, Fr.get_set, reduceAdd, reduceEqDiff, ↓reduceIte]
 have gA9_1 : fA9.get 1 = some (sl') := by rw [hA9]; simp only [frOf, Fr.get_set, reduceAdd, reduceEqDiff, ↓reduceIte]
 have dA9 : fA9.ds = [] := by rw [hA9]; rfl
 obtain ⟨fR10, hR10, kR10, oR10_4⟩ : ∃ fr', arun ((gT m).cg Y) [⟨(some 4), .mv (.c (.bool false)), none⟩] fA9 st = .ok fr' st /\ Kp [0, 1] fA9 fr' /\ fr'.get 4 = some (.bool false) := ⟨_, by simp only [amE, reduceEqDiff, ↓reduceIte, reduceCtorEq, reduceAdd] <;> rfl, Kp.refl.s, gh⟩
 have gR10_0 := kR10.g 0 gA9_0
 have gR10_1 := kR10.g 1 gA9_1
 have dR10 := kR10.1.trans dA9
 obtain ⟨fR11, hR11, kR11, oR11_10⟩ : ∃ fr', arun ((gT m).cg Y) g117_3 fR10 st = .ok fr' st /\ Kp [0, 1] fR10 fr' /\ fr'.get 10 = some (.bool BB) := ⟨_, by simp only [amE, reduceEqDiff, ↓reduceIte, reduceCtorEq, reduceAdd, gR10_0, gR10_1, g117_3, hlen, hlen', e3] <;> rfl, Kp.refl.s.s.s.s.s, gh⟩
 have gR11_0 := kR11.g 0 gR10_0
 have gR11_1 := kR11.g 1 gR10_1
 have dR11 := kR11.1.trans dR10
 cases BB with
 | true =>
  obtain ⟨fR12, hR12, kR12, oR12_4⟩ : ∃ fr', arun ((gT m).cg Y) [⟨(some 4), .mv (.c (.bool false)), none⟩] fR11 st = .ok fr' st /\ Kp [] fR11 fr' /\ fr'.get 4 = some (.bool false) := ⟨_, by simp only [amE, reduceEqDiff, ↓reduceIte, reduceCtorEq, reduceAdd] <;> rfl, Kp.refl.s, gh⟩
  have dR12 := kR12.1.trans dR11
  rw [hll3 rfl]
  refine fun_of (mf := kf117) (fr := fR12) t117 rfl (.inl ?q12) dR12 (by simp only [kf117, amE, oR12_4])
  case q12 =>
   rw [<- hA9]
   simp only [amE, reduceEqDiff, ↓reduceIte, reduceCtorEq, reduceAdd, kf117, b00, hR10, hR11, hR12, oR11_10]
 | false =>
  have hl := hll rfl
  generalize hV : decide (cmpTs l1 l2 = 0) = V at *
  obtain ⟨fR13, hR13, kR13, oR13_5⟩ : ∃ fr', arun ((gT m).cg Y) [⟨(some 5), .mv (.c (.int .i64 (.ofNat 0))), none⟩] fR11 st = .ok fr' st /\ Kp [0, 1] fR11 fr' /\ fr'.get 5 = some (.int .i64 (.ofNat 0)) := ⟨_, by simp only [amE, reduceEqDiff, ↓reduceIte, reduceCtorEq, reduceAdd] <;> rfl, Kp.refl.s, gh⟩
  have gR13_0 := kR13.g 0 gR11_0
  have gR13_1 := kR13.g 1 gR11_1
  have dR13 := kR13.1.trans dR11
  have hC : ∀ k fr s, k <= xs.length -> Kp [0, 1] fR13 fr -> fr.get 5 = some (.int .i64 (.ofNat k)) -> (s = st /\ decide (cmpTs (l1.drop k) (l2.drop k) = 0) = V) ->
    ∃ fr', arun ((gT m).cg Y) cf117_0 fr s = .ok fr' s /\ Kp [5, 0, 1] fr fr' /\ fr'.get 14 = some (.bool (decide (k < xs.length))) /\ (s = st /\ decide (cmpTs (l1.drop k) (l2.drop k) = 0) = V) := by
   intro k fr s hk hkp gi ⟨hst, hq⟩
   subst hst
   have q0 := hkp.at (k := 0) (by decide) gR13_0
   have q1 := hkp.at (k := 1) (by decide) gR13_1
   refine ⟨?m0, ?m1, ?m2, ?m3, rfl, hq⟩
   case m1 =>
    simp only [amE, reduceEqDiff, ↓reduceIte, reduceCtorEq, reduceAdd, cf117_0, q0, q1, gi, hlen, hlen, lssD]
    rfl
   case m2 => repeat (first | exact Kp.refl | refine Kp.set (by decide) ?_)
   case m3 => simp only [Fr.get_set, reduceEqDiff, ↓reduceIte]
  have hB : ∀ k fr s, k < xs.length -> Kp [0, 1] fR13 fr -> fr.get 5 = some (.int .i64 (.ofNat k)) -> (s = st /\ decide (cmpTs (l1.drop k) (l2.drop k) = 0) = V) ->
    (∃ FR s', acode (gT m) Y m bf117_0 none fr s = .norm FR s' /\ Kp [5, 0, 1] fr FR /\ (s' = st /\ decide (cmpTs (l1.drop (k + 1)) (l2.drop (k + 1)) = 0) = V)) ∨
    (∃ FR s', acode (gT m) Y m bf117_0 none fr s = .ret FR s' /\ (s' = st /\ FR.ds = [] /\ FR.get 4 = some (.bool false) /\ V = false)) := by
   intro k fr s hk hkp gi ⟨hst, hq⟩
   subst hst
   have q0 := hkp.at (k := 0) (by decide) gR13_0
   have q1 := hkp.at (k := 1) (by decide) gR13_1
   obtain ⟨t, ht, hdr⟩ := drop_at (l := l1) (k := k) (by omega)
   obtain ⟨t', ht', hdr'⟩ := drop_at (l := l2) (k := k) (by omega)
   obtain ⟨x, hx, hrx⟩ := hrs.at ht
   obtain ⟨y, hy, hry⟩ := hrs'.at ht'
   obtain ⟨p, ia, ld⟩ := hsl.at hx
   obtain ⟨p', ia', ld'⟩ := hsl'.at hy
   have ld := ld s (Same.refl _ _)
   have ld' := ld' s (Same.refl _ _)
   have hfz := Tm.fzL_mem (List.mem_of_getElem? ht)
   have hcall : ((gT m).cg Y).fn 31 [.agg x, .agg y] s = .ret (.bool (decide (cmpT t t' = 0))) s := rsameT t t' m Y F s x y hrx hry (by omega)
   have hq1 : (decide (cmpT t t' = 0) && decide (cmpTs (l1.drop (k + 1)) (l2.drop (k + 1)) = 0)) = V := by
    rw [<- hq, cmpTs_step hdr hdr']
    by_cases h : cmpT t t' = 0
    ·rw [if_pos h, decide_eq_true h, Bool.true_and]
    ·rw [if_neg h, decide_eq_false h, Bool.false_and]
   generalize decide (cmpT t t' = 0) = ok at *
   obtain ⟨fR14, hR14, kR14, oR14_26⟩ : ∃ fr', adraw ((gT m).cg Y) g117_0 [] fr s = .ok fr' s /\ Kp [5, 0, 1] fr fr' /\ fr'.get 26 = some (.bool (!ok)) := by
    refine ⟨?r140, ?r141, ?r142, ?r14o26⟩
    case r141 =>
     refine adraw_ok (its := ?r14i) ?r14x ?r14y ?r14z
     case r14x =>
      simp only [amE, reduceEqDiff, ↓reduceIte, reduceCtorEq, reduceAdd, drun_cons, drun_nil, DR.cons, oprD, nextId, preA, q0, q1, gi, g117_0, ia, ld, ia', ld', hcall, unN, Bool.not_true, Bool.not_false]
      rfl
     case r14y => rfl
     case r14z =>
      simp only [List.all_cons, List.all_nil, Bool.and_true, Bool.and_eq_true]
    case r142 => repeat (first | exact Kp.refl | refine Kp.set (by decide) ?_)
    case r14o26 => simp only [Fr.get_set, reduceEqDiff, ↓reduceIte]
   cases ok with
   | true =>
    refine .inl ⟨fR14, s, ?w14, kR14, rfl, hq1⟩
    case w14 => simp only [amE, reduceEqDiff, ↓reduceIte, reduceCtorEq, reduceAdd, bf117_0, hR14, oR14_26, Bool.not_true]
   | false =>
    obtain ⟨fR15, hR15, kR15, oR15_4⟩ : ∃ fr', arun ((gT m).cg Y) [⟨(some 4), .mv (.c (.bool false)), none⟩] fR14 s = .ok fr' s /\ Kp [] fR14 fr' /\ fr'.get 4 = some (.bool false) := ⟨_, by simp only [amE, reduceEqDiff, ↓reduceIte, reduceCtorEq, reduceAdd] <;> rfl, Kp.refl.s, gh⟩
    refine .inr ⟨fR15, s, ?w15, rfl, kR15.1.trans (kR14.1.trans (hkp.1.trans dR13)), oR15_4, hq1.symm⟩
    case w15 => simp only [amE, reduceEqDiff, ↓reduceIte, reduceCtorEq, reduceAdd, bf117_0, hR14, hR15, oR14_26, Bool.not_false]
  rcases floop (Γ := (gT m)) (Y := Y) (m := m) (N := xs.length) (c := 14) (i := 5) (j1 := 15) (j2 := 16) (b := 0) (b1 := 1) (ro := none) (C := cf117_0) (B := bf117_0) (L := [0, 1]) (fr0 := fR13) (by decide) (by decide) (by decide) hsl.2.1
   (Q := fun k _ s => s = st /\ decide (cmpTs (l1.drop k) (l2.drop k) = 0) = V) (Post := fun FR s' => s' = st /\ FR.ds = [] /\ FR.get 4 = some (.bool false) /\ V = false) (fun _ _ _ _ _ _ h => h) hC hB xs.length 0 fR13 st m (by omega) (by omega) Kp.refl oR13_5 ⟨rfl, hV⟩
   with ⟨FR, s2, h1, h2, h3, h4⟩ | ⟨FR, s2, h1, h3, h4, h5, h6⟩
  rotate_left
  ·have h3 := h3.symm
   subst h3
   rw [h6]
   refine fun_of (mf := kf117) (fr := FR) t117 rfl (.inl ?z3) h4 (by simp only [kf117, amE, h5])
   case z3 =>
    rw [<- hA9]
    simp only [amE, reduceEqDiff, ↓reduceIte, reduceCtorEq, reduceAdd, kf117, b00, hR10, hR11, oR11_10, hR13, h1]
  have h3 := h3.symm
  subst h3
  rw [hxl, List.drop_length, List.drop_of_length_le (by omega), cmpTs_nn, show decide ((0 : Int) = 0) = true from rfl] at h4
  rw [<- h4]
  have dF := h2.1.trans dR13
  obtain ⟨fR16, hR16, kR16, oR16_4⟩ : ∃ fr', arun ((gT m).cg Y) [⟨(some 4), .mv (.c (.bool true)), none⟩] FR st = .ok fr' st /\ Kp [] FR fr' /\ fr'.get 4 = some (.bool true) := ⟨_, by simp only [amE, reduceEqDiff, ↓reduceIte, reduceCtorEq, reduceAdd] <;> rfl, Kp.refl.s, gh⟩
  have dR16 := kR16.1.trans dF
  refine fun_of (mf := kf117) (fr := fR16) t117 rfl (.inl ?q16) dR16 (by simp only [kf117, amE, oR16_4])
  case q16 =>
   rw [<- hA9]
   simp only [amE, reduceEqDiff, ↓reduceIte, reduceCtorEq, reduceAdd, kf117, b00, hR10, hR11, oR11_10, hR13, h1, hR16]
theorem sameVals (l1 l2 : List Tm) (n : Nat) (Y : Yenv) (F : Nat -> Prop) (st : St) (sl sl' : AV) (xs ys : List (List AV)) (hsl : SlR F st sl xs) (hrs : RepTs F st l1 xs) (hsl' : SlR F st sl' ys) (hrs' : RepTs F st l2 ys) (hn : Tm.fzL l1 + l1.length + 2 < n) :
  R n Y 81 [sl, sl'] st = .ret (.bool (decide (cmpTs l1 l2 = 0))) st := by
 obtain ⟨m, rfl⟩ : ∃ m, n = m + 1 := ⟨n - 1, by omega⟩
 have b00 : Nat.beq 0 0 = true := rfl
 have hcall : ((gT m).cg Y).fn 117 [sl, sl'] st = .ret (.bool (decide (cmpTs l1 l2 = 0))) st := sameAll l1 l2 m Y F st sl sl' xs ys hsl hrs hsl' hrs' (by omega)
 generalize decide (cmpTs l1 l2 = 0) = V at *
 obtain ⟨fA17, hA17⟩ : ∃ fA, fA = frOf 0 [sl, sl'] Fr.nil := ⟨_, rfl⟩
 have gA17_0 : fA17.get 0 = some (sl) := by rw [hA17]; simp only [frOf, Fr.get_set, reduceAdd, reduceEqDiff, ↓reduceIte]
 have gA17_1 : fA17.get 1 = some (sl') := by rw [hA17]; simp only [frOf, Fr.get_set, reduceAdd, reduceEqDiff, ↓reduceIte]
 have dA17 : fA17.ds = [] := by rw [hA17]; rfl
 obtain ⟨fR18, hR18, kR18⟩ : ∃ fr', arun ((gT m).cg Y) [⟨(some 4), .mv (.c (.bool false)), none⟩] fA17 st = .ok fr' st /\ Kp [0, 1] fA17 fr' := ⟨_, by simp only [amE, reduceEqDiff, ↓reduceIte, reduceCtorEq, reduceAdd] <;> rfl, Kp.refl.s⟩
 have gR18_0 := kR18.g 0 gA17_0
 have gR18_1 := kR18.g 1 gA17_1
 have dR18 := kR18.1.trans dA17
 obtain ⟨fR19, hR19, kR19, oR19_4⟩ : ∃ fr', arun ((gT m).cg Y) g81_1 fR18 st = .ok fr' st /\ Kp [] fR18 fr' /\ fr'.get 4 = some (.bool V) := ⟨_, by simp only [amE, reduceEqDiff, ↓reduceIte, reduceCtorEq, reduceAdd, gR18_0, gR18_1, g81_1, hcall] <;> rfl, Kp.refl.s.s.s.s, gh⟩
 have dR19 := kR19.1.trans dR18
 refine fun_of (mf := kf81) (fr := fR19) t81 rfl (.inl ?q19) dR19 (by simp only [kf81, amE, oR19_4])
 case q19 =>
  rw [<- hA17]
  simp only [amE, reduceEqDiff, ↓reduceIte, reduceCtorEq, reduceAdd, kf81, b00, hR18, hR19]
theorem rSameD (a b : Dv) (n : Nat) (Y : Yenv) (F : Nat -> Prop) (st : St) (ca cb : List AV) (ha : RepD F st a ca) (hb : RepD F st b cb) (hn : a.fz + 2 < n) :
  R n Y 17 [.agg ca, .agg cb] st = .ret (.bool (cmpD a b == 0)) st := by
 obtain ⟨m, rfl⟩ : ∃ m, n = m + 1 := ⟨n - 1, by omega⟩
 have b00 : Nat.beq 0 0 = true := rfl
 have h3 := ha.cells3
 have h3' := hb.cells3
 have hcall : ((gT m).cg Y).fn 18 [.agg ca, .agg cb] st = .ret (.int .i64 (cmpD a b)) st := rcmpD a b m Y F st ca cb ha hb (by omega)
 have ez := eqz (cmpD a b)
 obtain ⟨a1, a2, a3, rfl⟩ : ∃ a1 a2 a3, ca = [a1, a2, a3] := by
  match ca, h3.1 with
  | [x, y, z], _ => exact ⟨x, y, z, rfl⟩
 obtain ⟨b1, b2, b3, rfl⟩ : ∃ a1 a2 a3, cb = [a1, a2, a3] := by
  match cb, h3'.1 with
  | [x, y, z], _ => exact ⟨x, y, z, rfl⟩
 obtain ⟨fA20, hA20⟩ : ∃ fA, fA = frOf 0 [.agg [a1, a2, a3], .agg [b1, b2, b3]] Fr.nil := ⟨_, rfl⟩
 have gA20_0 : fA20.get 0 = some (.agg [a1, a2, a3]) := by rw [hA20]; simp only [frOf, Fr.get_set, reduceAdd, reduceEqDiff, ↓reduceIte]
 have gA20_1 : fA20.get 1 = some (.agg [b1, b2, b3]) := by rw [hA20]; simp only [frOf, Fr.get_set, reduceAdd, reduceEqDiff, ↓reduceIte]
 have dA20 : fA20.ds = [] := by rw [hA20]; rfl
 obtain ⟨fR21, hR21, kR21, oR21_2, oR21_3⟩ : ∃ fr', arun ((gT m).cg Y) [⟨(some 2), .box true (.t 0), none⟩, ⟨(some 3), .box true (.t 1), none⟩, ⟨(some 4), .mv (.c (.bool false)), none⟩] fA20 st = .ok fr' st /\ Kp [] fA20 fr' /\ fr'.get 2 = some (.fptr [a1, a2, a3] 0) /\ fr'.get 3 = some (.fptr [b1, b2, b3] 0) := ⟨_, by simp only [amE, reduceEqDiff, ↓reduceIte, reduceCtorEq, reduceAdd, gA20_0, gA20_1] <;> rfl, Kp.refl.s.s.s, gn (gn gh), gn gh⟩
 have dR21 := kR21.1.trans dA20
 obtain ⟨fR22, hR22, kR22, oR22_4⟩ : ∃ fr', arun ((gT m).cg Y) g17_1 fR21 st = .ok fr' st /\ Kp [] fR21 fr' /\ fr'.get 4 = some (.bool (cmpD a b == 0)) := ⟨_, by simp only [amE, reduceEqDiff, ↓reduceIte, reduceCtorEq, reduceAdd, oR21_2, oR21_3, g17_1, ld3f, hcall, ez] <;> rfl, Kp.refl.s.s.s.s.s, gh⟩
 have dR22 := kR22.1.trans dR21
 refine fun_of (mf := kf17) (fr := fR22) t17 rfl (.inl ?q22) dR22 (by simp only [kf17, amE, oR22_4])
 case q22 =>
  rw [<- hA20]
  simp only [amE, reduceEqDiff, ↓reduceIte, reduceCtorEq, reduceAdd, kf17, b00, hR21, hR22]
theorem rIsD_run (d : Dv) (n : Nat) (Y : Yenv) (F : Nat -> Prop) (st : St) (cs : List AV) (hr : RepD F st d cs) (hF : ∀ i, F i -> i < st.next) (hn : d.fz + 4101 <= n) :
  ∃ st', R n Y 49 [.agg cs] st = .ret (.bool (isDv d)) st' /\ Keeps st st' := by
 obtain ⟨m, rfl⟩ : ∃ m, n = m + 1 := ⟨n - 1, by omega⟩
 have b00 : Nat.beq 0 0 = true := rfl
 have h3 := hr.cells3
 have c1 : ((gT m).cg Y).fn 47 [.agg cs, .int .i64 (.ofNat 4000), .int .i64 (.ofNat 1)] st = .ret (.tuple [.int .i64 (rcD d 4000 1).1, .bool (rcD d 4000 1).2]) st := counted47 d m Y F st (.ofNat 4000) (.ofNat 1) cs hr (by omega)
 obtain ⟨s1, c2, hk⟩ := right_run d m Y F st cs hr hF (by omega)
 have c2 : ((gT m).cg Y).fn 76 [.agg cs] st = .ret (.bool (d.good gr)) s1 := c2
 obtain ⟨a1, a2, a3, rfl⟩ : ∃ a1 a2 a3, cs = [a1, a2, a3] := by
  match cs, h3.1 with
  | [x, y, z], _ => exact ⟨x, y, z, rfl⟩
 rw [<- rIsD_eq]
 unfold rIsD
 generalize (rcD d 4000 1).1 = L at *
 generalize (rcD d 4000 1).2 = ok at *
 generalize d.good gr = V at *
 obtain ⟨fA23, hA23⟩ : ∃ fA, fA = frOf 0 [.agg [a1, a2, a3]] Fr.nil := ⟨_, rfl⟩
 have gA23_0 : fA23.get 0 = some (.agg [a1, a2, a3]) := by rw [hA23]; simp only [frOf, Fr.get_set, reduceAdd, reduceEqDiff, ↓reduceIte]
 have dA23 : fA23.ds = [] := by rw [hA23]; rfl
 obtain ⟨fR24, hR24, kR24, oR24_1⟩ : ∃ fr', arun ((gT m).cg Y) [⟨(some 1), .box true (.t 0), none⟩, ⟨(some 2), .mv (.c (.bool false)), none⟩] fA23 st = .ok fr' st /\ Kp [] fA23 fr' /\ fr'.get 1 = some (.fptr [a1, a2, a3] 0) := ⟨_, by simp only [amE, reduceEqDiff, ↓reduceIte, reduceCtorEq, reduceAdd, gA23_0] <;> rfl, Kp.refl.s.s, gn gh⟩
 have dR24 := kR24.1.trans dA23
 obtain ⟨fR25, hR25, kR25, oR25_4⟩ : ∃ fr', arun ((gT m).cg Y) g49_1 fR24 st = .ok fr' st /\ Kp [1] fR24 fr' /\ fr'.get 4 = some (.bool ok) := ⟨_, by simp only [amE, reduceEqDiff, ↓reduceIte, reduceCtorEq, reduceAdd, oR24_1, g49_1, ld3f, c1, ex20, ex21] <;> rfl, Kp.refl.s.s.s.s.s.s.s, gh⟩
 have gR25_1 := kR25.g 1 oR24_1
 have dR25 := kR25.1.trans dR24
 cases ok with
 | true =>
  rw [Bool.true_and]
  obtain ⟨fR26, hR26, kR26, oR26_2⟩ : ∃ fr', arun ((gT m).cg Y) g49_2 fR25 st = .ok fr' s1 /\ Kp [] fR25 fr' /\ fr'.get 2 = some (.bool V) := ⟨_, by simp only [amE, reduceEqDiff, ↓reduceIte, reduceCtorEq, reduceAdd, gR25_1, oR25_4, g49_2, ld3f, c2, Bool.not_true, Bool.not_false] <;> rfl, Kp.refl.s.s.s.s.s.s, gh⟩
  have dR26 := kR26.1.trans dR25
  refine ⟨s1, fun_of (mf := kf49) (fr := fR26) t49 rfl (.inl ?q26) dR26 (by simp only [kf49, amE, oR26_2]), hk⟩
  case q26 =>
   rw [<- hA23]
   simp only [amE, reduceEqDiff, ↓reduceIte, reduceCtorEq, reduceAdd, kf49, b00, hR24, hR25, hR26]
 | false =>
  rw [Bool.false_and]
  obtain ⟨fR27, hR27, kR27, oR27_2⟩ : ∃ fr', arun ((gT m).cg Y) g49_2 fR25 st = .ok fr' st /\ Kp [] fR25 fr' /\ fr'.get 2 = some (.bool false) := ⟨_, by simp only [amE, reduceEqDiff, ↓reduceIte, reduceCtorEq, reduceAdd, gR25_1, oR25_4, g49_2, ld3f, c2, Bool.not_true, Bool.not_false] <;> rfl, Kp.refl.s.s.s.s.s.s, gh⟩
  have dR27 := kR27.1.trans dR25
  refine ⟨st, fun_of (mf := kf49) (fr := fR27) t49 rfl (.inl ?q27) dR27 (by simp only [kf49, amE, oR27_2]), Keeps.refl _⟩
  case q27 =>
   rw [<- hA23]
   simp only [amE, reduceEqDiff, ↓reduceIte, reduceCtorEq, reduceAdd, kf49, b00, hR24, hR25, hR27]
end
end Go.AM.D16
