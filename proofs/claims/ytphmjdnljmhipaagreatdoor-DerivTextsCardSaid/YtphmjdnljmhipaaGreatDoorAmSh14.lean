import Derived.Test.YtphmjdnljmhipaaGreatDoorAmSh13
set_option linter.unusedSimpArgs false
set_option linter.unusedVariables false
set_option maxRecDepth 100000
namespace Go.AM.D16
open Go Go.AM
noncomputable section
open Nat (reduceEqDiff reduceAdd)
theorem lexz (c d : Int) : lex2 c d = if (c == 0) = true then d else c := by unfold lex2; simp only [beq_iff_eq]
theorem eqz (c : Int) : binB false .eql (.int .i64 c) (.int .i64 (.ofNat 0)) = some (.bool (c == 0)) := rfl
def g53_0 : List (MOper × Nat) := [(⟨(some 39), .faddr 2 (.t 2), none⟩, 0), (⟨(some 40), .load false 1 (.t 39), none⟩, 1), (⟨(some 41), .mv (.t 6), none⟩, 0), (⟨(some 42), .iaddr 3 (.t 40) (.t 41), none⟩, 7), (⟨(some 43), .load true 3 (.t 42), none⟩, 15), (⟨(some 44), .faddr 2 (.t 3), none⟩, 0), (⟨(some 45), .load false 1 (.t 44), none⟩, 32), (⟨(some 46), .mv (.t 6), none⟩, 0), (⟨(some 47), .iaddr 3 (.t 45) (.t 46), none⟩, 224), (⟨(some 48), .load true 3 (.t 47), none⟩, 480), (⟨(some 49), .call (.c (.func (.func 53) [] [])) [(.t 43), (.t 48)], none⟩, 1023), (⟨(some 5), .mv (.t 49), none⟩, 2047)]
def g53_2 : List MOper := [⟨(some 7), .faddr 0 (.t 2), none⟩, ⟨(some 8), .load false 1 (.t 7), none⟩, ⟨(some 9), .faddr 0 (.t 3), none⟩, ⟨(some 10), .load false 1 (.t 9), none⟩, ⟨(some 11), .call (.c (.func (.func 82) [] [])) [(.t 8), (.t 10)], none⟩, ⟨(some 5), .mv (.t 11), none⟩]
def g53_4 : List MOper := [⟨(some 14), .faddr 1 (.t 2), none⟩, ⟨(some 15), .load false 1 (.t 14), none⟩, ⟨(some 16), .faddr 1 (.t 3), none⟩, ⟨(some 17), .load false 1 (.t 16), none⟩, ⟨(some 18), .call (.c (.func (.func 82) [] [])) [(.t 15), (.t 17)], none⟩, ⟨(some 5), .mv (.t 18), none⟩]
def g53_6 : List MOper := [⟨(some 21), .faddr 2 (.t 2), none⟩, ⟨(some 22), .load false 1 (.t 21), none⟩, ⟨(some 23), .len 0 (.t 22), none⟩, ⟨(some 24), .faddr 2 (.t 3), none⟩, ⟨(some 25), .load false 1 (.t 24), none⟩, ⟨(some 26), .len 0 (.t 25), none⟩, ⟨(some 27), .call (.c (.func (.func 82) [] [])) [(.t 23), (.t 26)], none⟩, ⟨(some 5), .mv (.t 27), none⟩]
def bf53_0 : MCode := (.draw g53_0 [])
def cf53_0 : List MOper := [⟨(some 28), .mv (.t 6), none⟩, ⟨(some 29), .faddr 2 (.t 2), none⟩, ⟨(some 30), .load false 1 (.t 29), none⟩, ⟨(some 31), .len 0 (.t 30), none⟩, ⟨(some 32), .bin false .lss (.t 28) (.t 31), none⟩, ⟨(some 33), .mv (.t 32), none⟩, ⟨(some 34), .mv (.t 5), (some (33, true))⟩, ⟨(some 35), .bin false .eql (.t 34) (.c (.int .i64 (.ofNat 0))), (some (33, true))⟩, ⟨(some 36), .pick (.t 33) (.t 35) (.c (.bool false)), none⟩]
def sf53_0 : MCode := (.seq (.region [⟨(some 12), .mv (.t 5), none⟩, ⟨(some 13), .bin false .eql (.t 12) (.c (.int .i64 (.ofNat 0))), none⟩]) (.cond (.t 13) (.region g53_4) .skip))
def sf53_1 : MCode := (.seq (.region [⟨(some 19), .mv (.t 5), none⟩, ⟨(some 20), .bin false .eql (.t 19) (.c (.int .i64 (.ofNat 0))), none⟩]) (.cond (.t 20) (.region g53_6) .skip))
def kf53 : MFunc := ⟨51, (.seq (.region [⟨(some 2), .box true (.t 0), none⟩, ⟨(some 3), .box true (.t 1), none⟩, ⟨(some 4), .mv (.c (.int .i64 (.ofNat 0))), none⟩])
 (.seq (.region g53_2)
 (.seq sf53_0
 (.seq sf53_1
 (.seq (.seq (.region [⟨(some 6), .mv (.c (.int .i64 (.ofNat 0))), none⟩])
 (.block 0 (.loop (lb2 36 6 37 38 0 1 cf53_0 bf53_0))))
 (.seq (.region [⟨(some 50), .mv (.t 5), none⟩, ⟨(some 4), .mv (.t 50), none⟩])
 .ret)))))), [.t 4]⟩
theorem t53 : tbl 53 = some kf53 := by kernel_rfl
theorem rcmpT (a : Tm) : ∀ (b : Tm) (n : Nat) (Y : Yenv) (F : Nat -> Prop) (st : St) (ca cb : List AV), RepT F st a ca -> RepT F st b cb -> a.fz < n ->
  R n Y 53 [.agg ca, .agg cb] st = .ret (.int .i64 (cmpT a b)) st := by
 induction hs : a.fz using Nat.strongRecOn generalizing a with
 | _ s ih =>
 intro b n Y F st ca cb ha hb hn
 cases a with
 | mk k1 n1 nl1 ex1 l1 =>
 cases b with
 | mk k2 n2 nl2 ex2 l2 =>
 simp only [RepT] at ha hb
 obtain ⟨sl, xs, rfl, hsl, hrs⟩ := ha
 obtain ⟨sl', ys, rfl, hsl', hrs'⟩ := hb
 simp only [Tm.fz] at hs
 obtain ⟨m, rfl⟩ : ∃ m, n = m + 1 := ⟨n - 1, by omega⟩
 have b00 : Nat.beq 0 0 = true := rfl
 have hxl := hrs.len
 have hyl := hrs'.len
 have hlen := hsl.len st
 have hlen' := hsl'.len st
 have c82 : ∀ x y : Int, ((gT m).cg Y).fn 82 [.int .i64 x, .int .i64 y] st = .ret (.int .i64 (cmpI x y)) st := fun x y => by
  obtain ⟨m', rfl⟩ : ∃ m', m = m' + 1 := ⟨m - 1, by omega⟩
  exact order_at (.inr rfl) m' Y x y st
 have hL : cmpI (.ofNat xs.length) (.ofNat ys.length) = 0 -> l1.length = l2.length := fun h => by have := cmpI_zero h; simp only [Int.ofNat_eq_natCast] at this; omega
 have hT : lex2 (lex2 (lex2 (cmpI k1 k2) (cmpI n1 n2)) (cmpI (.ofNat xs.length) (.ofNat ys.length))) (cmpTs l1 l2) = cmpT (.mk k1 n1 nl1 ex1 l1) (.mk k2 n2 nl2 ex2 l2) := by
  rw [cmpT_eq, hxl, hyl]
  simp only [lex2_assoc]
 generalize cmpT (.mk k1 n1 nl1 ex1 l1) (.mk k2 n2 nl2 ex2 l2) = T at *
 have hL2 : lex2 (lex2 (cmpI k1 k2) (cmpI n1 n2)) (cmpI (.ofNat xs.length) (.ofNat ys.length)) = 0 -> l1.length = l2.length := fun h => by
  refine hL ?_
  rw [lexz] at h
  split at h
  ·exact h
  ·rename_i h'; exact absurd (by simpa using h) h'
 obtain ⟨fA1, hA1⟩ : ∃ fA, fA = frOf 0 [.agg [.int .i64 k1, .int .i64 n1, sl], .agg [.int .i64 k2, .int .i64 n2, sl']] Fr.nil := ⟨_, rfl⟩
 have gA1_0 : fA1.get 0 = some (.agg [.int .i64 k1, .int .i64 n1, sl]) := by rw [hA1]; simp only [frOf, Fr.get_set, reduceAdd, reduceEqDiff, ↓reduceIte]
 have gA1_1 : fA1.get 1 = some (.agg [.int .i64 k2, .int .i64 n2, sl']) := by rw [hA1]; simp only [frOf, Fr.get_set, reduceAdd, reduceEqDiff, ↓reduceIte]
 have dA1 : fA1.ds = [] := by rw [hA1]; rfl
 obtain ⟨fR2, hR2, kR2, oR2_2, oR2_3⟩ : ∃ fr', arun ((gT m).cg Y) [⟨(some 2), .box true (.t 0), none⟩, ⟨(some 3), .box true (.t 1), none⟩, ⟨(some 4), .mv (.c (.int .i64 (.ofNat 0))), none⟩] fA1 st = .ok fr' st /\ Kp [] fA1 fr' /\ fr'.get 2 = some (.fptr [.int .i64 k1, .int .i64 n1, sl] 0) /\ fr'.get 3 = some (.fptr [.int .i64 k2, .int .i64 n2, sl'] 0) := ⟨_, by simp only [amE, reduceEqDiff, ↓reduceIte, reduceCtorEq, reduceAdd, gA1_0, gA1_1] <;> rfl, Kp.refl.s.s.s, gn (gn gh), gn gh⟩
 have dR2 := kR2.1.trans dA1
 obtain ⟨fR3, hR3, kR3, oR3_5⟩ : ∃ fr', arun ((gT m).cg Y) g53_2 fR2 st = .ok fr' st /\ Kp [2, 3] fR2 fr' /\ fr'.get 5 = some (.int .i64 (cmpI k1 k2)) := ⟨_, by simp only [amE, reduceEqDiff, ↓reduceIte, reduceCtorEq, reduceAdd, oR2_2, oR2_3, g53_2, faf, ld0f, c82] <;> rfl, Kp.refl.s.s.s.s.s.s, gh⟩
 have gR3_2 := kR3.g 2 oR2_2
 have gR3_3 := kR3.g 3 oR2_3
 have dR3 := kR3.1.trans dR2
 obtain ⟨fZ4, hZ4, kZ4, oZ4⟩ : ∃ fr', acode (gT m) Y m sf53_0 none fR3 st = .norm fr' st /\ Kp [2, 3] fR3 fr' /\ fr'.get 5 = some (.int .i64 (lex2 (cmpI k1 k2) (cmpI n1 n2))) := by
  have lz := lexz (cmpI k1 k2) (cmpI n1 n2)
  have ez := eqz (cmpI k1 k2)
  rw [lz]
  generalize ((cmpI k1 k2) == 0) = B at *
  obtain ⟨fR5, hR5, kR5, oR5_13⟩ : ∃ fr', arun ((gT m).cg Y) [⟨(some 12), .mv (.t 5), none⟩, ⟨(some 13), .bin false .eql (.t 12) (.c (.int .i64 (.ofNat 0))), none⟩] fR3 st = .ok fr' st /\ Kp [2, 3, 5] fR3 fr' /\ fr'.get 13 = some (.bool B) := ⟨_, by simp only [amE, reduceEqDiff, ↓reduceIte, reduceCtorEq, reduceAdd, oR3_5, ez] <;> rfl, Kp.refl.s.s, gh⟩
  have gR5_2 := kR5.g 2 gR3_2
  have gR5_3 := kR5.g 3 gR3_3
  have gR5_5 := kR5.g 5 oR3_5
  cases B with
  | true =>
   obtain ⟨fR6, hR6, kR6, oR6_5⟩ : ∃ fr', arun ((gT m).cg Y) g53_4 fR5 st = .ok fr' st /\ Kp [2, 3] fR5 fr' /\ fr'.get 5 = some (.int .i64 (cmpI n1 n2)) := ⟨_, by simp only [amE, reduceEqDiff, ↓reduceIte, reduceCtorEq, reduceAdd, gR5_2, gR5_3, g53_4, faf, ld1f, c82] <;> rfl, Kp.refl.s.s.s.s.s.s, gh⟩
   exact ⟨fR6, by simp only [amE, reduceEqDiff, ↓reduceIte, reduceCtorEq, reduceAdd, sf53_0, hR5, hR6, oR5_13], (kR5.sub (by decide)).trans kR6, by rw [if_pos rfl]; exact oR6_5⟩
  | false =>
   exact ⟨fR5, by simp only [amE, reduceEqDiff, ↓reduceIte, reduceCtorEq, reduceAdd, sf53_0, hR5, oR5_13], kR5.sub (by decide), by rw [if_neg (by decide)]; exact gR5_5⟩
 have gZ4_2 := kZ4.at (k := 2) (by decide) gR3_2
 have gZ4_3 := kZ4.at (k := 3) (by decide) gR3_3
 have dZ4 := kZ4.1.trans dR3
 obtain ⟨fZ7, hZ7, kZ7, oZ7⟩ : ∃ fr', acode (gT m) Y m sf53_1 none fZ4 st = .norm fr' st /\ Kp [2, 3] fZ4 fr' /\ fr'.get 5 = some (.int .i64 (lex2 (lex2 (cmpI k1 k2) (cmpI n1 n2)) (cmpI (.ofNat xs.length) (.ofNat ys.length)))) := by
  have lz := lexz (lex2 (cmpI k1 k2) (cmpI n1 n2)) (cmpI (.ofNat xs.length) (.ofNat ys.length))
  have ez := eqz (lex2 (cmpI k1 k2) (cmpI n1 n2))
  rw [lz]
  generalize ((lex2 (cmpI k1 k2) (cmpI n1 n2)) == 0) = B at *
  obtain ⟨fR8, hR8, kR8, oR8_20⟩ : ∃ fr', arun ((gT m).cg Y) [⟨(some 19), .mv (.t 5), none⟩, ⟨(some 20), .bin false .eql (.t 19) (.c (.int .i64 (.ofNat 0))), none⟩] fZ4 st = .ok fr' st /\ Kp [2, 3, 5] fZ4 fr' /\ fr'.get 20 = some (.bool B) := ⟨_, by simp only [amE, reduceEqDiff, ↓reduceIte, reduceCtorEq, reduceAdd, oZ4, ez] <;> rfl, Kp.refl.s.s, gh⟩
  have gR8_2 := kR8.g 2 gZ4_2
  have gR8_3 := kR8.g 3 gZ4_3
  have gR8_5 := kR8.g 5 oZ4
  cases B with
  | true =>
   obtain ⟨fR9, hR9, kR9, oR9_5⟩ : ∃ fr', arun ((gT m).cg Y) g53_6 fR8 st = .ok fr' st /\ Kp [2, 3] fR8 fr' /\ fr'.get 5 = some (.int .i64 (cmpI (.ofNat xs.length) (.ofNat ys.length))) := ⟨_, by simp only [amE, reduceEqDiff, ↓reduceIte, reduceCtorEq, reduceAdd, gR8_2, gR8_3, g53_6, faf, ld2f, hlen, hlen', c82] <;> rfl, Kp.refl.s.s.s.s.s.s.s.s, gh⟩
   exact ⟨fR9, by simp only [amE, reduceEqDiff, ↓reduceIte, reduceCtorEq, reduceAdd, sf53_1, hR8, hR9, oR8_20], (kR8.sub (by decide)).trans kR9, by rw [if_pos rfl]; exact oR9_5⟩
  | false =>
   exact ⟨fR8, by simp only [amE, reduceEqDiff, ↓reduceIte, reduceCtorEq, reduceAdd, sf53_1, hR8, oR8_20], kR8.sub (by decide), by rw [if_neg (by decide)]; exact gR8_5⟩
 have gZ7_2 := kZ7.at (k := 2) (by decide) gZ4_2
 have gZ7_3 := kZ7.at (k := 3) (by decide) gZ4_3
 have dZ7 := kZ7.1.trans dZ4
 obtain ⟨fR10, hR10, kR10, oR10_6⟩ : ∃ fr', arun ((gT m).cg Y) [⟨(some 6), .mv (.c (.int .i64 (.ofNat 0))), none⟩] fZ7 st = .ok fr' st /\ Kp [2, 3, 5] fZ7 fr' /\ fr'.get 6 = some (.int .i64 (.ofNat 0)) := ⟨_, by simp only [amE, reduceEqDiff, ↓reduceIte, reduceCtorEq, reduceAdd] <;> rfl, Kp.refl.s, gh⟩
 have gR10_2 := kR10.g 2 gZ7_2
 have gR10_3 := kR10.g 3 gZ7_3
 have gR10_5 := kR10.g 5 oZ7
 have dR10 := kR10.1.trans dZ7
 generalize lex2 (lex2 (cmpI k1 k2) (cmpI n1 n2)) (cmpI (.ofNat xs.length) (.ofNat ys.length)) = c0 at *
 have hC : ∀ k fr s, k <= xs.length -> Kp [2, 3] fR10 fr -> fr.get 6 = some (.int .i64 (.ofNat k)) -> (s = st /\ ∃ c, fr.get 5 = some (.int .i64 c) /\ lex2 c (cmpTs (l1.drop k) (l2.drop k)) = T /\ (c = 0 -> l1.length = l2.length)) ->
   ∃ fr' x, arun ((gT m).cg Y) cf53_0 fr s = .ok fr' s /\ Kp [6, 2, 3] fr fr' /\ fr'.get 36 = some (.bool x) /\ (x = true -> k < xs.length /\ (s = st /\ cmpTs (l1.drop k) (l2.drop k) = T /\ l1.length = l2.length)) /\ (x = false -> (s = st /\ fr'.get 5 = some (.int .i64 T))) := by
  intro k fr s hk hkp gi ⟨hst, c, q5, hq, hl⟩
  subst hst
  have q2 := hkp.at (k := 2) (by decide) gR10_2
  have ez := eqz c
  have ls := lssD k xs.length
  by_cases c1 : k < xs.length
  ·rw [decide_eq_true c1] at ls
   by_cases c2 : c = 0
   ·subst c2
    refine ⟨?ha1, true, ?ha2, ?ha3, ?ha4, fun _ => ⟨c1, rfl, ?ha5, hl rfl⟩, fun h => by cases h⟩
    case ha2 =>
     simp only [amE, reduceEqDiff, ↓reduceIte, reduceCtorEq, reduceAdd, cf53_0, gi, q2, q5, faf, ld2f, hlen, ls, ez]
     rfl
    case ha3 => repeat (first | exact Kp.refl | refine Kp.set (by decide) ?_)
    case ha4 => simp only [Fr.get_set, reduceEqDiff, ↓reduceIte]; rfl
    case ha5 => rw [<- hq]; unfold lex2; rw [if_pos rfl]
   ·have hb : (c == 0) = false := by simpa using c2
    rw [hb] at ez
    refine ⟨?hb1, false, ?hb2, ?hb3, ?hb4, (fun h => by cases h), fun _ => ⟨rfl, ?hb5⟩⟩
    case hb2 =>
     simp only [amE, reduceEqDiff, ↓reduceIte, reduceCtorEq, reduceAdd, cf53_0, gi, q2, q5, faf, ld2f, hlen, ls, ez]
     rfl
    case hb3 => repeat (first | exact Kp.refl | refine Kp.set (by decide) ?_)
    case hb4 => simp only [Fr.get_set, reduceEqDiff, ↓reduceIte]
    case hb5 => simp only [Fr.get_set, reduceEqDiff, ↓reduceIte, q5]; rw [<- hq]; unfold lex2; rw [if_neg c2]
  ·rw [decide_eq_false c1] at ls
   refine ⟨?hc1, false, ?hc2, ?hc3, ?hc4, (fun h => by cases h), fun _ => ⟨rfl, ?hc5⟩⟩
   case hc2 =>
    simp only [amE, reduceEqDiff, ↓reduceIte, reduceCtorEq, reduceAdd, cf53_0, gi, q2, q5, faf, ld2f, hlen, ls]
    rfl
   case hc3 => repeat (first | exact Kp.refl | refine Kp.set (by decide) ?_)
   case hc4 => simp only [Fr.get_set, reduceEqDiff, ↓reduceIte]
   case hc5 =>
    simp only [Fr.get_set, reduceEqDiff, ↓reduceIte, q5]
    rw [<- hq]
    unfold lex2
    by_cases c2 : c = 0
    ·rw [if_pos c2, List.drop_of_length_le (by omega), List.drop_of_length_le (by have := hl c2; omega), cmpTs_nn, c2]
    ·rw [if_neg c2]
 have hB : ∀ k fr s, k < xs.length -> Kp [2, 3] fR10 fr -> fr.get 6 = some (.int .i64 (.ofNat k)) -> (s = st /\ cmpTs (l1.drop k) (l2.drop k) = T /\ l1.length = l2.length) ->
   ∃ FR s', acode (gT m) Y m bf53_0 none fr s = .norm FR s' /\ Kp [6, 2, 3] fr FR /\ (s' = st /\ ∃ c, FR.get 5 = some (.int .i64 c) /\ lex2 c (cmpTs (l1.drop (k + 1)) (l2.drop (k + 1))) = T /\ (c = 0 -> l1.length = l2.length)) := by
  intro k fr s hk hkp gi ⟨hst, hq, hl⟩
  subst hst
  have q2 := hkp.at (k := 2) (by decide) gR10_2
  have q3 := hkp.at (k := 3) (by decide) gR10_3
  obtain ⟨t, ht, hdr⟩ := drop_at (l := l1) (k := k) (by omega)
  obtain ⟨t', ht', hdr'⟩ := drop_at (l := l2) (k := k) (by omega)
  obtain ⟨x, hx, hrx⟩ := hrs.at ht
  obtain ⟨y, hy, hry⟩ := hrs'.at ht'
  obtain ⟨p, ia, ld⟩ := hsl.at hx
  obtain ⟨p', ia', ld'⟩ := hsl'.at hy
  have ld := ld s (Same.refl _ _)
  have ld' := ld' s (Same.refl _ _)
  have hfz := Tm.fzL_mem (List.mem_of_getElem? ht)
  have hcall : ((gT m).cg Y).fn 53 [.agg x, .agg y] s = .ret (.int .i64 (cmpT t t')) s := ih t.fz (by omega) t rfl t' m Y F s x y hrx hry (by omega)
  obtain ⟨fR11, hR11, kR11, oR11_5⟩ : ∃ fr', adraw ((gT m).cg Y) g53_0 [] fr s = .ok fr' s /\ Kp [6, 2, 3] fr fr' /\ fr'.get 5 = some (.int .i64 (cmpT t t')) := by
   refine ⟨?r110, ?r111, ?r112, ?r11o5⟩
   case r111 =>
    refine adraw_ok (its := ?r11i) ?r11x ?r11y ?r11z
    case r11x =>
     simp only [amE, reduceEqDiff, ↓reduceIte, reduceCtorEq, reduceAdd, drun_cons, drun_nil, DR.cons, oprD, nextId, preA, q2, q3, gi, g53_0, faf, ld2f, ia, ld, ia', ld', hcall]
     rfl
    case r11y => rfl
    case r11z =>
     simp only [List.all_cons, List.all_nil, Bool.and_true, Bool.and_eq_true]
   case r112 => repeat (first | exact Kp.refl | refine Kp.set (by decide) ?_)
   case r11o5 => simp only [Fr.get_set, reduceEqDiff, ↓reduceIte]
  exact ⟨fR11, s, by simp only [amE, reduceEqDiff, ↓reduceIte, reduceCtorEq, reduceAdd, bf53_0, hR11], kR11, rfl, cmpT t t', oR11_5, by rw [<- hq, cmpTs_step hdr hdr']; rfl, fun _ => hl⟩
 obtain ⟨FR, s2, i1, i2, i3, i4⟩ := eloop (Γ := (gT m)) (Y := Y) (m := m) (N := xs.length) (c := 36) (i := 6) (j1 := 37) (j2 := 38) (b := 0) (b1 := 1) (ro := none) (C := cf53_0) (B := bf53_0) (L := [2, 3]) (fr0 := fR10) (by decide) (by decide) (by decide) hsl.2.1
  (Q := fun k fr s => s = st /\ ∃ c, fr.get 5 = some (.int .i64 c) /\ lex2 c (cmpTs (l1.drop k) (l2.drop k)) = T /\ (c = 0 -> l1.length = l2.length)) (Q2 := fun k _ s => s = st /\ cmpTs (l1.drop k) (l2.drop k) = T /\ l1.length = l2.length) (E := fun fr s => s = st /\ fr.get 5 = some (.int .i64 T))
  (fun k fr s v x hx h => by
   obtain ⟨e, c, e2, e3⟩ := h
   refine ⟨e, c, ?_, e3⟩
   rcases hx with rfl | rfl | rfl <;> (rw [Fr.get_set, if_neg (by decide)]; exact e2)) hC hB xs.length 0 fR10 st m (by omega) (by omega) Kp.refl oR10_6 ⟨rfl, c0, gR10_5, hT, hL2⟩
 subst i3
 have dF := i2.1.trans dR10
 obtain ⟨fR12, hR12, kR12, oR12_4⟩ : ∃ fr', arun ((gT m).cg Y) [⟨(some 50), .mv (.t 5), none⟩, ⟨(some 4), .mv (.t 50), none⟩] FR s2 = .ok fr' s2 /\ Kp [] FR fr' /\ fr'.get 4 = some (.int .i64 T) := ⟨_, by simp only [amE, reduceEqDiff, ↓reduceIte, reduceCtorEq, reduceAdd, i4] <;> rfl, Kp.refl.s.s, gh⟩
 have dR12 := kR12.1.trans dF
 refine fun_of (mf := kf53) (fr := fR12) t53 rfl (.inl ?q12) dR12 (by simp only [kf53, amE, oR12_4])
 case q12 =>
  rw [<- hA1]
  simp only [amE, reduceEqDiff, ↓reduceIte, reduceCtorEq, reduceAdd, kf53, b00, hR2, hR3, hZ4, hZ7, hR10, i1, hR12]
def g18_0 : List (MOper × Nat) := [(⟨(some 31), .faddr 1 (.t 2), none⟩, 0), (⟨(some 32), .load false 1 (.t 31), none⟩, 1), (⟨(some 33), .mv (.t 6), none⟩, 0), (⟨(some 34), .iaddr 3 (.t 32) (.t 33), none⟩, 7), (⟨(some 35), .load true 3 (.t 34), none⟩, 15), (⟨(some 36), .faddr 1 (.t 3), none⟩, 0), (⟨(some 37), .load false 1 (.t 36), none⟩, 32), (⟨(some 38), .mv (.t 6), none⟩, 0), (⟨(some 39), .iaddr 3 (.t 37) (.t 38), none⟩, 224), (⟨(some 40), .load true 3 (.t 39), none⟩, 480), (⟨(some 41), .call (.c (.func (.func 53) [] [])) [(.t 35), (.t 40)], none⟩, 1023), (⟨(some 5), .mv (.t 41), none⟩, 2047)]
def g18_1 : List (MOper × Nat) := [(⟨(some 69), .faddr 2 (.t 2), none⟩, 0), (⟨(some 70), .load false 1 (.t 69), none⟩, 1), (⟨(some 71), .mv (.t 7), none⟩, 0), (⟨(some 72), .iaddr 3 (.t 70) (.t 71), none⟩, 7), (⟨(some 73), .load true 3 (.t 72), none⟩, 15), (⟨(some 74), .faddr 2 (.t 3), none⟩, 0), (⟨(some 75), .load false 1 (.t 74), none⟩, 32), (⟨(some 76), .mv (.t 7), none⟩, 0), (⟨(some 77), .iaddr 3 (.t 75) (.t 76), none⟩, 224), (⟨(some 78), .load true 3 (.t 77), none⟩, 480), (⟨(some 79), .call (.c (.func (.func 18) [] [])) [(.t 73), (.t 78)], none⟩, 1023), (⟨(some 5), .mv (.t 79), none⟩, 2047)]
def g18_3 : List MOper := [⟨(some 8), .faddr 0 (.t 2), none⟩, ⟨(some 9), .load false 1 (.t 8), none⟩, ⟨(some 10), .faddr 0 (.t 3), none⟩, ⟨(some 11), .load false 1 (.t 10), none⟩, ⟨(some 12), .call (.c (.func (.func 52) [] [])) [(.t 9), (.t 11)], none⟩, ⟨(some 5), .mv (.t 12), none⟩]
def g18_6 : List MOper := [⟨(some 44), .faddr 1 (.t 2), none⟩, ⟨(some 45), .load false 1 (.t 44), none⟩, ⟨(some 46), .len 0 (.t 45), none⟩, ⟨(some 47), .faddr 1 (.t 3), none⟩, ⟨(some 48), .load false 1 (.t 47), none⟩, ⟨(some 49), .len 0 (.t 48), none⟩, ⟨(some 50), .call (.c (.func (.func 52) [] [])) [(.t 46), (.t 49)], none⟩, ⟨(some 5), .mv (.t 50), none⟩]
def g18_9 : List MOper := [⟨(some 82), .faddr 2 (.t 2), none⟩, ⟨(some 83), .load false 1 (.t 82), none⟩, ⟨(some 84), .len 0 (.t 83), none⟩, ⟨(some 85), .faddr 2 (.t 3), none⟩, ⟨(some 86), .load false 1 (.t 85), none⟩, ⟨(some 87), .len 0 (.t 86), none⟩, ⟨(some 88), .call (.c (.func (.func 52) [] [])) [(.t 84), (.t 87)], none⟩, ⟨(some 5), .mv (.t 88), none⟩]
def bf18_0 : MCode := (.draw g18_0 [])
def cf18_0 : List MOper := [⟨(some 13), .mv (.t 6), none⟩, ⟨(some 14), .faddr 1 (.t 2), none⟩, ⟨(some 15), .load false 1 (.t 14), none⟩, ⟨(some 16), .len 0 (.t 15), none⟩, ⟨(some 17), .bin false .lss (.t 13) (.t 16), none⟩, ⟨(some 18), .mv (.t 17), none⟩, ⟨(some 19), .mv (.t 6), (some (18, true))⟩, ⟨(some 20), .faddr 1 (.t 3), (some (18, true))⟩, ⟨(some 21), .load false 1 (.t 20), (some (18, true))⟩, ⟨(some 22), .len 0 (.t 21), (some (18, true))⟩, ⟨(some 23), .bin false .lss (.t 19) (.t 22), (some (18, true))⟩, ⟨(some 24), .pick (.t 18) (.t 23) (.c (.bool false)), none⟩, ⟨(some 25), .mv (.t 24), none⟩, ⟨(some 26), .mv (.t 5), (some (25, true))⟩, ⟨(some 27), .bin false .eql (.t 26) (.c (.int .i64 (.ofNat 0))), (some (25, true))⟩, ⟨(some 28), .pick (.t 25) (.t 27) (.c (.bool false)), none⟩]
def bf18_1 : MCode := (.draw g18_1 [])
def cf18_1 : List MOper := [⟨(some 51), .mv (.t 7), none⟩, ⟨(some 52), .faddr 2 (.t 2), none⟩, ⟨(some 53), .load false 1 (.t 52), none⟩, ⟨(some 54), .len 0 (.t 53), none⟩, ⟨(some 55), .bin false .lss (.t 51) (.t 54), none⟩, ⟨(some 56), .mv (.t 55), none⟩, ⟨(some 57), .mv (.t 7), (some (56, true))⟩, ⟨(some 58), .faddr 2 (.t 3), (some (56, true))⟩, ⟨(some 59), .load false 1 (.t 58), (some (56, true))⟩, ⟨(some 60), .len 0 (.t 59), (some (56, true))⟩, ⟨(some 61), .bin false .lss (.t 57) (.t 60), (some (56, true))⟩, ⟨(some 62), .pick (.t 56) (.t 61) (.c (.bool false)), none⟩, ⟨(some 63), .mv (.t 62), none⟩, ⟨(some 64), .mv (.t 5), (some (63, true))⟩, ⟨(some 65), .bin false .eql (.t 64) (.c (.int .i64 (.ofNat 0))), (some (63, true))⟩, ⟨(some 66), .pick (.t 63) (.t 65) (.c (.bool false)), none⟩]
def sf18_0 : MCode := (.seq (.region [⟨(some 42), .mv (.t 5), none⟩, ⟨(some 43), .bin false .eql (.t 42) (.c (.int .i64 (.ofNat 0))), none⟩]) (.cond (.t 43) (.region g18_6) .skip))
def sf18_1 : MCode := (.seq (.region [⟨(some 80), .mv (.t 5), none⟩, ⟨(some 81), .bin false .eql (.t 80) (.c (.int .i64 (.ofNat 0))), none⟩]) (.cond (.t 81) (.region g18_9) .skip))
def kf18 : MFunc := ⟨90, (.seq (.region [⟨(some 2), .box true (.t 0), none⟩, ⟨(some 3), .box true (.t 1), none⟩, ⟨(some 4), .mv (.c (.int .i64 (.ofNat 0))), none⟩])
 (.seq (.region g18_3)
 (.seq (.seq (.region [⟨(some 6), .mv (.c (.int .i64 (.ofNat 0))), none⟩])
 (.block 0 (.loop (lb2 28 6 29 30 0 1 cf18_0 bf18_0))))
 (.seq sf18_0
 (.seq (.seq (.region [⟨(some 7), .mv (.c (.int .i64 (.ofNat 0))), none⟩])
 (.block 2 (.loop (lb2 66 7 67 68 2 3 cf18_1 bf18_1))))
 (.seq sf18_1
 (.seq (.region [⟨(some 89), .mv (.t 5), none⟩, ⟨(some 4), .mv (.t 89), none⟩])
 .ret))))))), [.t 4]⟩
theorem t18 : tbl 18 = some kf18 := by kernel_rfl
set_option maxHeartbeats 4000000 in
theorem rcmpD (a : Dv) : ∀ (b : Dv) (n : Nat) (Y : Yenv) (F : Nat -> Prop) (st : St) (ca cb : List AV), RepD F st a ca -> RepD F st b cb -> a.fz + 1 < n ->
  R n Y 18 [.agg ca, .agg cb] st = .ret (.int .i64 (cmpD a b)) st := by
 induction hs : a.fz using Nat.strongRecOn generalizing a with
 | _ s ih =>
 intro b n Y F st ca cb ha hb hn
 cases a with
 | mk r1 nv1 ev1 vs1 nl1 ex1 l1 =>
 cases b with
 | mk r2 nv2 ev2 vs2 nl2 ex2 l2 =>
 simp only [RepD] at ha hb
 obtain ⟨sv, xv, sl, xs, rfl, hsv, hrv, hsl, hrs⟩ := ha
 obtain ⟨sv', yv, sl', ys, rfl, hsv', hrv', hsl', hrs'⟩ := hb
 simp only [Dv.fz] at hs
 obtain ⟨m, rfl⟩ : ∃ m, n = m + 1 := ⟨n - 1, by omega⟩
 have b00 : Nat.beq 0 0 = true := rfl
 have b22 : Nat.beq 2 2 = true := rfl
 have hxl := hrs.len
 have hyl := hrs'.len
 have hxv := hrv.len
 have hyv := hrv'.len
 have hlen := hsl.len st
 have hlen' := hsl'.len st
 have hlev := hsv.len st
 have hlev' := hsv'.len st
 have c52 : ∀ x y : Int, ((gT m).cg Y).fn 52 [.int .i64 x, .int .i64 y] st = .ret (.int .i64 (cmpI x y)) st := fun x y => by
  obtain ⟨m', rfl⟩ : ∃ m', m = m' + 1 := ⟨m - 1, by omega⟩
  exact order_at (.inl rfl) m' Y x y st
 have hT : lex2 (lex2 (cmpI r1 r2) (cmpTs vs1 vs2)) (cmpDs l1 l2) = cmpD (.mk r1 nv1 ev1 vs1 nl1 ex1 l1) (.mk r2 nv2 ev2 vs2 nl2 ex2 l2) := by
  rw [cmpD_eq, lex2_assoc]
 generalize cmpD (.mk r1 nv1 ev1 vs1 nl1 ex1 l1) (.mk r2 nv2 ev2 vs2 nl2 ex2 l2) = T at *
 obtain ⟨fA13, hA13⟩ : ∃ fA, fA = frOf 0 [.agg [.int .i64 r1, sv, sl], .agg [.int .i64 r2, sv', sl']] Fr.nil := ⟨_, rfl⟩
 have gA13_0 : fA13.get 0 = some (.agg [.int .i64 r1, sv, sl]) := by rw [hA13]; simp only [frOf, Fr.get_set, reduceAdd, reduceEqDiff, ↓reduceIte]
 have gA13_1 : fA13.get 1 = some (.agg [.int .i64 r2, sv', sl']) := by rw [hA13]; simp only [frOf, Fr.get_set, reduceAdd, reduceEqDiff, ↓reduceIte]
 have dA13 : fA13.ds = [] := by rw [hA13]; rfl
 obtain ⟨fR14, hR14, kR14, oR14_2, oR14_3⟩ : ∃ fr', arun ((gT m).cg Y) [⟨(some 2), .box true (.t 0), none⟩, ⟨(some 3), .box true (.t 1), none⟩, ⟨(some 4), .mv (.c (.int .i64 (.ofNat 0))), none⟩] fA13 st = .ok fr' st /\ Kp [] fA13 fr' /\ fr'.get 2 = some (.fptr [.int .i64 r1, sv, sl] 0) /\ fr'.get 3 = some (.fptr [.int .i64 r2, sv', sl'] 0) := ⟨_, by simp only [amE, reduceEqDiff, ↓reduceIte, reduceCtorEq, reduceAdd, gA13_0, gA13_1] <;> rfl, Kp.refl.s.s.s, gn (gn gh), gn gh⟩
 have dR14 := kR14.1.trans dA13
 obtain ⟨fR15, hR15, kR15, oR15_5⟩ : ∃ fr', arun ((gT m).cg Y) g18_3 fR14 st = .ok fr' st /\ Kp [2, 3] fR14 fr' /\ fr'.get 5 = some (.int .i64 (cmpI r1 r2)) := ⟨_, by simp only [amE, reduceEqDiff, ↓reduceIte, reduceCtorEq, reduceAdd, oR14_2, oR14_3, g18_3, faf, ld0f, c52] <;> rfl, Kp.refl.s.s.s.s.s.s, gh⟩
 have gR15_2 := kR15.g 2 oR14_2
 have gR15_3 := kR15.g 3 oR14_3
 have dR15 := kR15.1.trans dR14
 generalize hT1 : lex2 (cmpI r1 r2) (cmpTs vs1 vs2) = T1 at *
 obtain ⟨fR16, hR16, kR16, oR16_6⟩ : ∃ fr', arun ((gT m).cg Y) [⟨(some 6), .mv (.c (.int .i64 (.ofNat 0))), none⟩] fR15 st = .ok fr' st /\ Kp [2, 3, 5] fR15 fr' /\ fr'.get 6 = some (.int .i64 (.ofNat 0)) := ⟨_, by simp only [amE, reduceEqDiff, ↓reduceIte, reduceCtorEq, reduceAdd] <;> rfl, Kp.refl.s, gh⟩
 have gR16_2 := kR16.g 2 gR15_2
 have gR16_3 := kR16.g 3 gR15_3
 have gR16_5 := kR16.g 5 oR15_5
 have dR16 := kR16.1.trans dR15
 have hC0 : ∀ k fr s, k <= xv.length -> Kp [2, 3] fR16 fr -> fr.get 6 = some (.int .i64 (.ofNat k)) -> (s = st /\ ∃ c, fr.get 5 = some (.int .i64 c) /\ lex2 c (cmpTs (vs1.drop k) (vs2.drop k)) = T1 /\ k <= yv.length) ->
   ∃ fr' x, arun ((gT m).cg Y) cf18_0 fr s = .ok fr' s /\ Kp [6, 2, 3] fr fr' /\ fr'.get 28 = some (.bool x) /\ (x = true -> k < xv.length /\ (s = st /\ cmpTs (vs1.drop k) (vs2.drop k) = T1 /\ k < yv.length)) /\ (x = false -> (s = st /\ ∃ c, fr'.get 5 = some (.int .i64 c) /\ lex2 c (cmpI (.ofNat xv.length) (.ofNat yv.length)) = T1)) := by
  intro k fr s hk hkp gi ⟨hst, c, q5, hq, hl⟩
  subst hst
  have q2 := hkp.at (k := 2) (by decide) gR16_2
  have q3 := hkp.at (k := 3) (by decide) gR16_3
  have ez := eqz c
  have ls := lssD k xv.length
  have ls' := lssD k yv.length
  have fin : ¬ (k < xv.length /\ k < yv.length) -> lex2 c (cmpI (.ofNat xv.length) (.ofNat yv.length)) = T1 := fun h => by
   rw [<- hq, cmpTs_end (by omega) (by omega) (by omega), hxv, hyv]
  by_cases c1 : k < xv.length
  ·rw [decide_eq_true c1] at ls
   by_cases c3 : k < yv.length
   ·rw [decide_eq_true c3] at ls'
    by_cases c2 : c = 0
    ·subst c2
     refine ⟨?ia0, true, ?ib0, ?ic0, ?id0, fun _ => ⟨c1, rfl, ?ie0, c3⟩, fun h => by cases h⟩
     case ib0 =>
      simp only [amE, reduceEqDiff, ↓reduceIte, reduceCtorEq, reduceAdd, cf18_0, gi, q2, q3, q5, faf, ld1f, hlev, hlev', ls, ls', ez]
      rfl
     case ic0 => repeat (first | exact Kp.refl | refine Kp.set (by decide) ?_)
     case id0 => simp only [Fr.get_set, reduceEqDiff, ↓reduceIte]; rfl
     case ie0 => rw [<- hq]; unfold lex2; rw [if_pos rfl]
    ·have hb : (c == 0) = false := by simpa using c2
     rw [hb] at ez
     refine ⟨?ja0, false, ?jb0, ?jc0, ?jd0, (fun h => by cases h), fun _ => ⟨rfl, c, ?je0, ?jf0⟩⟩
     case jb0 =>
      simp only [amE, reduceEqDiff, ↓reduceIte, reduceCtorEq, reduceAdd, cf18_0, gi, q2, q3, q5, faf, ld1f, hlev, hlev', ls, ls', ez]
      rfl
     case jc0 => repeat (first | exact Kp.refl | refine Kp.set (by decide) ?_)
     case jd0 => simp only [Fr.get_set, reduceEqDiff, ↓reduceIte]
     case je0 => simp only [Fr.get_set, reduceEqDiff, ↓reduceIte, q5]
     case jf0 => rw [<- hq]; unfold lex2; rw [if_neg c2, if_neg c2]
   ·rw [decide_eq_false c3] at ls'
    refine ⟨?ka0, false, ?kb0, ?kc0, ?kd0, (fun h => by cases h), fun _ => ⟨rfl, c, ?ke0, fin (by omega)⟩⟩
    case kb0 =>
     simp only [amE, reduceEqDiff, ↓reduceIte, reduceCtorEq, reduceAdd, cf18_0, gi, q2, q3, q5, faf, ld1f, hlev, hlev', ls, ls']
     rfl
    case kc0 => repeat (first | exact Kp.refl | refine Kp.set (by decide) ?_)
    case kd0 => simp only [Fr.get_set, reduceEqDiff, ↓reduceIte]
    case ke0 => simp only [Fr.get_set, reduceEqDiff, ↓reduceIte, q5]
  ·rw [decide_eq_false c1] at ls
   refine ⟨?la0, false, ?lb0, ?lc0, ?ld0, (fun h => by cases h), fun _ => ⟨rfl, c, ?le0, fin (by omega)⟩⟩
   case lb0 =>
    simp only [amE, reduceEqDiff, ↓reduceIte, reduceCtorEq, reduceAdd, cf18_0, gi, q2, q3, q5, faf, ld1f, hlev, hlev', ls]
    rfl
   case lc0 => repeat (first | exact Kp.refl | refine Kp.set (by decide) ?_)
   case ld0 => simp only [Fr.get_set, reduceEqDiff, ↓reduceIte]
   case le0 => simp only [Fr.get_set, reduceEqDiff, ↓reduceIte, q5]
 have hB0 : ∀ k fr s, k < xv.length -> Kp [2, 3] fR16 fr -> fr.get 6 = some (.int .i64 (.ofNat k)) -> (s = st /\ cmpTs (vs1.drop k) (vs2.drop k) = T1 /\ k < yv.length) ->
   ∃ FR s', acode (gT m) Y m bf18_0 none fr s = .norm FR s' /\ Kp [6, 2, 3] fr FR /\ (s' = st /\ ∃ c, FR.get 5 = some (.int .i64 c) /\ lex2 c (cmpTs (vs1.drop (k + 1)) (vs2.drop (k + 1))) = T1 /\ k + 1 <= yv.length) := by
  intro k fr s hk hkp gi ⟨hst, hq, hl⟩
  subst hst
  have q2 := hkp.at (k := 2) (by decide) gR16_2
  have q3 := hkp.at (k := 3) (by decide) gR16_3
  obtain ⟨t, ht, hdr⟩ := drop_at (l := vs1) (k := k) (by omega)
  obtain ⟨t', ht', hdr'⟩ := drop_at (l := vs2) (k := k) (by omega)
  obtain ⟨x, hx, hrx⟩ := hrv.at ht
  obtain ⟨y, hy, hry⟩ := hrv'.at ht'
  obtain ⟨p, ia, ld⟩ := hsv.at hx
  obtain ⟨p', ia', ld'⟩ := hsv'.at hy
  have ld := ld s (Same.refl _ _)
  have ld' := ld' s (Same.refl _ _)
  have hfz := Tm.fzL_mem (List.mem_of_getElem? ht)
  have hcall : ((gT m).cg Y).fn 53 [.agg x, .agg y] s = .ret (.int .i64 (cmpT t t')) s := rcmpT t t' m Y F s x y hrx hry (by omega)
  obtain ⟨fR17, hR17, kR17, oR17_5⟩ : ∃ fr', adraw ((gT m).cg Y) g18_0 [] fr s = .ok fr' s /\ Kp [6, 2, 3] fr fr' /\ fr'.get 5 = some (.int .i64 (cmpT t t')) := by
   refine ⟨?r170, ?r171, ?r172, ?r17o5⟩
   case r171 =>
    refine adraw_ok (its := ?r17i) ?r17x ?r17y ?r17z
    case r17x =>
     simp only [amE, reduceEqDiff, ↓reduceIte, reduceCtorEq, reduceAdd, drun_cons, drun_nil, DR.cons, oprD, nextId, preA, q2, q3, gi, g18_0, faf, ld1f, ia, ld, ia', ld', hcall]
     rfl
    case r17y => rfl
    case r17z =>
     simp only [List.all_cons, List.all_nil, Bool.and_true, Bool.and_eq_true]
   case r172 => repeat (first | exact Kp.refl | refine Kp.set (by decide) ?_)
   case r17o5 => simp only [Fr.get_set, reduceEqDiff, ↓reduceIte]
  exact ⟨fR17, s, by simp only [amE, reduceEqDiff, ↓reduceIte, reduceCtorEq, reduceAdd, bf18_0, hR17], kR17, rfl, cmpT t t', oR17_5, by rw [<- hq, cmpTs_step hdr hdr']; rfl, by omega⟩
 obtain ⟨FR0, s2, i10, i20, i3, c0, i40, i50⟩ := eloop (Γ := (gT m)) (Y := Y) (m := m) (N := xv.length) (c := 28) (i := 6) (j1 := 29) (j2 := 30) (b := 0) (b1 := 1) (ro := none) (C := cf18_0) (B := bf18_0) (L := [2, 3]) (fr0 := fR16) (by decide) (by decide) (by decide) hsv.2.1
  (Q := fun k fr s => (s = st /\ ∃ c, fr.get 5 = some (.int .i64 c) /\ lex2 c (cmpTs (vs1.drop k) (vs2.drop k)) = T1 /\ k <= yv.length)) (Q2 := fun k _ s => (s = st /\ cmpTs (vs1.drop k) (vs2.drop k) = T1 /\ k < yv.length)) (E := fun fr s => s = st /\ ∃ c, fr.get 5 = some (.int .i64 c) /\ lex2 c (cmpI (.ofNat xv.length) (.ofNat yv.length)) = T1)
  (fun k fr s v x hx h => by
   obtain ⟨e, c, e2, e3⟩ := h
   refine ⟨e, c, ?_, e3⟩
   rcases hx with rfl | rfl | rfl <;> (rw [Fr.get_set, if_neg (by decide)]; exact e2)) hC0 hB0 xv.length 0 fR16 st m (by omega) (by omega) Kp.refl oR16_6 ⟨rfl, cmpI r1 r2, gR16_5, hT1, Nat.zero_le _⟩
 have i3 := i3.symm
 subst i3
 have dF0 := i20.1.trans dR16
 have gF02 := i20.at (k := 2) (by decide) gR16_2
 have gF03 := i20.at (k := 3) (by decide) gR16_3
 obtain ⟨fZ18, hZ18, kZ18, oZ18⟩ : ∃ fr', acode (gT m) Y m sf18_0 none FR0 st = .norm fr' st /\ Kp [2, 3] FR0 fr' /\ fr'.get 5 = some (.int .i64 (T1)) := by
  have lz := lexz (c0) (cmpI (.ofNat xv.length) (.ofNat yv.length))
  have ez := eqz (c0)
  rw [<- i50, lz]
  generalize ((c0) == 0) = B at *
  obtain ⟨fR19, hR19, kR19, oR19_43⟩ : ∃ fr', arun ((gT m).cg Y) [⟨(some 42), .mv (.t 5), none⟩, ⟨(some 43), .bin false .eql (.t 42) (.c (.int .i64 (.ofNat 0))), none⟩] FR0 st = .ok fr' st /\ Kp [2, 3, 5] FR0 fr' /\ fr'.get 43 = some (.bool B) := ⟨_, by simp only [amE, reduceEqDiff, ↓reduceIte, reduceCtorEq, reduceAdd, i40, ez] <;> rfl, Kp.refl.s.s, gh⟩
  have gR19_2 := kR19.g 2 gF02
  have gR19_3 := kR19.g 3 gF03
  have gR19_5 := kR19.g 5 i40
  cases B with
  | true =>
   obtain ⟨fR20, hR20, kR20, oR20_5⟩ : ∃ fr', arun ((gT m).cg Y) g18_6 fR19 st = .ok fr' st /\ Kp [2, 3] fR19 fr' /\ fr'.get 5 = some (.int .i64 (cmpI (.ofNat xv.length) (.ofNat yv.length))) := ⟨_, by simp only [amE, reduceEqDiff, ↓reduceIte, reduceCtorEq, reduceAdd, gR19_2, gR19_3, g18_6, faf, ld1f, hlev, hlev', c52] <;> rfl, Kp.refl.s.s.s.s.s.s.s.s, gh⟩
   exact ⟨fR20, by simp only [amE, reduceEqDiff, ↓reduceIte, reduceCtorEq, reduceAdd, sf18_0, hR19, hR20, oR19_43], (kR19.sub (by decide)).trans kR20, by rw [if_pos rfl]; exact oR20_5⟩
  | false =>
   exact ⟨fR19, by simp only [amE, reduceEqDiff, ↓reduceIte, reduceCtorEq, reduceAdd, sf18_0, hR19, oR19_43], kR19.sub (by decide), by rw [if_neg (by decide)]; exact gR19_5⟩
 have gZ18_2 := kZ18.at (k := 2) (by decide) gF02
 have gZ18_3 := kZ18.at (k := 3) (by decide) gF03
 have dZ18 := kZ18.1.trans dF0
 obtain ⟨fR21, hR21, kR21, oR21_7⟩ : ∃ fr', arun ((gT m).cg Y) [⟨(some 7), .mv (.c (.int .i64 (.ofNat 0))), none⟩] fZ18 st = .ok fr' st /\ Kp [2, 3, 5] fZ18 fr' /\ fr'.get 7 = some (.int .i64 (.ofNat 0)) := ⟨_, by simp only [amE, reduceEqDiff, ↓reduceIte, reduceCtorEq, reduceAdd] <;> rfl, Kp.refl.s, gh⟩
 have gR21_2 := kR21.g 2 gZ18_2
 have gR21_3 := kR21.g 3 gZ18_3
 have gR21_5 := kR21.g 5 oZ18
 have dR21 := kR21.1.trans dZ18
 have hC1 : ∀ k fr s, k <= xs.length -> Kp [2, 3] fR21 fr -> fr.get 7 = some (.int .i64 (.ofNat k)) -> (s = st /\ ∃ c, fr.get 5 = some (.int .i64 c) /\ lex2 c (cmpDs (l1.drop k) (l2.drop k)) = T /\ k <= ys.length) ->
   ∃ fr' x, arun ((gT m).cg Y) cf18_1 fr s = .ok fr' s /\ Kp [7, 2, 3] fr fr' /\ fr'.get 66 = some (.bool x) /\ (x = true -> k < xs.length /\ (s = st /\ cmpDs (l1.drop k) (l2.drop k) = T /\ k < ys.length)) /\ (x = false -> (s = st /\ ∃ c, fr'.get 5 = some (.int .i64 c) /\ lex2 c (cmpI (.ofNat xs.length) (.ofNat ys.length)) = T)) := by
  intro k fr s hk hkp gi ⟨hst, c, q5, hq, hl⟩
  subst hst
  have q2 := hkp.at (k := 2) (by decide) gR21_2
  have q3 := hkp.at (k := 3) (by decide) gR21_3
  have ez := eqz c
  have ls := lssD k xs.length
  have ls' := lssD k ys.length
  have fin : ¬ (k < xs.length /\ k < ys.length) -> lex2 c (cmpI (.ofNat xs.length) (.ofNat ys.length)) = T := fun h => by
   rw [<- hq, cmpDs_end (by omega) (by omega) (by omega), hxl, hyl]
  by_cases c1 : k < xs.length
  ·rw [decide_eq_true c1] at ls
   by_cases c3 : k < ys.length
   ·rw [decide_eq_true c3] at ls'
    by_cases c2 : c = 0
    ·subst c2
     refine ⟨?ia1, true, ?ib1, ?ic1, ?id1, fun _ => ⟨c1, rfl, ?ie1, c3⟩, fun h => by cases h⟩
     case ib1 =>
      simp only [amE, reduceEqDiff, ↓reduceIte, reduceCtorEq, reduceAdd, cf18_1, gi, q2, q3, q5, faf, ld2f, hlen, hlen', ls, ls', ez]
      rfl
     case ic1 => repeat (first | exact Kp.refl | refine Kp.set (by decide) ?_)
     case id1 => simp only [Fr.get_set, reduceEqDiff, ↓reduceIte]; rfl
     case ie1 => rw [<- hq]; unfold lex2; rw [if_pos rfl]
    ·have hb : (c == 0) = false := by simpa using c2
     rw [hb] at ez
     refine ⟨?ja1, false, ?jb1, ?jc1, ?jd1, (fun h => by cases h), fun _ => ⟨rfl, c, ?je1, ?jf1⟩⟩
     case jb1 =>
      simp only [amE, reduceEqDiff, ↓reduceIte, reduceCtorEq, reduceAdd, cf18_1, gi, q2, q3, q5, faf, ld2f, hlen, hlen', ls, ls', ez]
      rfl
     case jc1 => repeat (first | exact Kp.refl | refine Kp.set (by decide) ?_)
     case jd1 => simp only [Fr.get_set, reduceEqDiff, ↓reduceIte]
     case je1 => simp only [Fr.get_set, reduceEqDiff, ↓reduceIte, q5]
     case jf1 => rw [<- hq]; unfold lex2; rw [if_neg c2, if_neg c2]
   ·rw [decide_eq_false c3] at ls'
    refine ⟨?ka1, false, ?kb1, ?kc1, ?kd1, (fun h => by cases h), fun _ => ⟨rfl, c, ?ke1, fin (by omega)⟩⟩
    case kb1 =>
     simp only [amE, reduceEqDiff, ↓reduceIte, reduceCtorEq, reduceAdd, cf18_1, gi, q2, q3, q5, faf, ld2f, hlen, hlen', ls, ls']
     rfl
    case kc1 => repeat (first | exact Kp.refl | refine Kp.set (by decide) ?_)
    case kd1 => simp only [Fr.get_set, reduceEqDiff, ↓reduceIte]
    case ke1 => simp only [Fr.get_set, reduceEqDiff, ↓reduceIte, q5]
  ·rw [decide_eq_false c1] at ls
   refine ⟨?la1, false, ?lb1, ?lc1, ?ld1, (fun h => by cases h), fun _ => ⟨rfl, c, ?le1, fin (by omega)⟩⟩
   case lb1 =>
    simp only [amE, reduceEqDiff, ↓reduceIte, reduceCtorEq, reduceAdd, cf18_1, gi, q2, q3, q5, faf, ld2f, hlen, hlen', ls]
    rfl
   case lc1 => repeat (first | exact Kp.refl | refine Kp.set (by decide) ?_)
   case ld1 => simp only [Fr.get_set, reduceEqDiff, ↓reduceIte]
   case le1 => simp only [Fr.get_set, reduceEqDiff, ↓reduceIte, q5]
 have hB1 : ∀ k fr s, k < xs.length -> Kp [2, 3] fR21 fr -> fr.get 7 = some (.int .i64 (.ofNat k)) -> (s = st /\ cmpDs (l1.drop k) (l2.drop k) = T /\ k < ys.length) ->
   ∃ FR s', acode (gT m) Y m bf18_1 none fr s = .norm FR s' /\ Kp [7, 2, 3] fr FR /\ (s' = st /\ ∃ c, FR.get 5 = some (.int .i64 c) /\ lex2 c (cmpDs (l1.drop (k + 1)) (l2.drop (k + 1))) = T /\ k + 1 <= ys.length) := by
  intro k fr s hk hkp gi ⟨hst, hq, hl⟩
  subst hst
  have q2 := hkp.at (k := 2) (by decide) gR21_2
  have q3 := hkp.at (k := 3) (by decide) gR21_3
  obtain ⟨t, ht, hdr⟩ := drop_at (l := l1) (k := k) (by omega)
  obtain ⟨t', ht', hdr'⟩ := drop_at (l := l2) (k := k) (by omega)
  obtain ⟨x, hx, hrx⟩ := hrs.at ht
  obtain ⟨y, hy, hry⟩ := hrs'.at ht'
  obtain ⟨p, ia, ld⟩ := hsl.at hx
  obtain ⟨p', ia', ld'⟩ := hsl'.at hy
  have ld := ld s (Same.refl _ _)
  have ld' := ld' s (Same.refl _ _)
  have hfz := Dv.fzL_mem (List.mem_of_getElem? ht)
  have hcall : ((gT m).cg Y).fn 18 [.agg x, .agg y] s = .ret (.int .i64 (cmpD t t')) s := ih t.fz (by omega) t rfl t' m Y F s x y hrx hry (by omega)
  obtain ⟨fR22, hR22, kR22, oR22_5⟩ : ∃ fr', adraw ((gT m).cg Y) g18_1 [] fr s = .ok fr' s /\ Kp [7, 2, 3] fr fr' /\ fr'.get 5 = some (.int .i64 (cmpD t t')) := by
   refine ⟨?r220, ?r221, ?r222, ?r22o5⟩
   case r221 =>
    refine adraw_ok (its := ?r22i) ?r22x ?r22y ?r22z
    case r22x =>
     simp only [amE, reduceEqDiff, ↓reduceIte, reduceCtorEq, reduceAdd, drun_cons, drun_nil, DR.cons, oprD, nextId, preA, q2, q3, gi, g18_1, faf, ld2f, ia, ld, ia', ld', hcall]
     rfl
    case r22y => rfl
    case r22z =>
     simp only [List.all_cons, List.all_nil, Bool.and_true, Bool.and_eq_true]
   case r222 => repeat (first | exact Kp.refl | refine Kp.set (by decide) ?_)
   case r22o5 => simp only [Fr.get_set, reduceEqDiff, ↓reduceIte]
  exact ⟨fR22, s, by simp only [amE, reduceEqDiff, ↓reduceIte, reduceCtorEq, reduceAdd, bf18_1, hR22], kR22, rfl, cmpD t t', oR22_5, by rw [<- hq, cmpDs_step hdr hdr']; rfl, by omega⟩
 obtain ⟨FR1, s2, i11, i21, i3, c1, i41, i51⟩ := eloop (Γ := (gT m)) (Y := Y) (m := m) (N := xs.length) (c := 66) (i := 7) (j1 := 67) (j2 := 68) (b := 2) (b1 := 3) (ro := none) (C := cf18_1) (B := bf18_1) (L := [2, 3]) (fr0 := fR21) (by decide) (by decide) (by decide) hsl.2.1
  (Q := fun k fr s => (s = st /\ ∃ c, fr.get 5 = some (.int .i64 c) /\ lex2 c (cmpDs (l1.drop k) (l2.drop k)) = T /\ k <= ys.length)) (Q2 := fun k _ s => (s = st /\ cmpDs (l1.drop k) (l2.drop k) = T /\ k < ys.length)) (E := fun fr s => s = st /\ ∃ c, fr.get 5 = some (.int .i64 c) /\ lex2 c (cmpI (.ofNat xs.length) (.ofNat ys.length)) = T)
  (fun k fr s v x hx h => by
   obtain ⟨e, c, e2, e3⟩ := h
   refine ⟨e, c, ?_, e3⟩
   rcases hx with rfl | rfl | rfl <;> (rw [Fr.get_set, if_neg (by decide)]; exact e2)) hC1 hB1 xs.length 0 fR21 st m (by omega) (by omega) Kp.refl oR21_7 ⟨rfl, T1, gR21_5, hT, Nat.zero_le _⟩
 have i3 := i3.symm
 subst i3
 have dF1 := i21.1.trans dR21
 have gF12 := i21.at (k := 2) (by decide) gR21_2
 have gF13 := i21.at (k := 3) (by decide) gR21_3
 obtain ⟨fZ23, hZ23, kZ23, oZ23⟩ : ∃ fr', acode (gT m) Y m sf18_1 none FR1 st = .norm fr' st /\ Kp [2, 3] FR1 fr' /\ fr'.get 5 = some (.int .i64 (T)) := by
  have lz := lexz (c1) (cmpI (.ofNat xs.length) (.ofNat ys.length))
  have ez := eqz (c1)
  rw [<- i51, lz]
  generalize ((c1) == 0) = B at *
  obtain ⟨fR24, hR24, kR24, oR24_81⟩ : ∃ fr', arun ((gT m).cg Y) [⟨(some 80), .mv (.t 5), none⟩, ⟨(some 81), .bin false .eql (.t 80) (.c (.int .i64 (.ofNat 0))), none⟩] FR1 st = .ok fr' st /\ Kp [2, 3, 5] FR1 fr' /\ fr'.get 81 = some (.bool B) := ⟨_, by simp only [amE, reduceEqDiff, ↓reduceIte, reduceCtorEq, reduceAdd, i41, ez] <;> rfl, Kp.refl.s.s, gh⟩
  have gR24_2 := kR24.g 2 gF12
  have gR24_3 := kR24.g 3 gF13
  have gR24_5 := kR24.g 5 i41
  cases B with
  | true =>
   obtain ⟨fR25, hR25, kR25, oR25_5⟩ : ∃ fr', arun ((gT m).cg Y) g18_9 fR24 st = .ok fr' st /\ Kp [2, 3] fR24 fr' /\ fr'.get 5 = some (.int .i64 (cmpI (.ofNat xs.length) (.ofNat ys.length))) := ⟨_, by simp only [amE, reduceEqDiff, ↓reduceIte, reduceCtorEq, reduceAdd, gR24_2, gR24_3, g18_9, faf, ld2f, hlen, hlen', c52] <;> rfl, Kp.refl.s.s.s.s.s.s.s.s, gh⟩
   exact ⟨fR25, by simp only [amE, reduceEqDiff, ↓reduceIte, reduceCtorEq, reduceAdd, sf18_1, hR24, hR25, oR24_81], (kR24.sub (by decide)).trans kR25, by rw [if_pos rfl]; exact oR25_5⟩
  | false =>
   exact ⟨fR24, by simp only [amE, reduceEqDiff, ↓reduceIte, reduceCtorEq, reduceAdd, sf18_1, hR24, oR24_81], kR24.sub (by decide), by rw [if_neg (by decide)]; exact gR24_5⟩
 have gZ23_2 := kZ23.at (k := 2) (by decide) gF12
 have gZ23_3 := kZ23.at (k := 3) (by decide) gF13
 have dZ23 := kZ23.1.trans dF1
 obtain ⟨fR26, hR26, kR26, oR26_4⟩ : ∃ fr', arun ((gT m).cg Y) [⟨(some 89), .mv (.t 5), none⟩, ⟨(some 4), .mv (.t 89), none⟩] fZ23 st = .ok fr' st /\ Kp [] fZ23 fr' /\ fr'.get 4 = some (.int .i64 T) := ⟨_, by simp only [amE, reduceEqDiff, ↓reduceIte, reduceCtorEq, reduceAdd, oZ23] <;> rfl, Kp.refl.s.s, gh⟩
 have dR26 := kR26.1.trans dZ23
 refine fun_of (mf := kf18) (fr := fR26) t18 rfl (.inl ?q26) dR26 (by simp only [kf18, amE, oR26_4])
 case q26 =>
  rw [<- hA13]
  simp only [amE, reduceEqDiff, ↓reduceIte, reduceCtorEq, reduceAdd, kf18, b00, hR14, hR15, hR16, i10, hZ18, hR21, i11, hZ23, hR26, b22]
end
end Go.AM.D16
