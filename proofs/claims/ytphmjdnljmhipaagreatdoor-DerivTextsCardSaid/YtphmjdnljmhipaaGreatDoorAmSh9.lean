import Derived.Test.YtphmjdnljmhipaaGreatDoorAmRef
import Derived.Test.YtphmjdnljmhipaaGreatDoorAmSh2
set_option linter.unusedSimpArgs false
set_option linter.unusedVariables false
set_option maxRecDepth 100000
namespace Go.AM.D16
open Go Go.AM
noncomputable section
open Nat (reduceEqDiff reduceAdd)
def lb2 (c i j1 j2 b b1 : Nat) (C : List MOper) (B : MCode) : MCode := .seq (.seq (.region C) (.cond (.t c) .skip (.exit b))) (.seq (.block b1 B) (.region [⟨some j1, .mv (.t i), none⟩, ⟨some j2, .bin false .add (.t j1) (.c (.int .i64 (.ofNat 1))), none⟩, ⟨some i, .mv (.t j2), none⟩]))
theorem floop {Γ : Gam} {Y : Yenv} {m N c i j1 j2 b b1 : Nat} {ro : Option Nat} {C : List MOper} {B : MCode} {L : List Nat} {fr0 : Fr} {Q : Nat -> Fr -> St -> Prop} {Post : Fr -> St -> Prop}
  (hi : i ∉ L) (hj1 : j1 ∉ L) (hj2 : j2 ∉ L) (hN : N <= 9223372036854775807)
  (hQ : ∀ k fr st s v, (s = i \/ s = j1 \/ s = j2) -> Q k fr st -> Q k (fr.set s v) st)
  (hC : ∀ k fr st, k <= N -> Kp L fr0 fr -> fr.get i = some (.int .i64 (.ofNat k)) -> Q k fr st -> ∃ fr', arun (Γ.cg Y) C fr st = .ok fr' st /\ Kp (i :: L) fr fr' /\ fr'.get c = some (.bool (decide (k < N))) /\ Q k fr' st)
  (hB : ∀ k fr st, k < N -> Kp L fr0 fr -> fr.get i = some (.int .i64 (.ofNat k)) -> Q k fr st ->
   (∃ FR st', acode Γ Y m B ro fr st = .norm FR st' /\ Kp (i :: L) fr FR /\ Q (k + 1) FR st') \/ (∃ FR st', acode Γ Y m B ro fr st = .ret FR st' /\ Post FR st')) :
  ∀ (j k : Nat) (fr : Fr) (st : St) (fuel : Nat), k + j = N -> j < fuel -> Kp L fr0 fr -> fr.get i = some (.int .i64 (.ofNat k)) -> Q k fr st ->
   (∃ FR st', aloop (acode Γ Y m (lb2 c i j1 j2 b b1 C B) ro) fuel fr st = .exit b FR st' /\ Kp L fr0 FR /\ Q N FR st') \/ (∃ FR st', aloop (acode Γ Y m (lb2 c i j1 j2 b b1 C B) ro) fuel fr st = .ret FR st' /\ Post FR st')
 | _, _, _, _, 0, _, hf, _, _, _ => by omega
 | 0, k, fr, st, fuel + 1, hk, _, hp, gi, hq => by
  have hkN : k = N := by omega
  obtain ⟨fr', h1, h2, h3, h4⟩ := hC k fr st (by omega) hp gi hq
  rw [decide_eq_false (by omega)] at h3
  refine .inl ⟨fr', st, ?_, hp.trans ⟨h2.1, fun x hx => h2.2 x (List.mem_cons_of_mem _ hx)⟩, hkN ▸ h4⟩
  rw [aloop]
  simp only [amE, reduceEqDiff, ↓reduceIte, reduceCtorEq, reduceAdd, lb2, h1, h3]
 | j + 1, k, fr, st, fuel + 1, hk, hf, hp, gi, hq => by
  obtain ⟨fr', h1, h2, h3, h4⟩ := hC k fr st (by omega) hp gi hq
  rw [decide_eq_true (by omega)] at h3
  have hp' : Kp L fr0 fr' := hp.trans ⟨h2.1, fun x hx => h2.2 x (List.mem_cons_of_mem _ hx)⟩
  have gi' : fr'.get i = some (.int .i64 (.ofNat k)) := h2.at List.mem_cons_self gi
  have had := add1 (i := k) (by omega)
  rcases hB k fr' st (by omega) hp' gi' h4 with ⟨FR, st', hb, hkp, hq'⟩ | ⟨FR, st', hb, hpo⟩
  ·have gi2 : FR.get i = some (.int .i64 (.ofNat k)) := hkp.at List.mem_cons_self gi'
   have hkL : Kp L fr0 FR := hp'.trans ⟨hkp.1, fun x hx => hkp.2 x (List.mem_cons_of_mem _ hx)⟩
   have hst : acode Γ Y m (lb2 c i j1 j2 b b1 C B) ro fr st = .norm (((FR.set j1 (some (.int .i64 (.ofNat k)))).set j2 (some (.int .i64 (.ofNat (k + 1))))).set i (some (.int .i64 (.ofNat (k + 1))))) st' := by
    simp only [amE, reduceEqDiff, ↓reduceIte, reduceCtorEq, reduceAdd, lb2, h1, h3, hb, gi2, had]
   rcases floop hi hj1 hj2 hN hQ hC hB j (k + 1) (((FR.set j1 (some (.int .i64 (.ofNat k)))).set j2 (some (.int .i64 (.ofNat (k + 1))))).set i (some (.int .i64 (.ofNat (k + 1))))) st' fuel (by omega) (by omega)
    (Kp.set hi (Kp.set hj2 (Kp.set hj1 hkL))) (by rw [Fr.get_set, if_pos rfl]) (hQ _ _ _ _ _ (.inl rfl) (hQ _ _ _ _ _ (.inr (.inr rfl)) (hQ _ _ _ _ _ (.inr (.inl rfl)) hq'))) with ⟨F2, s2, h, h2⟩ | ⟨F2, s2, h, h2⟩
   ·refine .inl ⟨F2, s2, ?_, h2⟩
    rw [aloop, hst]
    exact h
   ·refine .inr ⟨F2, s2, ?_, h2⟩
    rw [aloop, hst]
    exact h
  ·refine .inr ⟨FR, st', ?_, hpo⟩
   rw [aloop]
   simp only [amE, reduceEqDiff, ↓reduceIte, reduceCtorEq, reduceAdd, lb2, h1, h3, hb]
theorem lssD (k n : Nat) : binB false .lss (.int .i64 (.ofNat k)) (.int .i64 (.ofNat n)) = some (.bool (decide (k < n))) := lssN k n
theorem subW (a : Int) : binB false .sub (.int .i64 a) (.int .i64 (.ofNat 1)) = some (.int .i64 (sw a 1)) := rfl
theorem addW (a : Int) : binB false .add (.int .i64 a) (.int .i64 (.ofNat 1)) = some (.int .i64 (aw a 1)) := rfl
theorem ex20 (a b : AV) : extractA 0 (.tuple [a, b]) = some a := rfl
theorem ex21 (a b : AV) : extractA 1 (.tuple [a, b]) = some b := rfl
def g165_0 : List MOper := [⟨(some 28), .faddr 2 (.t 3), none⟩, ⟨(some 29), .load false 1 (.t 28), none⟩, ⟨(some 30), .mv (.t 8), none⟩, ⟨(some 31), .iaddr 3 (.t 29) (.t 30), none⟩, ⟨(some 32), .load true 3 (.t 31), none⟩, ⟨(some 33), .mv (.t 1), none⟩, ⟨(some 34), .mv (.t 2), none⟩, ⟨(some 35), .bin false .add (.t 34) (.c (.int .i64 (.ofNat 1))), none⟩, ⟨(some 36), .call (.c (.func (.func 165) [] [])) [(.t 32), (.t 33), (.t 35)], none⟩, ⟨(some 27), .mv (.t 36), none⟩, ⟨(some 37), .extract 0 (.t 27), none⟩, ⟨(some 38), .extract 1 (.t 27), none⟩, ⟨(some 9), .mv (.t 37), none⟩, ⟨(some 10), .mv (.t 38), none⟩]
def g165_5 : List MOper := [⟨(some 11), .mv (.t 1), none⟩, ⟨(some 12), .bin false .sub (.t 11) (.c (.int .i64 (.ofNat 1))), none⟩, ⟨(some 1), .mv (.t 12), none⟩]
def g165_6 : List MOper := [⟨(some 13), .mv (.t 1), none⟩, ⟨(some 14), .bin false .lss (.t 13) (.c (.int .i64 (.ofNat 0))), none⟩, ⟨(some 15), .mv (.t 14), none⟩, ⟨(some 16), .mv (.t 2), (some (15, false))⟩, ⟨(some 17), .bin false .gtr (.t 16) (.c (.int .i64 (.ofNat 200))), (some (15, false))⟩, ⟨(some 18), .pick (.t 15) (.c (.bool true)) (.t 17), none⟩]
def bf165_0 : MCode := (.seq (.region g165_0)
 (.seq (.region [⟨(some 39), .mv (.t 9), none⟩, ⟨(some 1), .mv (.t 39), none⟩])
 (.seq (.region [⟨(some 40), .mv (.t 10), none⟩, ⟨(some 41), .un .not (.t 40), none⟩])
 (.cond (.t 41)
 (.seq (.region [⟨(some 42), .mv (.t 1), none⟩, ⟨(some 6), .mv (.t 42), none⟩, ⟨(some 7), .mv (.c (.bool false)), none⟩])
 .ret)
 .skip))))
def cf165_0 : List MOper := [⟨(some 20), .mv (.t 8), none⟩, ⟨(some 21), .faddr 2 (.t 3), none⟩, ⟨(some 22), .load false 1 (.t 21), none⟩, ⟨(some 23), .len 0 (.t 22), none⟩, ⟨(some 24), .bin false .lss (.t 20) (.t 23), none⟩]
def kf165 : MFunc := ⟨44, (.seq (.region [⟨(some 3), .box true (.t 0), none⟩, ⟨(some 6), .mv (.c (.int .i64 (.ofNat 0))), none⟩, ⟨(some 7), .mv (.c (.bool false)), none⟩])
 (.seq (.region g165_5)
 (.seq (.seq (.region g165_6)
 (.cond (.t 18)
 (.seq (.region [⟨(some 19), .mv (.t 1), none⟩, ⟨(some 6), .mv (.t 19), none⟩, ⟨(some 7), .mv (.c (.bool false)), none⟩])
 .ret)
 .skip))
 (.seq (.seq (.region [⟨(some 8), .mv (.c (.int .i64 (.ofNat 0))), none⟩])
 (.block 0 (.loop (lb2 24 8 25 26 0 1 cf165_0 bf165_0))))
 (.seq (.region [⟨(some 43), .mv (.t 1), none⟩, ⟨(some 6), .mv (.t 43), none⟩, ⟨(some 7), .mv (.c (.bool true)), none⟩])
 .ret))))), [.t 6, .t 7]⟩
theorem t165 : tbl 165 = some kf165 := by kernel_rfl
theorem counted165 (t : Tm) : ∀ (n : Nat) (Y : Yenv) (F : Nat -> Prop) (st : St) (left deep : Int) (cs : List AV), RepT F st t cs -> t.fz <= n ->
  R n Y 165 [.agg cs, .int .i64 left, .int .i64 deep] st = .ret (.tuple [.int .i64 (rcT t left deep).1, .bool (rcT t left deep).2]) st := by
 induction hs : t.fz using Nat.strongRecOn generalizing t with
 | _ s ih =>
 intro n Y F st left deep cs hr hn
 cases t with
 | mk k0 n0 nl ex l =>
 simp only [RepT] at hr
 obtain ⟨sl, xs, rfl, hsl, hrs⟩ := hr
 simp only [Tm.fz] at hs
 obtain ⟨m, rfl⟩ : ∃ m, n = m + 1 := ⟨n - 1, by omega⟩
 have b00 : Nat.beq 0 0 = true := rfl
 have hxl := hrs.len
 have hlen := hsl.len st
 have e1 : binB false .lss (.int .i64 (sw left 1)) (.int .i64 (.ofNat 0)) = some (.bool (decide (sw left 1 < 0))) := rfl
 have e2 : binB false .gtr (.int .i64 deep) (.int .i64 (.ofNat 200)) = some (.bool (decide (deep > 200))) := rfl
 unfold rcT
 obtain ⟨fA1, hA1⟩ : ∃ fA, fA = frOf 0 [.agg [.int .i64 k0, .int .i64 n0, sl], .int .i64 left, .int .i64 deep] Fr.nil := ⟨_, rfl⟩
 have gA1_0 : fA1.get 0 = some (.agg [.int .i64 k0, .int .i64 n0, sl]) := by rw [hA1]; simp only [frOf, Fr.get_set, reduceAdd, reduceEqDiff, ↓reduceIte]
 have gA1_1 : fA1.get 1 = some (.int .i64 left) := by rw [hA1]; simp only [frOf, Fr.get_set, reduceAdd, reduceEqDiff, ↓reduceIte]
 have gA1_2 : fA1.get 2 = some (.int .i64 deep) := by rw [hA1]; simp only [frOf, Fr.get_set, reduceAdd, reduceEqDiff, ↓reduceIte]
 have dA1 : fA1.ds = [] := by rw [hA1]; rfl
 obtain ⟨fR2, hR2, kR2, oR2_3, oR2_6, oR2_7⟩ : ∃ fr', arun ((gT m).cg Y) [⟨(some 3), .box true (.t 0), none⟩, ⟨(some 6), .mv (.c (.int .i64 (.ofNat 0))), none⟩, ⟨(some 7), .mv (.c (.bool false)), none⟩] fA1 st = .ok fr' st /\ Kp [1, 2] fA1 fr' /\ fr'.get 3 = some (.fptr [.int .i64 k0, .int .i64 n0, sl] 0) /\ fr'.get 6 = some (.int .i64 (.ofNat 0)) /\ fr'.get 7 = some (.bool false) := ⟨_, by simp only [amE, reduceEqDiff, ↓reduceIte, reduceCtorEq, reduceAdd, gA1_0] <;> rfl, Kp.refl.s.s.s, gn (gn gh), gn gh, gh⟩
 have gR2_1 := kR2.g 1 gA1_1
 have gR2_2 := kR2.g 2 gA1_2
 have dR2 := kR2.1.trans dA1
 obtain ⟨fR3, hR3, kR3, oR3_1⟩ : ∃ fr', arun ((gT m).cg Y) g165_5 fR2 st = .ok fr' st /\ Kp [2, 3] fR2 fr' /\ fr'.get 1 = some (.int .i64 (sw left 1)) := ⟨_, by simp only [amE, reduceEqDiff, ↓reduceIte, reduceCtorEq, reduceAdd, gR2_1, g165_5, subW] <;> rfl, Kp.refl.s.s.s, gh⟩
 have gR3_2 := kR3.g 2 gR2_2
 have gR3_3 := kR3.g 3 oR2_3
 have dR3 := kR3.1.trans dR2
 by_cases c1 : sw left 1 < 0
 ·rw [if_pos c1]
  have hB1 := decide_eq_true c1
  obtain ⟨fR4, hR4, kR4, oR4_18⟩ : ∃ fr', arun ((gT m).cg Y) g165_6 fR3 st = .ok fr' st /\ Kp [1, 2, 3] fR3 fr' /\ fr'.get 18 = some (.bool true) := ⟨_, by simp only [amE, reduceEqDiff, ↓reduceIte, reduceCtorEq, reduceAdd, gR3_2, oR3_1, g165_6, e1, e2, hB1, Bool.not_true, Bool.not_false] <;> rfl, Kp.refl.s.s.s.s.s.s, by simp only [Fr.get_set, reduceEqDiff, ↓reduceIte, amB]⟩
  have gR4_1 := kR4.g 1 oR3_1
  have dR4 := kR4.1.trans dR3
  obtain ⟨fR5, hR5, kR5, oR5_6, oR5_7⟩ : ∃ fr', arun ((gT m).cg Y) [⟨(some 19), .mv (.t 1), none⟩, ⟨(some 6), .mv (.t 19), none⟩, ⟨(some 7), .mv (.c (.bool false)), none⟩] fR4 st = .ok fr' st /\ Kp [] fR4 fr' /\ fr'.get 6 = some (.int .i64 (sw left 1)) /\ fr'.get 7 = some (.bool false) := ⟨_, by simp only [amE, reduceEqDiff, ↓reduceIte, reduceCtorEq, reduceAdd, gR4_1] <;> rfl, Kp.refl.s.s.s, gn gh, gh⟩
  have dR5 := kR5.1.trans dR4
  refine fun_of (mf := kf165) (fr := fR5) t165 rfl (.inl ?q5) dR5 (by simp only [kf165, amE, oR5_6, oR5_7])
  case q5 =>
   rw [<- hA1]
   simp only [amE, reduceEqDiff, ↓reduceIte, reduceCtorEq, reduceAdd, kf165, b00, hR2, hR3, hR4, hR5, oR4_18]
 rw [if_neg c1]
 have hB1 := decide_eq_false c1
 by_cases c2 : deep > 200
 ·rw [if_pos c2]
  have hB2 := decide_eq_true c2
  obtain ⟨fR6, hR6, kR6, oR6_18⟩ : ∃ fr', arun ((gT m).cg Y) g165_6 fR3 st = .ok fr' st /\ Kp [1, 2, 3] fR3 fr' /\ fr'.get 18 = some (.bool true) := ⟨_, by simp only [amE, reduceEqDiff, ↓reduceIte, reduceCtorEq, reduceAdd, gR3_2, oR3_1, g165_6, e1, e2, hB1, hB2, Bool.not_true, Bool.not_false] <;> rfl, Kp.refl.s.s.s.s.s.s, by simp only [Fr.get_set, reduceEqDiff, ↓reduceIte, amB]⟩
  have gR6_1 := kR6.g 1 oR3_1
  have dR6 := kR6.1.trans dR3
  obtain ⟨fR7, hR7, kR7, oR7_6, oR7_7⟩ : ∃ fr', arun ((gT m).cg Y) [⟨(some 19), .mv (.t 1), none⟩, ⟨(some 6), .mv (.t 19), none⟩, ⟨(some 7), .mv (.c (.bool false)), none⟩] fR6 st = .ok fr' st /\ Kp [] fR6 fr' /\ fr'.get 6 = some (.int .i64 (sw left 1)) /\ fr'.get 7 = some (.bool false) := ⟨_, by simp only [amE, reduceEqDiff, ↓reduceIte, reduceCtorEq, reduceAdd, gR6_1] <;> rfl, Kp.refl.s.s.s, gn gh, gh⟩
  have dR7 := kR7.1.trans dR6
  refine fun_of (mf := kf165) (fr := fR7) t165 rfl (.inl ?q7) dR7 (by simp only [kf165, amE, oR7_6, oR7_7])
  case q7 =>
   rw [<- hA1]
   simp only [amE, reduceEqDiff, ↓reduceIte, reduceCtorEq, reduceAdd, kf165, b00, hR2, hR3, hR6, hR7, oR6_18]
 rw [if_neg c2]
 have hB2 := decide_eq_false c2
 obtain ⟨fR8, hR8, kR8, oR8_18⟩ : ∃ fr', arun ((gT m).cg Y) g165_6 fR3 st = .ok fr' st /\ Kp [1, 2, 3] fR3 fr' /\ fr'.get 18 = some (.bool false) := ⟨_, by simp only [amE, reduceEqDiff, ↓reduceIte, reduceCtorEq, reduceAdd, gR3_2, oR3_1, g165_6, e1, e2, hB1, hB2, Bool.not_true, Bool.not_false] <;> rfl, Kp.refl.s.s.s.s.s.s, by simp only [Fr.get_set, reduceEqDiff, ↓reduceIte, amB]⟩
 have gR8_1 := kR8.g 1 oR3_1
 have gR8_2 := kR8.g 2 gR3_2
 have gR8_3 := kR8.g 3 gR3_3
 have dR8 := kR8.1.trans dR3
 obtain ⟨fR9, hR9, kR9, oR9_8⟩ : ∃ fr', arun ((gT m).cg Y) [⟨(some 8), .mv (.c (.int .i64 (.ofNat 0))), none⟩] fR8 st = .ok fr' st /\ Kp [1, 2, 3] fR8 fr' /\ fr'.get 8 = some (.int .i64 (.ofNat 0)) := ⟨_, by simp only [amE, reduceEqDiff, ↓reduceIte, reduceCtorEq, reduceAdd] <;> rfl, Kp.refl.s, gh⟩
 have gR9_1 := kR9.g 1 gR8_1
 have gR9_2 := kR9.g 2 gR8_2
 have gR9_3 := kR9.g 3 gR8_3
 have dR9 := kR9.1.trans dR8
 have hC : ∀ k fr s, k <= xs.length -> Kp [2, 3] fR9 fr -> fr.get 8 = some (.int .i64 (.ofNat k)) -> (s = st /\ ∃ lf, fr.get 1 = some (.int .i64 lf) /\ rcL (l.drop k) lf deep = (rcL l (sw left 1) deep)) ->
   ∃ fr', arun ((gT m).cg Y) cf165_0 fr s = .ok fr' s /\ Kp [8, 2, 3] fr fr' /\ fr'.get 24 = some (.bool (decide (k < xs.length))) /\ (s = st /\ ∃ lf, fr'.get 1 = some (.int .i64 lf) /\ rcL (l.drop k) lf deep = (rcL l (sw left 1) deep)) := by
  intro k fr s hk hkp g8 ⟨hst, lf, q1, hq⟩
  subst hst
  have q3 := hkp.at (k := 3) (by decide) gR9_3
  refine ⟨?c0, ?c1, ?c2, ?c3, rfl, lf, ?c4, hq⟩
  case c1 =>
   simp only [amE, reduceEqDiff, ↓reduceIte, reduceCtorEq, reduceAdd, cf165_0, q3, g8, faf, ld2f, hlen, lssD]
   rfl
  case c2 => repeat (first | exact Kp.refl | refine Kp.set (by decide) ?_)
  case c3 => simp only [Fr.get_set, reduceEqDiff, ↓reduceIte]
  case c4 => simp only [Fr.get_set, reduceEqDiff, ↓reduceIte, q1]
 have hB : ∀ k fr s, k < xs.length -> Kp [2, 3] fR9 fr -> fr.get 8 = some (.int .i64 (.ofNat k)) -> (s = st /\ ∃ lf, fr.get 1 = some (.int .i64 lf) /\ rcL (l.drop k) lf deep = (rcL l (sw left 1) deep)) ->
   (∃ FR s', acode (gT m) Y m bf165_0 none fr s = .norm FR s' /\ Kp [8, 2, 3] fr FR /\ (s' = st /\ ∃ lf, FR.get 1 = some (.int .i64 lf) /\ rcL (l.drop (k + 1)) lf deep = (rcL l (sw left 1) deep))) ∨
   (∃ FR s', acode (gT m) Y m bf165_0 none fr s = .ret FR s' /\ (s' = st /\ FR.ds = [] /\ FR.get 6 = some (.int .i64 (rcL l (sw left 1) deep).1) /\ FR.get 7 = some (.bool (rcL l (sw left 1) deep).2))) := by
  intro k fr s hk hkp g8 ⟨hst, lf, q1, hq⟩
  subst hst
  obtain ⟨t, ht, hdr⟩ := drop_at (l := l) (k := k) (by omega)
  obtain ⟨x, hx, hrx⟩ := hrs.at ht
  obtain ⟨p, ia, ld⟩ := hsl.at hx
  have ld := ld s (Same.refl _ _)
  have hfz := Tm.fzL_mem (List.mem_of_getElem? ht)
  have hcall : ((gT m).cg Y).fn 165 [.agg x, .int .i64 lf, .int .i64 (aw deep 1)] s = .ret (.tuple [.int .i64 (rcT t lf (aw deep 1)).1, .bool (rcT t lf (aw deep 1)).2]) s := ih t.fz (by omega) t rfl m Y F s lf (aw deep 1) x hrx (by omega)
  have q2 := hkp.at (k := 2) (by decide) gR9_2
  have q3 := hkp.at (k := 3) (by decide) gR9_3
  rw [hdr, rcL_cons] at hq
  generalize (rcT t lf (aw deep 1)).1 = L2 at *
  generalize (rcT t lf (aw deep 1)).2 = ok at *
  obtain ⟨fR10, hR10, kR10, oR10_9, oR10_10⟩ : ∃ fr', arun ((gT m).cg Y) g165_0 fr s = .ok fr' s /\ Kp [8, 2, 3] fr fr' /\ fr'.get 9 = some (.int .i64 L2) /\ fr'.get 10 = some (.bool ok) := ⟨_, by simp only [amE, reduceEqDiff, ↓reduceIte, reduceCtorEq, reduceAdd, q1, q2, q3, g8, g165_0, faf, ld2f, ia, ld, addW, hcall, ex20, ex21] <;> rfl, Kp.refl.s.s.s.s.s.s.s.s.s.s.s.s.s.s, gn gh, gh⟩
  obtain ⟨fR11, hR11, kR11, oR11_1⟩ : ∃ fr', arun ((gT m).cg Y) [⟨(some 39), .mv (.t 9), none⟩, ⟨(some 1), .mv (.t 39), none⟩] fR10 s = .ok fr' s /\ Kp [8, 2, 3, 10] fR10 fr' /\ fr'.get 1 = some (.int .i64 L2) := ⟨_, by simp only [amE, reduceEqDiff, ↓reduceIte, reduceCtorEq, reduceAdd, oR10_9] <;> rfl, Kp.refl.s.s, gh⟩
  have gR11_10 := kR11.g 10 oR10_10
  obtain ⟨fR12, hR12, kR12, oR12_41⟩ : ∃ fr', arun ((gT m).cg Y) [⟨(some 40), .mv (.t 10), none⟩, ⟨(some 41), .un .not (.t 40), none⟩] fR11 s = .ok fr' s /\ Kp [8, 2, 3, 1] fR11 fr' /\ fr'.get 41 = some (.bool (!ok)) := ⟨_, by simp only [amE, reduceEqDiff, ↓reduceIte, reduceCtorEq, reduceAdd, gR11_10, unN, Bool.not_true, Bool.not_false] <;> rfl, Kp.refl.s.s, gh⟩
  have gR12_1 := kR12.g 1 oR11_1
  cases ok with
  | true =>
   rw [if_pos rfl] at hq
   refine .inl ⟨fR12, s, ?q12, (((kR10.sub (by decide)).trans (kR11.sub (by decide))).trans (kR12.sub (by decide))), rfl, L2, gR12_1, hq⟩
   case q12 => simp only [amE, reduceEqDiff, ↓reduceIte, reduceCtorEq, reduceAdd, bf165_0, hR10, hR11, hR12, oR12_41, Bool.not_true]
  | false =>
   obtain ⟨fR13, hR13, kR13, oR13_6, oR13_7⟩ : ∃ fr', arun ((gT m).cg Y) [⟨(some 42), .mv (.t 1), none⟩, ⟨(some 6), .mv (.t 42), none⟩, ⟨(some 7), .mv (.c (.bool false)), none⟩] fR12 s = .ok fr' s /\ Kp [8, 2, 3] fR12 fr' /\ fr'.get 6 = some (.int .i64 L2) /\ fr'.get 7 = some (.bool false) := ⟨_, by simp only [amE, reduceEqDiff, ↓reduceIte, reduceCtorEq, reduceAdd, gR12_1] <;> rfl, Kp.refl.s.s.s, gn gh, gh⟩
   rw [if_neg (by decide)] at hq
   refine .inr ⟨fR13, s, ?q13, rfl, (kR13.1.trans (kR12.1.trans (kR11.1.trans (kR10.1.trans (hkp.1.trans dR9))))), ?y13, ?z13⟩
   case q13 => simp only [amE, reduceEqDiff, ↓reduceIte, reduceCtorEq, reduceAdd, bf165_0, hR10, hR11, hR12, hR13, oR12_41, Bool.not_false]
   case y13 => rw [<- hq]; exact oR13_6
   case z13 => rw [<- hq]; exact oR13_7
 rcases floop (Γ := (gT m)) (Y := Y) (m := m) (N := xs.length) (c := 24) (i := 8) (j1 := 25) (j2 := 26) (b := 0) (b1 := 1) (ro := none) (C := cf165_0) (B := bf165_0) (L := [2, 3]) (fr0 := fR9) (by decide) (by decide) (by decide) hsl.2.1
  (Q := fun k fr s => s = st /\ ∃ lf, fr.get 1 = some (.int .i64 lf) /\ rcL (l.drop k) lf deep = (rcL l (sw left 1) deep)) (fun k fr s x v hx ⟨h1, lf, h2, h3⟩ => ⟨h1, lf, by rw [Fr.get_set, if_neg (by omega)]; exact h2, h3⟩) hC hB xs.length 0 fR9 st m (by omega) (by omega) Kp.refl oR9_8 ⟨rfl, _, gR9_1, rfl⟩
  with ⟨FR, s', h1, h2, h3, lf, h4, h5⟩ | ⟨FR, s', h1, h2, h3, h4, h5⟩
 ·subst h3
  rw [hxl, List.drop_length, rcL_nil] at h5
  rw [<- h5]
  refine fun_of (mf := kf165) (fr := ((FR.set 43 (some (.int .i64 lf))).set 6 (some (.int .i64 lf))).set 7 (some (.bool true))) t165 rfl (.inl ?w1) (h2.1.trans dR9) ?w2
  case w1 =>
   rw [<- hA1]
   simp only [amE, reduceEqDiff, ↓reduceIte, reduceCtorEq, reduceAdd, kf165, b00, hR2, hR3, hR8, hR9, oR8_18, h1, h4]
  case w2 => simp only [kf165, amE, Fr.get_set, reduceEqDiff, ↓reduceIte]
 ·subst h2
  refine fun_of (mf := kf165) (fr := FR) t165 rfl (.inl ?w3) h3 (by simp only [kf165, amE, h4, h5])
  case w3 =>
   rw [<- hA1]
   simp only [amE, reduceEqDiff, ↓reduceIte, reduceCtorEq, reduceAdd, kf165, b00, hR2, hR3, hR8, hR9, oR8_18, h1]
def g47_0 : List MOper := [⟨(some 28), .faddr 2 (.t 3), none⟩, ⟨(some 29), .load false 1 (.t 28), none⟩, ⟨(some 30), .mv (.t 8), none⟩, ⟨(some 31), .iaddr 3 (.t 29) (.t 30), none⟩, ⟨(some 32), .load true 3 (.t 31), none⟩, ⟨(some 33), .mv (.t 1), none⟩, ⟨(some 34), .mv (.t 2), none⟩, ⟨(some 35), .bin false .add (.t 34) (.c (.int .i64 (.ofNat 1))), none⟩, ⟨(some 36), .call (.c (.func (.func 47) [] [])) [(.t 32), (.t 33), (.t 35)], none⟩, ⟨(some 27), .mv (.t 36), none⟩, ⟨(some 37), .extract 0 (.t 27), none⟩, ⟨(some 38), .extract 1 (.t 27), none⟩, ⟨(some 9), .mv (.t 37), none⟩, ⟨(some 10), .mv (.t 38), none⟩]
def g47_5 : List MOper := [⟨(some 11), .mv (.t 1), none⟩, ⟨(some 12), .bin false .sub (.t 11) (.c (.int .i64 (.ofNat 1))), none⟩, ⟨(some 1), .mv (.t 12), none⟩]
def g47_6 : List MOper := [⟨(some 13), .mv (.t 1), none⟩, ⟨(some 14), .bin false .lss (.t 13) (.c (.int .i64 (.ofNat 0))), none⟩, ⟨(some 15), .mv (.t 14), none⟩, ⟨(some 16), .mv (.t 2), (some (15, false))⟩, ⟨(some 17), .bin false .gtr (.t 16) (.c (.int .i64 (.ofNat 400))), (some (15, false))⟩, ⟨(some 18), .pick (.t 15) (.c (.bool true)) (.t 17), none⟩]
def bf47_0 : MCode := (.seq (.region g47_0)
 (.seq (.region [⟨(some 39), .mv (.t 9), none⟩, ⟨(some 1), .mv (.t 39), none⟩])
 (.seq (.region [⟨(some 40), .mv (.t 10), none⟩, ⟨(some 41), .un .not (.t 40), none⟩])
 (.cond (.t 41)
 (.seq (.region [⟨(some 42), .mv (.t 1), none⟩, ⟨(some 6), .mv (.t 42), none⟩, ⟨(some 7), .mv (.c (.bool false)), none⟩])
 .ret)
 .skip))))
def cf47_0 : List MOper := [⟨(some 20), .mv (.t 8), none⟩, ⟨(some 21), .faddr 2 (.t 3), none⟩, ⟨(some 22), .load false 1 (.t 21), none⟩, ⟨(some 23), .len 0 (.t 22), none⟩, ⟨(some 24), .bin false .lss (.t 20) (.t 23), none⟩]
def kf47 : MFunc := ⟨44, (.seq (.region [⟨(some 3), .box true (.t 0), none⟩, ⟨(some 6), .mv (.c (.int .i64 (.ofNat 0))), none⟩, ⟨(some 7), .mv (.c (.bool false)), none⟩])
 (.seq (.region g47_5)
 (.seq (.seq (.region g47_6)
 (.cond (.t 18)
 (.seq (.region [⟨(some 19), .mv (.t 1), none⟩, ⟨(some 6), .mv (.t 19), none⟩, ⟨(some 7), .mv (.c (.bool false)), none⟩])
 .ret)
 .skip))
 (.seq (.seq (.region [⟨(some 8), .mv (.c (.int .i64 (.ofNat 0))), none⟩])
 (.block 0 (.loop (lb2 24 8 25 26 0 1 cf47_0 bf47_0))))
 (.seq (.region [⟨(some 43), .mv (.t 1), none⟩, ⟨(some 6), .mv (.t 43), none⟩, ⟨(some 7), .mv (.c (.bool true)), none⟩])
 .ret))))), [.t 6, .t 7]⟩
theorem t47 : tbl 47 = some kf47 := by kernel_rfl
theorem counted47 (t : Dv) : ∀ (n : Nat) (Y : Yenv) (F : Nat -> Prop) (st : St) (left deep : Int) (cs : List AV), RepD F st t cs -> t.fz <= n ->
  R n Y 47 [.agg cs, .int .i64 left, .int .i64 deep] st = .ret (.tuple [.int .i64 (rcD t left deep).1, .bool (rcD t left deep).2]) st := by
 induction hs : t.fz using Nat.strongRecOn generalizing t with
 | _ s ih =>
 intro n Y F st left deep cs hr hn
 cases t with
 | mk r nv ev vs nl ex l =>
 simp only [RepD] at hr
 obtain ⟨sv, xv, sl, xs, rfl, -, -, hsl, hrs⟩ := hr
 simp only [Dv.fz] at hs
 obtain ⟨m, rfl⟩ : ∃ m, n = m + 1 := ⟨n - 1, by omega⟩
 have b00 : Nat.beq 0 0 = true := rfl
 have hxl := hrs.len
 have hlen := hsl.len st
 have e1 : binB false .lss (.int .i64 (sw left 1)) (.int .i64 (.ofNat 0)) = some (.bool (decide (sw left 1 < 0))) := rfl
 have e2 : binB false .gtr (.int .i64 deep) (.int .i64 (.ofNat 400)) = some (.bool (decide (deep > 400))) := rfl
 unfold rcD
 obtain ⟨fA14, hA14⟩ : ∃ fA, fA = frOf 0 [.agg [.int .i64 r, sv, sl], .int .i64 left, .int .i64 deep] Fr.nil := ⟨_, rfl⟩
 have gA14_0 : fA14.get 0 = some (.agg [.int .i64 r, sv, sl]) := by rw [hA14]; simp only [frOf, Fr.get_set, reduceAdd, reduceEqDiff, ↓reduceIte]
 have gA14_1 : fA14.get 1 = some (.int .i64 left) := by rw [hA14]; simp only [frOf, Fr.get_set, reduceAdd, reduceEqDiff, ↓reduceIte]
 have gA14_2 : fA14.get 2 = some (.int .i64 deep) := by rw [hA14]; simp only [frOf, Fr.get_set, reduceAdd, reduceEqDiff, ↓reduceIte]
 have dA14 : fA14.ds = [] := by rw [hA14]; rfl
 obtain ⟨fR15, hR15, kR15, oR15_3, oR15_6, oR15_7⟩ : ∃ fr', arun ((gT m).cg Y) [⟨(some 3), .box true (.t 0), none⟩, ⟨(some 6), .mv (.c (.int .i64 (.ofNat 0))), none⟩, ⟨(some 7), .mv (.c (.bool false)), none⟩] fA14 st = .ok fr' st /\ Kp [1, 2] fA14 fr' /\ fr'.get 3 = some (.fptr [.int .i64 r, sv, sl] 0) /\ fr'.get 6 = some (.int .i64 (.ofNat 0)) /\ fr'.get 7 = some (.bool false) := ⟨_, by simp only [amE, reduceEqDiff, ↓reduceIte, reduceCtorEq, reduceAdd, gA14_0] <;> rfl, Kp.refl.s.s.s, gn (gn gh), gn gh, gh⟩
 have gR15_1 := kR15.g 1 gA14_1
 have gR15_2 := kR15.g 2 gA14_2
 have dR15 := kR15.1.trans dA14
 obtain ⟨fR16, hR16, kR16, oR16_1⟩ : ∃ fr', arun ((gT m).cg Y) g47_5 fR15 st = .ok fr' st /\ Kp [2, 3] fR15 fr' /\ fr'.get 1 = some (.int .i64 (sw left 1)) := ⟨_, by simp only [amE, reduceEqDiff, ↓reduceIte, reduceCtorEq, reduceAdd, gR15_1, g47_5, subW] <;> rfl, Kp.refl.s.s.s, gh⟩
 have gR16_2 := kR16.g 2 gR15_2
 have gR16_3 := kR16.g 3 oR15_3
 have dR16 := kR16.1.trans dR15
 by_cases c1 : sw left 1 < 0
 ·rw [if_pos c1]
  have hB1 := decide_eq_true c1
  obtain ⟨fR17, hR17, kR17, oR17_18⟩ : ∃ fr', arun ((gT m).cg Y) g47_6 fR16 st = .ok fr' st /\ Kp [1, 2, 3] fR16 fr' /\ fr'.get 18 = some (.bool true) := ⟨_, by simp only [amE, reduceEqDiff, ↓reduceIte, reduceCtorEq, reduceAdd, gR16_2, oR16_1, g47_6, e1, e2, hB1, Bool.not_true, Bool.not_false] <;> rfl, Kp.refl.s.s.s.s.s.s, by simp only [Fr.get_set, reduceEqDiff, ↓reduceIte, amB]⟩
  have gR17_1 := kR17.g 1 oR16_1
  have dR17 := kR17.1.trans dR16
  obtain ⟨fR18, hR18, kR18, oR18_6, oR18_7⟩ : ∃ fr', arun ((gT m).cg Y) [⟨(some 19), .mv (.t 1), none⟩, ⟨(some 6), .mv (.t 19), none⟩, ⟨(some 7), .mv (.c (.bool false)), none⟩] fR17 st = .ok fr' st /\ Kp [] fR17 fr' /\ fr'.get 6 = some (.int .i64 (sw left 1)) /\ fr'.get 7 = some (.bool false) := ⟨_, by simp only [amE, reduceEqDiff, ↓reduceIte, reduceCtorEq, reduceAdd, gR17_1] <;> rfl, Kp.refl.s.s.s, gn gh, gh⟩
  have dR18 := kR18.1.trans dR17
  refine fun_of (mf := kf47) (fr := fR18) t47 rfl (.inl ?q18) dR18 (by simp only [kf47, amE, oR18_6, oR18_7])
  case q18 =>
   rw [<- hA14]
   simp only [amE, reduceEqDiff, ↓reduceIte, reduceCtorEq, reduceAdd, kf47, b00, hR15, hR16, hR17, hR18, oR17_18]
 rw [if_neg c1]
 have hB1 := decide_eq_false c1
 by_cases c2 : deep > 400
 ·rw [if_pos c2]
  have hB2 := decide_eq_true c2
  obtain ⟨fR19, hR19, kR19, oR19_18⟩ : ∃ fr', arun ((gT m).cg Y) g47_6 fR16 st = .ok fr' st /\ Kp [1, 2, 3] fR16 fr' /\ fr'.get 18 = some (.bool true) := ⟨_, by simp only [amE, reduceEqDiff, ↓reduceIte, reduceCtorEq, reduceAdd, gR16_2, oR16_1, g47_6, e1, e2, hB1, hB2, Bool.not_true, Bool.not_false] <;> rfl, Kp.refl.s.s.s.s.s.s, by simp only [Fr.get_set, reduceEqDiff, ↓reduceIte, amB]⟩
  have gR19_1 := kR19.g 1 oR16_1
  have dR19 := kR19.1.trans dR16
  obtain ⟨fR20, hR20, kR20, oR20_6, oR20_7⟩ : ∃ fr', arun ((gT m).cg Y) [⟨(some 19), .mv (.t 1), none⟩, ⟨(some 6), .mv (.t 19), none⟩, ⟨(some 7), .mv (.c (.bool false)), none⟩] fR19 st = .ok fr' st /\ Kp [] fR19 fr' /\ fr'.get 6 = some (.int .i64 (sw left 1)) /\ fr'.get 7 = some (.bool false) := ⟨_, by simp only [amE, reduceEqDiff, ↓reduceIte, reduceCtorEq, reduceAdd, gR19_1] <;> rfl, Kp.refl.s.s.s, gn gh, gh⟩
  have dR20 := kR20.1.trans dR19
  refine fun_of (mf := kf47) (fr := fR20) t47 rfl (.inl ?q20) dR20 (by simp only [kf47, amE, oR20_6, oR20_7])
  case q20 =>
   rw [<- hA14]
   simp only [amE, reduceEqDiff, ↓reduceIte, reduceCtorEq, reduceAdd, kf47, b00, hR15, hR16, hR19, hR20, oR19_18]
 rw [if_neg c2]
 have hB2 := decide_eq_false c2
 obtain ⟨fR21, hR21, kR21, oR21_18⟩ : ∃ fr', arun ((gT m).cg Y) g47_6 fR16 st = .ok fr' st /\ Kp [1, 2, 3] fR16 fr' /\ fr'.get 18 = some (.bool false) := ⟨_, by simp only [amE, reduceEqDiff, ↓reduceIte, reduceCtorEq, reduceAdd, gR16_2, oR16_1, g47_6, e1, e2, hB1, hB2, Bool.not_true, Bool.not_false] <;> rfl, Kp.refl.s.s.s.s.s.s, by simp only [Fr.get_set, reduceEqDiff, ↓reduceIte, amB]⟩
 have gR21_1 := kR21.g 1 oR16_1
 have gR21_2 := kR21.g 2 gR16_2
 have gR21_3 := kR21.g 3 gR16_3
 have dR21 := kR21.1.trans dR16
 obtain ⟨fR22, hR22, kR22, oR22_8⟩ : ∃ fr', arun ((gT m).cg Y) [⟨(some 8), .mv (.c (.int .i64 (.ofNat 0))), none⟩] fR21 st = .ok fr' st /\ Kp [1, 2, 3] fR21 fr' /\ fr'.get 8 = some (.int .i64 (.ofNat 0)) := ⟨_, by simp only [amE, reduceEqDiff, ↓reduceIte, reduceCtorEq, reduceAdd] <;> rfl, Kp.refl.s, gh⟩
 have gR22_1 := kR22.g 1 gR21_1
 have gR22_2 := kR22.g 2 gR21_2
 have gR22_3 := kR22.g 3 gR21_3
 have dR22 := kR22.1.trans dR21
 have hC : ∀ k fr s, k <= xs.length -> Kp [2, 3] fR22 fr -> fr.get 8 = some (.int .i64 (.ofNat k)) -> (s = st /\ ∃ lf, fr.get 1 = some (.int .i64 lf) /\ rcDL (l.drop k) lf deep = (rcDL l (sw left 1) deep)) ->
   ∃ fr', arun ((gT m).cg Y) cf47_0 fr s = .ok fr' s /\ Kp [8, 2, 3] fr fr' /\ fr'.get 24 = some (.bool (decide (k < xs.length))) /\ (s = st /\ ∃ lf, fr'.get 1 = some (.int .i64 lf) /\ rcDL (l.drop k) lf deep = (rcDL l (sw left 1) deep)) := by
  intro k fr s hk hkp g8 ⟨hst, lf, q1, hq⟩
  subst hst
  have q3 := hkp.at (k := 3) (by decide) gR22_3
  refine ⟨?c0, ?c1, ?c2, ?c3, rfl, lf, ?c4, hq⟩
  case c1 =>
   simp only [amE, reduceEqDiff, ↓reduceIte, reduceCtorEq, reduceAdd, cf47_0, q3, g8, faf, ld2f, hlen, lssD]
   rfl
  case c2 => repeat (first | exact Kp.refl | refine Kp.set (by decide) ?_)
  case c3 => simp only [Fr.get_set, reduceEqDiff, ↓reduceIte]
  case c4 => simp only [Fr.get_set, reduceEqDiff, ↓reduceIte, q1]
 have hB : ∀ k fr s, k < xs.length -> Kp [2, 3] fR22 fr -> fr.get 8 = some (.int .i64 (.ofNat k)) -> (s = st /\ ∃ lf, fr.get 1 = some (.int .i64 lf) /\ rcDL (l.drop k) lf deep = (rcDL l (sw left 1) deep)) ->
   (∃ FR s', acode (gT m) Y m bf47_0 none fr s = .norm FR s' /\ Kp [8, 2, 3] fr FR /\ (s' = st /\ ∃ lf, FR.get 1 = some (.int .i64 lf) /\ rcDL (l.drop (k + 1)) lf deep = (rcDL l (sw left 1) deep))) ∨
   (∃ FR s', acode (gT m) Y m bf47_0 none fr s = .ret FR s' /\ (s' = st /\ FR.ds = [] /\ FR.get 6 = some (.int .i64 (rcDL l (sw left 1) deep).1) /\ FR.get 7 = some (.bool (rcDL l (sw left 1) deep).2))) := by
  intro k fr s hk hkp g8 ⟨hst, lf, q1, hq⟩
  subst hst
  obtain ⟨t, ht, hdr⟩ := drop_at (l := l) (k := k) (by omega)
  obtain ⟨x, hx, hrx⟩ := hrs.at ht
  obtain ⟨p, ia, ld⟩ := hsl.at hx
  have ld := ld s (Same.refl _ _)
  have hfz := Dv.fzL_mem (List.mem_of_getElem? ht)
  have hcall : ((gT m).cg Y).fn 47 [.agg x, .int .i64 lf, .int .i64 (aw deep 1)] s = .ret (.tuple [.int .i64 (rcD t lf (aw deep 1)).1, .bool (rcD t lf (aw deep 1)).2]) s := ih t.fz (by omega) t rfl m Y F s lf (aw deep 1) x hrx (by omega)
  have q2 := hkp.at (k := 2) (by decide) gR22_2
  have q3 := hkp.at (k := 3) (by decide) gR22_3
  rw [hdr, rcDL_cons] at hq
  generalize (rcD t lf (aw deep 1)).1 = L2 at *
  generalize (rcD t lf (aw deep 1)).2 = ok at *
  obtain ⟨fR23, hR23, kR23, oR23_9, oR23_10⟩ : ∃ fr', arun ((gT m).cg Y) g47_0 fr s = .ok fr' s /\ Kp [8, 2, 3] fr fr' /\ fr'.get 9 = some (.int .i64 L2) /\ fr'.get 10 = some (.bool ok) := ⟨_, by simp only [amE, reduceEqDiff, ↓reduceIte, reduceCtorEq, reduceAdd, q1, q2, q3, g8, g47_0, faf, ld2f, ia, ld, addW, hcall, ex20, ex21] <;> rfl, Kp.refl.s.s.s.s.s.s.s.s.s.s.s.s.s.s, gn gh, gh⟩
  obtain ⟨fR24, hR24, kR24, oR24_1⟩ : ∃ fr', arun ((gT m).cg Y) [⟨(some 39), .mv (.t 9), none⟩, ⟨(some 1), .mv (.t 39), none⟩] fR23 s = .ok fr' s /\ Kp [8, 2, 3, 10] fR23 fr' /\ fr'.get 1 = some (.int .i64 L2) := ⟨_, by simp only [amE, reduceEqDiff, ↓reduceIte, reduceCtorEq, reduceAdd, oR23_9] <;> rfl, Kp.refl.s.s, gh⟩
  have gR24_10 := kR24.g 10 oR23_10
  obtain ⟨fR25, hR25, kR25, oR25_41⟩ : ∃ fr', arun ((gT m).cg Y) [⟨(some 40), .mv (.t 10), none⟩, ⟨(some 41), .un .not (.t 40), none⟩] fR24 s = .ok fr' s /\ Kp [8, 2, 3, 1] fR24 fr' /\ fr'.get 41 = some (.bool (!ok)) := ⟨_, by simp only [amE, reduceEqDiff, ↓reduceIte, reduceCtorEq, reduceAdd, gR24_10, unN, Bool.not_true, Bool.not_false] <;> rfl, Kp.refl.s.s, gh⟩
  have gR25_1 := kR25.g 1 oR24_1
  cases ok with
  | true =>
   rw [if_pos rfl] at hq
   refine .inl ⟨fR25, s, ?q25, (((kR23.sub (by decide)).trans (kR24.sub (by decide))).trans (kR25.sub (by decide))), rfl, L2, gR25_1, hq⟩
   case q25 => simp only [amE, reduceEqDiff, ↓reduceIte, reduceCtorEq, reduceAdd, bf47_0, hR23, hR24, hR25, oR25_41, Bool.not_true]
  | false =>
   obtain ⟨fR26, hR26, kR26, oR26_6, oR26_7⟩ : ∃ fr', arun ((gT m).cg Y) [⟨(some 42), .mv (.t 1), none⟩, ⟨(some 6), .mv (.t 42), none⟩, ⟨(some 7), .mv (.c (.bool false)), none⟩] fR25 s = .ok fr' s /\ Kp [8, 2, 3] fR25 fr' /\ fr'.get 6 = some (.int .i64 L2) /\ fr'.get 7 = some (.bool false) := ⟨_, by simp only [amE, reduceEqDiff, ↓reduceIte, reduceCtorEq, reduceAdd, gR25_1] <;> rfl, Kp.refl.s.s.s, gn gh, gh⟩
   rw [if_neg (by decide)] at hq
   refine .inr ⟨fR26, s, ?q26, rfl, (kR26.1.trans (kR25.1.trans (kR24.1.trans (kR23.1.trans (hkp.1.trans dR22))))), ?y26, ?z26⟩
   case q26 => simp only [amE, reduceEqDiff, ↓reduceIte, reduceCtorEq, reduceAdd, bf47_0, hR23, hR24, hR25, hR26, oR25_41, Bool.not_false]
   case y26 => rw [<- hq]; exact oR26_6
   case z26 => rw [<- hq]; exact oR26_7
 rcases floop (Γ := (gT m)) (Y := Y) (m := m) (N := xs.length) (c := 24) (i := 8) (j1 := 25) (j2 := 26) (b := 0) (b1 := 1) (ro := none) (C := cf47_0) (B := bf47_0) (L := [2, 3]) (fr0 := fR22) (by decide) (by decide) (by decide) hsl.2.1
  (Q := fun k fr s => s = st /\ ∃ lf, fr.get 1 = some (.int .i64 lf) /\ rcDL (l.drop k) lf deep = (rcDL l (sw left 1) deep)) (fun k fr s x v hx ⟨h1, lf, h2, h3⟩ => ⟨h1, lf, by rw [Fr.get_set, if_neg (by omega)]; exact h2, h3⟩) hC hB xs.length 0 fR22 st m (by omega) (by omega) Kp.refl oR22_8 ⟨rfl, _, gR22_1, rfl⟩
  with ⟨FR, s', h1, h2, h3, lf, h4, h5⟩ | ⟨FR, s', h1, h2, h3, h4, h5⟩
 ·subst h3
  rw [hxl, List.drop_length, rcDL_nil] at h5
  rw [<- h5]
  refine fun_of (mf := kf47) (fr := ((FR.set 43 (some (.int .i64 lf))).set 6 (some (.int .i64 lf))).set 7 (some (.bool true))) t47 rfl (.inl ?w1) (h2.1.trans dR22) ?w2
  case w1 =>
   rw [<- hA14]
   simp only [amE, reduceEqDiff, ↓reduceIte, reduceCtorEq, reduceAdd, kf47, b00, hR15, hR16, hR21, hR22, oR21_18, h1, h4]
  case w2 => simp only [kf47, amE, Fr.get_set, reduceEqDiff, ↓reduceIte]
 ·subst h2
  refine fun_of (mf := kf47) (fr := FR) t47 rfl (.inl ?w3) h3 (by simp only [kf47, amE, h4, h5])
  case w3 =>
   rw [<- hA14]
   simp only [amE, reduceEqDiff, ↓reduceIte, reduceCtorEq, reduceAdd, kf47, b00, hR15, hR16, hR21, hR22, oR21_18, h1]
def g166_0 : List MOper := [⟨(some 41), .faddr 2 (.t 1), none⟩, ⟨(some 42), .load false 1 (.t 41), none⟩, ⟨(some 43), .mv (.t 3), none⟩, ⟨(some 44), .iaddr 3 (.t 42) (.t 43), none⟩, ⟨(some 45), .load true 3 (.t 44), none⟩, ⟨(some 46), .call (.c (.func (.func 166) [] [])) [(.t 45)], none⟩, ⟨(some 47), .un .not (.t 46), none⟩]
def g166_3 : List MOper := [⟨(some 4), .faddr 1 (.t 1), none⟩, ⟨(some 5), .load false 1 (.t 4), none⟩, ⟨(some 6), .bin false .lss (.t 5) (.c (.int .i64 (.ofNat 0))), none⟩, ⟨(some 7), .mv (.t 6), none⟩, ⟨(some 8), .faddr 0 (.t 1), (some (7, false))⟩, ⟨(some 9), .load false 1 (.t 8), (some (7, false))⟩, ⟨(some 10), .bin false .neq (.t 9) (.c (.int .i64 (.ofNat 1))), (some (7, false))⟩, ⟨(some 11), .mv (.t 10), (some (7, false))⟩, ⟨(some 12), .faddr 0 (.t 1), (some (11, true))⟩, ⟨(some 13), .load false 1 (.t 12), (some (11, true))⟩, ⟨(some 14), .bin false .neq (.t 13) (.c (.int .i64 (.ofNat 2))), (some (11, true))⟩, ⟨(some 15), .pick (.t 11) (.t 14) (.c (.bool false)), (some (7, false))⟩, ⟨(some 16), .pick (.t 7) (.c (.bool true)) (.t 15), none⟩, ⟨(some 17), .mv (.t 16), none⟩, ⟨(some 18), .faddr 0 (.t 1), (some (17, false))⟩, ⟨(some 19), .load false 1 (.t 18), (some (17, false))⟩, ⟨(some 20), .bin false .eql (.t 19) (.c (.int .i64 (.ofNat 1))), (some (17, false))⟩, ⟨(some 21), .mv (.t 20), (some (17, false))⟩, ⟨(some 22), .faddr 2 (.t 1), (some (21, true))⟩, ⟨(some 23), .load false 1 (.t 22), (some (21, true))⟩, ⟨(some 24), .len 0 (.t 23), (some (21, true))⟩, ⟨(some 25), .bin false .gtr (.t 24) (.c (.int .i64 (.ofNat 0))), (some (21, true))⟩, ⟨(some 26), .pick (.t 21) (.t 25) (.c (.bool false)), (some (17, false))⟩, ⟨(some 27), .pick (.t 17) (.c (.bool true)) (.t 26), none⟩, ⟨(some 28), .mv (.t 27), none⟩, ⟨(some 29), .faddr 2 (.t 1), (some (28, false))⟩, ⟨(some 30), .load false 1 (.t 29), (some (28, false))⟩, ⟨(some 31), .len 0 (.t 30), (some (28, false))⟩, ⟨(some 32), .bin false .gtr (.t 31) (.c (.int .i64 (.ofNat 8))), (some (28, false))⟩, ⟨(some 33), .pick (.t 28) (.c (.bool true)) (.t 32), none⟩]
def bf166_0 : MCode := (.seq (.region g166_0)
 (.cond (.t 47)
 (.seq (.region [⟨(some 2), .mv (.c (.bool false)), none⟩])
 .ret)
 .skip))
def cf166_0 : List MOper := [⟨(some 34), .mv (.t 3), none⟩, ⟨(some 35), .faddr 2 (.t 1), none⟩, ⟨(some 36), .load false 1 (.t 35), none⟩, ⟨(some 37), .len 0 (.t 36), none⟩, ⟨(some 38), .bin false .lss (.t 34) (.t 37), none⟩]
def kf166 : MFunc := ⟨48, (.seq (.region [⟨(some 1), .box true (.t 0), none⟩, ⟨(some 2), .mv (.c (.bool false)), none⟩])
 (.seq (.seq (.region g166_3)
 (.cond (.t 33)
 (.seq (.region [⟨(some 2), .mv (.c (.bool false)), none⟩])
 .ret)
 .skip))
 (.seq (.seq (.region [⟨(some 3), .mv (.c (.int .i64 (.ofNat 0))), none⟩])
 (.block 0 (.loop (lb2 38 3 39 40 0 1 cf166_0 bf166_0))))
 (.seq (.region [⟨(some 2), .mv (.c (.bool true)), none⟩])
 .ret)))), [.t 2]⟩
theorem t166 : tbl 166 = some kf166 := by kernel_rfl
set_option maxHeartbeats 4000000 in
theorem nodes_run (t : Tm) : ∀ (n : Nat) (Y : Yenv) (F : Nat -> Prop) (st : St) (cs : List AV), RepT F st t cs -> t.fz <= n -> R n Y 166 [.agg cs] st = .ret (.bool (shT t)) st := by
 induction hs : t.fz using Nat.strongRecOn generalizing t with
 | _ s ih =>
 intro n Y F st cs hr hn
 cases t with
 | mk k0 n0 nl ex l =>
 simp only [RepT] at hr
 obtain ⟨sl, xs, rfl, hsl, hrs⟩ := hr
 simp only [Tm.fz] at hs
 obtain ⟨m, rfl⟩ : ∃ m, n = m + 1 := ⟨n - 1, by omega⟩
 have b00 : Nat.beq 0 0 = true := rfl
 have hxl := hrs.len
 have hlen := hsl.len st
 have lt : binB false .lss (.int .i64 n0) (.int .i64 (.ofNat 0)) = some (.bool (decide (n0 < 0))) := rfl
 have e1 : binB false .eql (.int .i64 k0) (.int .i64 (.ofNat 1)) = some (.bool (k0 == 1)) := rfl
 have g0 : binB false .gtr (.int .i64 (.ofNat xs.length)) (.int .i64 (.ofNat 0)) = some (.bool (decide (Int.ofNat l.length > 0))) := by rw [hxl]; rfl
 have ne1 : binB false .neq (.int .i64 k0) (.int .i64 (.ofNat 1)) = some (.bool (k0 != 1)) := rfl
 have ne2 : binB false .neq (.int .i64 k0) (.int .i64 (.ofNat 2)) = some (.bool (k0 != 2)) := rfl
 have g8' : binB false .gtr (.int .i64 (.ofNat xs.length)) (.int .i64 (.ofNat 8)) = some (.bool (decide (Int.ofNat l.length > 8))) := by rw [hxl]; rfl
 have hsh : shT (.mk k0 n0 nl ex l) = if badT k0 n0 l.length = true then false else shL l := by conv => lhs; unfold shT
 have hbad : badT k0 n0 l.length = (decide (n0 < 0) || ((k0 == 1) && decide (Int.ofNat l.length > 0)) || ((k0 != 1) && (k0 != 2)) || decide (Int.ofNat l.length > 8)) := rfl
 rw [hsh, hbad]
 generalize decide (n0 < 0) = B1 at *
 generalize (k0 == 1) = B2 at *
 generalize decide (Int.ofNat l.length > 0) = B3 at *
 generalize (k0 != 1) = B4 at *
 generalize (k0 != 2) = B5 at *
 generalize decide (Int.ofNat l.length > 8) = B6 at *
 obtain ⟨fA27, hA27⟩ : ∃ fA, fA = frOf 0 [.agg [.int .i64 k0, .int .i64 n0, sl]] Fr.nil := ⟨_, rfl⟩
 have gA27_0 : fA27.get 0 = some (.agg [.int .i64 k0, .int .i64 n0, sl]) := by rw [hA27]; simp only [frOf, Fr.get_set, reduceAdd, reduceEqDiff, ↓reduceIte]
 have dA27 : fA27.ds = [] := by rw [hA27]; rfl
 obtain ⟨fR28, hR28, kR28, oR28_1, oR28_2⟩ : ∃ fr', arun ((gT m).cg Y) [⟨(some 1), .box true (.t 0), none⟩, ⟨(some 2), .mv (.c (.bool false)), none⟩] fA27 st = .ok fr' st /\ Kp [] fA27 fr' /\ fr'.get 1 = some (.fptr [.int .i64 k0, .int .i64 n0, sl] 0) /\ fr'.get 2 = some (.bool false) := ⟨_, by simp only [amE, reduceEqDiff, ↓reduceIte, reduceCtorEq, reduceAdd, gA27_0] <;> rfl, Kp.refl.s.s, gn gh, gh⟩
 have dR28 := kR28.1.trans dA27
 obtain ⟨fR29, hR29, kR29, oR29_33⟩ : ∃ fr', arun ((gT m).cg Y) g166_3 fR28 st = .ok fr' st /\ Kp [1] fR28 fr' /\ fr'.get 33 = some (.bool (((B1 || (B4 && B5)) || (B2 && B3)) || B6)) := by cases B1 <;> cases B4 <;> cases B5 <;> cases B2 <;> cases B3 <;> cases B6 <;> exact ⟨_, by simp only [amE, reduceEqDiff, ↓reduceIte, reduceCtorEq, reduceAdd, oR28_1, g166_3, faf, ld0f, ld1f, ld2f, hlen, lt, e1, g0, ne1, ne2, g8', Bool.not_true, Bool.not_false] <;> rfl, Kp.refl.s.s.s.s.s.s.s.s.s.s.s.s.s.s.s.s.s.s.s.s.s.s.s.s.s.s.s.s.s.s, by simp only [Fr.get_set, reduceEqDiff, ↓reduceIte, amB]⟩
 have gR29_1 := kR29.g 1 oR28_1
 have dR29 := kR29.1.trans dR28
 have hperm : (B1 || (B2 && B3) || (B4 && B5) || B6) = (((B1 || (B4 && B5)) || (B2 && B3)) || B6) := by cases B1 <;> cases B2 <;> cases B3 <;> cases B4 <;> cases B5 <;> cases B6 <;> rfl
 rw [hperm]
 generalize (((B1 || (B4 && B5)) || (B2 && B3)) || B6) = BB at *
 cases BB with
 | true =>
  obtain ⟨fR30, hR30, kR30, oR30_2⟩ : ∃ fr', arun ((gT m).cg Y) [⟨(some 2), .mv (.c (.bool false)), none⟩] fR29 st = .ok fr' st /\ Kp [] fR29 fr' /\ fr'.get 2 = some (.bool false) := ⟨_, by simp only [amE, reduceEqDiff, ↓reduceIte, reduceCtorEq, reduceAdd] <;> rfl, Kp.refl.s, gh⟩
  have dR30 := kR30.1.trans dR29
  rw [if_pos rfl]
  refine fun_of (mf := kf166) (fr := fR30) t166 rfl (.inl ?q30) dR30 (by simp only [kf166, amE, oR30_2])
  case q30 =>
   rw [<- hA27]
   simp only [amE, reduceEqDiff, ↓reduceIte, reduceCtorEq, reduceAdd, kf166, b00, hR28, hR29, hR30, oR29_33]
 | false =>
  rw [if_neg (by decide)]
  obtain ⟨fR31, hR31, kR31, oR31_3⟩ : ∃ fr', arun ((gT m).cg Y) [⟨(some 3), .mv (.c (.int .i64 (.ofNat 0))), none⟩] fR29 st = .ok fr' st /\ Kp [1] fR29 fr' /\ fr'.get 3 = some (.int .i64 (.ofNat 0)) := ⟨_, by simp only [amE, reduceEqDiff, ↓reduceIte, reduceCtorEq, reduceAdd] <;> rfl, Kp.refl.s, gh⟩
  have gR31_1 := kR31.g 1 gR29_1
  have dR31 := kR31.1.trans dR29
  have hC0 : ∀ k fr s, k <= xs.length -> Kp [1] fR31 fr -> fr.get 3 = some (.int .i64 (.ofNat k)) -> (s = st /\ shL (l.drop k) = shL l) ->
    ∃ fr', arun ((gT m).cg Y) cf166_0 fr s = .ok fr' s /\ Kp [3, 1] fr fr' /\ fr'.get 38 = some (.bool (decide (k < xs.length))) /\ (s = st /\ shL (l.drop k) = shL l) := by
   intro k fr s hk hkp gi ⟨hst, hq⟩
   subst hst
   have q1 := hkp.at (k := 1) (by decide) gR31_1
   refine ⟨?c00, ?c01, ?c02, ?c03, rfl, hq⟩
   case c01 =>
    simp only [amE, reduceEqDiff, ↓reduceIte, reduceCtorEq, reduceAdd, cf166_0, q1, gi, faf, ld2f, hlen, lssD]
    rfl
   case c02 => repeat (first | exact Kp.refl | refine Kp.set (by decide) ?_)
   case c03 => simp only [Fr.get_set, reduceEqDiff, ↓reduceIte]
  have hB0 : ∀ k fr s, k < xs.length -> Kp [1] fR31 fr -> fr.get 3 = some (.int .i64 (.ofNat k)) -> (s = st /\ shL (l.drop k) = shL l) ->
    (∃ FR s', acode (gT m) Y m bf166_0 none fr s = .norm FR s' /\ Kp [3, 1] fr FR /\ (s' = st /\ shL (l.drop (k + 1)) = shL l)) ∨
    (∃ FR s', acode (gT m) Y m bf166_0 none fr s = .ret FR s' /\ (s' = st /\ FR.ds = [] /\ FR.get 2 = some (.bool false) /\ shL l = false)) := by
   intro k fr s hk hkp gi ⟨hst, hq⟩
   subst hst
   obtain ⟨t, ht, hdr⟩ := drop_at (l := l) (k := k) (by omega)
   obtain ⟨x, hx, hrx⟩ := hrs.at ht
   obtain ⟨p, ia, ld⟩ := hsl.at hx
   have ld := ld s (Same.refl _ _)
   have hfz := Tm.fzL_mem (List.mem_of_getElem? ht)
   have hcall : ((gT m).cg Y).fn 166 [.agg x] s = .ret (.bool (shT t)) s := ih t.fz (by omega) t rfl m Y F s x hrx (by omega)
   have q1 := hkp.at (k := 1) (by decide) gR31_1
   rw [hdr, shL_cons] at hq
   generalize shT t = ok at *
   obtain ⟨fR32, hR32, kR32, oR32_47⟩ : ∃ fr', arun ((gT m).cg Y) g166_0 fr s = .ok fr' s /\ Kp [1, 3] fr fr' /\ fr'.get 47 = some (.bool (!ok)) := ⟨_, by simp only [amE, reduceEqDiff, ↓reduceIte, reduceCtorEq, reduceAdd, q1, gi, g166_0, faf, ld2f, ia, ld, hcall, unN, Bool.not_true, Bool.not_false] <;> rfl, Kp.refl.s.s.s.s.s.s.s, gh⟩
   cases ok with
   | true =>
    rw [if_pos rfl] at hq
    refine .inl ⟨fR32, s, ?q32, kR32.sub (by decide), rfl, hq⟩
    case q32 => simp only [amE, reduceEqDiff, ↓reduceIte, reduceCtorEq, reduceAdd, bf166_0, hR32, oR32_47, Bool.not_true]
   | false =>
    obtain ⟨fR33, hR33, kR33, oR33_2⟩ : ∃ fr', arun ((gT m).cg Y) [⟨(some 2), .mv (.c (.bool false)), none⟩] fR32 s = .ok fr' s /\ Kp [] fR32 fr' /\ fr'.get 2 = some (.bool false) := ⟨_, by simp only [amE, reduceEqDiff, ↓reduceIte, reduceCtorEq, reduceAdd] <;> rfl, Kp.refl.s, gh⟩
    rw [if_neg (by decide)] at hq
    refine .inr ⟨fR33, s, ?q33, rfl, kR33.1.trans (kR32.1.trans (hkp.1.trans dR31)), oR33_2, hq.symm⟩
    case q33 => simp only [amE, reduceEqDiff, ↓reduceIte, reduceCtorEq, reduceAdd, bf166_0, hR32, hR33, oR32_47, Bool.not_false]
  rcases floop (Γ := (gT m)) (Y := Y) (m := m) (N := xs.length) (c := 38) (i := 3) (j1 := 39) (j2 := 40) (b := 0) (b1 := 1) (ro := none) (C := cf166_0) (B := bf166_0) (L := [1]) (fr0 := fR31) (by decide) (by decide) (by decide) hsl.2.1
   (Q := fun k fr s => s = st /\ shL (l.drop k) = shL l) (fun _ _ _ _ _ _ h => h) hC0 hB0 xs.length 0 fR31 st m (by omega) (by omega) Kp.refl oR31_3 ⟨rfl, rfl⟩
   with ⟨FR, s', h1, h2, h3, h4⟩ | ⟨FR, s', h1, h2, h3, h4, h5⟩
  ·subst h3
   rw [hxl, List.drop_length, shL_nil] at h4
   rw [<- h4]
   refine fun_of (mf := kf166) (fr := FR.set 2 (some (.bool true))) t166 rfl (.inl ?w1) (h2.1.trans dR31) ?w2
   case w1 =>
    rw [<- hA27]
    simp only [amE, reduceEqDiff, ↓reduceIte, reduceCtorEq, reduceAdd, kf166, b00, hR28, hR29, hR31, oR29_33, h1]
   case w2 => simp only [kf166, amE, Fr.get_set, ↓reduceIte]
  ·subst h2
   rw [h5]
   refine fun_of (mf := kf166) (fr := FR) t166 rfl (.inl ?w3) h3 (by simp only [kf166, amE, h4])
   case w3 =>
    rw [<- hA27]
    simp only [amE, reduceEqDiff, ↓reduceIte, reduceCtorEq, reduceAdd, kf166, b00, hR28, hR29, hR31, oR29_33, h1]
def g140_1 : List MOper := [⟨(some 6), .load true 3 (.t 1), none⟩, ⟨(some 7), .call (.c (.func (.func 165) [] [])) [(.t 6), (.c (.int .i64 (.ofNat 2000))), (.c (.int .i64 (.ofNat 1)))], none⟩, ⟨(some 5), .mv (.t 7), none⟩, ⟨(some 8), .extract 0 (.t 5), none⟩, ⟨(some 9), .extract 1 (.t 5), none⟩, ⟨(some 3), .mv (.t 8), none⟩, ⟨(some 4), .mv (.t 9), none⟩]
def g140_2 : List MOper := [⟨(some 10), .mv (.t 4), none⟩, ⟨(some 11), .mv (.t 10), none⟩, ⟨(some 12), .load true 3 (.t 1), (some (11, true))⟩, ⟨(some 13), .call (.c (.func (.func 166) [] [])) [(.t 12)], (some (11, true))⟩, ⟨(some 14), .pick (.t 11) (.t 13) (.c (.bool false)), none⟩, ⟨(some 2), .mv (.t 14), none⟩]
def kf140 : MFunc := ⟨15, (.seq (.region [⟨(some 1), .box true (.t 0), none⟩, ⟨(some 2), .mv (.c (.bool false)), none⟩])
 (.seq (.region g140_1)
 (.seq (.region g140_2)
 .ret))), [.t 2]⟩
theorem t140 : tbl 140 = some kf140 := by kernel_rfl
theorem is_run (t : Tm) (n : Nat) (Y : Yenv) (F : Nat -> Prop) (st : St) (cs : List AV) (hr : RepT F st t cs) (hn : t.fz < n) : R n Y 140 [.agg cs] st = .ret (.bool (rIs t)) st := by
 obtain ⟨m, rfl⟩ : ∃ m, n = m + 1 := ⟨n - 1, by omega⟩
 have b00 : Nat.beq 0 0 = true := rfl
 have c1 : ((gT m).cg Y).fn 165 [.agg cs, .int .i64 (.ofNat 2000), .int .i64 (.ofNat 1)] st = .ret (.tuple [.int .i64 (rcT t 2000 1).1, .bool (rcT t 2000 1).2]) st := counted165 t m Y F st (.ofNat 2000) (.ofNat 1) cs hr (by omega)
 have c2 : ((gT m).cg Y).fn 166 [.agg cs] st = .ret (.bool (shT t)) st := nodes_run t m Y F st cs hr (by omega)
 obtain ⟨a, b, c, rfl⟩ : ∃ a b c, cs = [a, b, c] := by
  match cs, hr.cells3.1 with
  | [a, b, c], _ => exact ⟨a, b, c, rfl⟩
 have hres : rIs t = ((rcT t 2000 1).2 && shT t) := rfl
 rw [hres]
 generalize (rcT t 2000 1).1 = L1 at *
 generalize (rcT t 2000 1).2 = B at *
 obtain ⟨fA34, hA34⟩ : ∃ fA, fA = frOf 0 [.agg [a, b, c]] Fr.nil := ⟨_, rfl⟩
 have gA34_0 : fA34.get 0 = some (.agg [a, b, c]) := by rw [hA34]; simp only [frOf, Fr.get_set, reduceAdd, reduceEqDiff, ↓reduceIte]
 have dA34 : fA34.ds = [] := by rw [hA34]; rfl
 obtain ⟨fR35, hR35, kR35, oR35_1⟩ : ∃ fr', arun ((gT m).cg Y) [⟨(some 1), .box true (.t 0), none⟩, ⟨(some 2), .mv (.c (.bool false)), none⟩] fA34 st = .ok fr' st /\ Kp [] fA34 fr' /\ fr'.get 1 = some (.fptr [a, b, c] 0) := ⟨_, by simp only [amE, reduceEqDiff, ↓reduceIte, reduceCtorEq, reduceAdd, gA34_0] <;> rfl, Kp.refl.s.s, gn gh⟩
 have dR35 := kR35.1.trans dA34
 obtain ⟨fR36, hR36, kR36, oR36_4⟩ : ∃ fr', arun ((gT m).cg Y) g140_1 fR35 st = .ok fr' st /\ Kp [1] fR35 fr' /\ fr'.get 4 = some (.bool B) := ⟨_, by simp only [amE, reduceEqDiff, ↓reduceIte, reduceCtorEq, reduceAdd, oR35_1, g140_1, ld3f, c1, ex20, ex21] <;> rfl, Kp.refl.s.s.s.s.s.s.s, gh⟩
 have gR36_1 := kR36.g 1 oR35_1
 have dR36 := kR36.1.trans dR35
 obtain ⟨fR37, hR37, kR37, oR37_2⟩ : ∃ fr', arun ((gT m).cg Y) g140_2 fR36 st = .ok fr' st /\ Kp [1, 4] fR36 fr' /\ fr'.get 2 = some (.bool (B && shT t)) := by cases B <;> exact ⟨_, by simp only [amE, reduceEqDiff, ↓reduceIte, reduceCtorEq, reduceAdd, gR36_1, oR36_4, g140_2, ld3f, c2, Bool.not_true, Bool.not_false] <;> rfl, Kp.refl.s.s.s.s.s.s, by simp only [Fr.get_set, reduceEqDiff, ↓reduceIte, amB]⟩
 have dR37 := kR37.1.trans dR36
 refine fun_of (mf := kf140) (fr := fR37) t140 rfl (.inl ?q37) dR37 (by simp only [kf140, amE, oR37_2])
 case q37 =>
  rw [<- hA34]
  simp only [amE, reduceEqDiff, ↓reduceIte, reduceCtorEq, reduceAdd, kf140, hR35, hR36, hR37]
end
end Go.AM.D16
