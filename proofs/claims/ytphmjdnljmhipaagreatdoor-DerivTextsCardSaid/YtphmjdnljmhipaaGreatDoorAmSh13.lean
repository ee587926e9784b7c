import Derived.Test.YtphmjdnljmhipaaGreatDoorAmSh9
import Derived.Test.YtphmjdnljmhipaaGreatDoorAmSh4
set_option linter.unusedSimpArgs false
set_option linter.unusedVariables false
set_option maxRecDepth 100000
namespace Go.AM.D16
open Go Go.AM
open Nat (reduceEqDiff reduceAdd)
theorem eloop {Γ : Gam} {Y : Yenv} {m N c i j1 j2 b b1 : Nat} {ro : Option Nat} {C : List MOper} {B : MCode} {L : List Nat} {fr0 : Fr} {Q Q2 : Nat -> Fr -> St -> Prop} {E : Fr -> St -> Prop}
  (hi : i ∉ L) (hj1 : j1 ∉ L) (hj2 : j2 ∉ L) (hN : N <= 9223372036854775807)
  (hQ : ∀ k fr st s v, (s = i \/ s = j1 \/ s = j2) -> Q k fr st -> Q k (fr.set s v) st)
  (hC : ∀ k fr st, k <= N -> Kp L fr0 fr -> fr.get i = some (.int .i64 (.ofNat k)) -> Q k fr st -> ∃ fr' x, arun (Γ.cg Y) C fr st = .ok fr' st /\ Kp (i :: L) fr fr' /\ fr'.get c = some (.bool x) /\ (x = true -> k < N /\ Q2 k fr' st) /\ (x = false -> E fr' st))
  (hB : ∀ k fr st, k < N -> Kp L fr0 fr -> fr.get i = some (.int .i64 (.ofNat k)) -> Q2 k fr st -> ∃ FR st', acode Γ Y m B ro fr st = .norm FR st' /\ Kp (i :: L) fr FR /\ Q (k + 1) FR st') :
  ∀ (j k : Nat) (fr : Fr) (st : St) (fuel : Nat), k + j = N -> j < fuel -> Kp L fr0 fr -> fr.get i = some (.int .i64 (.ofNat k)) -> Q k fr st ->
   ∃ FR st', aloop (acode Γ Y m (lb2 c i j1 j2 b b1 C B) ro) fuel fr st = .exit b FR st' /\ Kp L fr0 FR /\ E FR st'
 | _, _, _, _, 0, _, hf, _, _, _ => by omega
 | j, k, fr, st, fuel + 1, hk, hf, hp, gi, hq => by
  obtain ⟨fr', x, h1, h2, h3, h4, h5⟩ := hC k fr st (by omega) hp gi hq
  have hp' : Kp L fr0 fr' := hp.trans ⟨h2.1, fun x hx => h2.2 x (List.mem_cons_of_mem _ hx)⟩
  cases x with
  | false =>
   refine ⟨fr', st, ?_, hp', h5 rfl⟩
   rw [aloop]
   simp only [amE, reduceEqDiff, ↓reduceIte, reduceCtorEq, reduceAdd, lb2, h1, h3]
  | true =>
   obtain ⟨hlt, hq1⟩ := h4 rfl
   have gi' : fr'.get i = some (.int .i64 (.ofNat k)) := h2.at List.mem_cons_self gi
   have had := add1 (i := k) (by omega)
   obtain ⟨FR, st', hb, hkp, hq'⟩ := hB k fr' st hlt hp' gi' hq1
   have gi2 : FR.get i = some (.int .i64 (.ofNat k)) := hkp.at List.mem_cons_self gi'
   have hkL : Kp L fr0 FR := hp'.trans ⟨hkp.1, fun x hx => hkp.2 x (List.mem_cons_of_mem _ hx)⟩
   have hst : acode Γ Y m (lb2 c i j1 j2 b b1 C B) ro fr st = .norm (((FR.set j1 (some (.int .i64 (.ofNat k)))).set j2 (some (.int .i64 (.ofNat (k + 1))))).set i (some (.int .i64 (.ofNat (k + 1))))) st' := by
    simp only [amE, reduceEqDiff, ↓reduceIte, reduceCtorEq, reduceAdd, lb2, h1, h3, hb, gi2, had]
   obtain ⟨j', rfl⟩ : ∃ j', j = j' + 1 := ⟨j - 1, by omega⟩
   obtain ⟨F2, s2, h, h2⟩ := eloop hi hj1 hj2 hN hQ hC hB j' (k + 1) (((FR.set j1 (some (.int .i64 (.ofNat k)))).set j2 (some (.int .i64 (.ofNat (k + 1))))).set i (some (.int .i64 (.ofNat (k + 1))))) st' fuel (by omega) (by omega)
    (Kp.set hi (Kp.set hj2 (Kp.set hj1 hkL))) (by rw [Fr.get_set, if_pos rfl]) (hQ _ _ _ _ _ (.inl rfl) (hQ _ _ _ _ _ (.inr (.inr rfl)) (hQ _ _ _ _ _ (.inr (.inl rfl)) hq')))
   refine ⟨F2, s2, ?_, h2⟩
   rw [aloop, hst]
   exact h
noncomputable def kf52 : MFunc := ⟨11, (.seq (.region [⟨(some 4), .mv (.c (.int .i64 (.ofNat 0))), none⟩])
 (.seq (.seq (.region [⟨(some 5), .mv (.t 0), none⟩, ⟨(some 6), .mv (.t 1), none⟩, ⟨(some 7), .bin false .lss (.t 5) (.t 6), none⟩])
 (.cond (.t 7)
 (.seq (.region [⟨(some 4), .mv (.c (.int .i64 (.negSucc 0))), none⟩])
 .ret)
 .skip))
 (.seq (.seq (.region [⟨(some 8), .mv (.t 0), none⟩, ⟨(some 9), .mv (.t 1), none⟩, ⟨(some 10), .bin false .gtr (.t 8) (.t 9), none⟩])
 (.cond (.t 10)
 (.seq (.region [⟨(some 4), .mv (.c (.int .i64 (.ofNat 1))), none⟩])
 .ret)
 .skip))
 (.seq (.region [⟨(some 4), .mv (.c (.int .i64 (.ofNat 0))), none⟩])
 .ret)))), [.t 4]⟩
theorem t52 : tbl 52 = some kf52 := by kernel_rfl
theorem t82 : tbl 82 = some kf52 := by kernel_rfl
theorem order_at {f : Nat} (hf : f = 52 \/ f = 82) (n : Nat) (Y : Yenv) (x y : Int) (st : St) : R (n + 1) Y f [.int .i64 x, .int .i64 y] st = .ret (.int .i64 (cmpI x y)) st := by
 have b00 : Nat.beq 0 0 = true := rfl
 have hm : tbl f = some kf52 := by
  rcases hf with rfl | rfl
  ·rw [t52]
  ·rw [t82]
 have lt : binB false .lss (.int .i64 x) (.int .i64 y) = some (.bool (decide (x < y))) := rfl
 have gt : binB false .gtr (.int .i64 x) (.int .i64 y) = some (.bool (decide (x > y))) := rfl
 unfold cmpI
 by_cases h1 : x < y
 ·rw [if_pos h1]
  rw [decide_eq_true h1] at lt
  refine fun_of (mf := kf52) (fr := ?a0) hm rfl (.inl ?a1) ?a2 ?a3
  case a1 =>
   simp only [amE, reduceEqDiff, ↓reduceIte, reduceCtorEq, reduceAdd, kf52, lt]
   rfl
  case a2 => rfl
  case a3 => simp only [kf52, amE, Fr.get_set, reduceEqDiff, ↓reduceIte]
 ·rw [if_neg h1]
  rw [decide_eq_false h1] at lt
  by_cases h2 : y < x
  ·rw [if_pos h2]
   rw [decide_eq_true h2] at gt
   refine fun_of (mf := kf52) (fr := ?b0) hm rfl (.inl ?b1) ?b2 ?b3
   case b1 =>
    simp only [amE, reduceEqDiff, ↓reduceIte, reduceCtorEq, reduceAdd, kf52, lt, gt]
    rfl
   case b2 => rfl
   case b3 => simp only [kf52, amE, Fr.get_set, reduceEqDiff, ↓reduceIte]
  ·rw [if_neg h2]
   rw [decide_eq_false h2] at gt
   refine fun_of (mf := kf52) (fr := ?c0) hm rfl (.inl ?c1) ?c2 ?c3
   case c1 =>
    simp only [amE, reduceEqDiff, ↓reduceIte, reduceCtorEq, reduceAdd, kf52, lt, gt]
    rfl
   case c2 => rfl
   case c3 => simp only [kf52, amE, Fr.get_set, reduceEqDiff, ↓reduceIte]
theorem cmpI_zero {x y : Int} (h : cmpI x y = 0) : x = y := by
 unfold cmpI at h
 split at h
 ·cases h
 ·split at h
  ·cases h
  ·omega
theorem lex2_assoc (a b c : Int) : lex2 (lex2 a b) c = lex2 a (lex2 b c) := by
 unfold lex2
 by_cases h : a = 0
 ·rw [if_pos h, if_pos h]
 ·rw [if_neg h, if_neg h, if_neg h]
theorem cmpTs_end {a b : List Tm} {k : Nat} (ha : k <= a.length) (hb : k <= b.length) (h : ¬ (k < a.length /\ k < b.length)) : cmpTs (a.drop k) (b.drop k) = cmpI (.ofNat a.length) (.ofNat b.length) := by
 by_cases h1 : k < a.length
 ·rw [List.drop_of_length_le (l := b) (by omega)]
  obtain ⟨y, _, hy⟩ := drop_at (l := a) (k := k) h1
  rw [hy, cmpTs_cn, cmpI_gt (by simp; omega)]
 ·rw [List.drop_of_length_le (l := a) (by omega)]
  by_cases h2 : k < b.length
  ·obtain ⟨y, _, hy⟩ := drop_at (l := b) (k := k) h2
   rw [hy, cmpTs_nc, cmpI_lt (by simp; omega)]
  ·rw [List.drop_of_length_le (l := b) (by omega), cmpTs_nn, cmpI_same (by simp; omega)]
theorem cmpDs_end {a b : List Dv} {k : Nat} (ha : k <= a.length) (hb : k <= b.length) (h : ¬ (k < a.length /\ k < b.length)) : cmpDs (a.drop k) (b.drop k) = cmpI (.ofNat a.length) (.ofNat b.length) := by
 by_cases h1 : k < a.length
 ·rw [List.drop_of_length_le (l := b) (by omega)]
  obtain ⟨y, _, hy⟩ := drop_at (l := a) (k := k) h1
  rw [hy, cmpDs_cn, cmpI_gt (by simp; omega)]
 ·rw [List.drop_of_length_le (l := a) (by omega)]
  by_cases h2 : k < b.length
  ·obtain ⟨y, _, hy⟩ := drop_at (l := b) (k := k) h2
   rw [hy, cmpDs_nc, cmpI_lt (by simp; omega)]
  ·rw [List.drop_of_length_le (l := b) (by omega), cmpDs_nn, cmpI_same (by simp; omega)]
theorem cmpTs_step {a b : List Tm} {k : Nat} {x y : Tm} (hx : a.drop k = x :: a.drop (k + 1)) (hy : b.drop k = y :: b.drop (k + 1)) : cmpTs (a.drop k) (b.drop k) = if cmpT x y = 0 then cmpTs (a.drop (k + 1)) (b.drop (k + 1)) else cmpT x y := by
 rw [hx, hy]; conv => lhs; unfold cmpTs
theorem cmpDs_step {a b : List Dv} {k : Nat} {x y : Dv} (hx : a.drop k = x :: a.drop (k + 1)) (hy : b.drop k = y :: b.drop (k + 1)) : cmpDs (a.drop k) (b.drop k) = if cmpD x y = 0 then cmpDs (a.drop (k + 1)) (b.drop (k + 1)) else cmpD x y := by
 rw [hx, hy]; conv => lhs; unfold cmpDs
end Go.AM.D16
