import Derived.Test.YtphmjdnljmhipaaGreatDoorAmRd9
set_option linter.unusedSimpArgs false
set_option linter.unusedVariables false
set_option maxRecDepth 100000
namespace Go.AM.D16
open Go Go.AM
noncomputable section
open Nat (reduceEqDiff reduceAdd)
theorem chk_end {Γ : Cg} {zs : List (MOper × Nat)} {its : List DIt} {id i a : Nat} {d : Option Nat} {op : MOp} {stE : St} {fr : Fr} {s s1 : St} {v : AV} (hz : zs[i]? = some (⟨d, op, none⟩, a)) (hi : its[i]? = some (.val fr s v s1))
  (h : ∃ s4, oprD Γ (idAt zs i id) fr stE op = .val v s4 /\ avBeq v v = true) : chkB Γ zs its id stE (i, none) = true := by
 unfold chkB
 simp only [hz, hi, wantedA]
 obtain ⟨s4, h1, h2⟩ := h
 simp only [sameAt, h1, h2, Bool.or_true]
def g24_0 : List MOper := [⟨(some 2), .alloc [(.int .i64 (.ofNat 0)), .nilsl, .nilsl], none⟩, ⟨(some 3), .mv (.c (.int .i64 (.ofNat 0))), none⟩, ⟨(some 4), .mv (.c (.int .i64 (.ofNat 0))), none⟩]
def g24_1 : List MOper := [⟨(some 7), .mv (.t 0), none⟩, ⟨(some 8), .len 1 (.t 7), none⟩, ⟨(some 9), .bin false .gtr (.t 8) (.c (.int .i64 (.ofNat 100000))), none⟩]
def g24_2 : List MOper := [⟨(some 10), .build [(.int .i64 (.ofNat 0)), .nilsl, .nilsl] [], none⟩, ⟨none, .store 3 (.t 2) (.t 10), none⟩, ⟨(some 3), .mv (.c (.int .i64 (.ofNat 0))), none⟩, ⟨(some 4), .mv (.c (.int .i64 (.ofNat 2))), none⟩]
def g24_3 : List MOper := [⟨(some 11), .mv (.t 0), none⟩, ⟨(some 12), .build [(.str []), (.int .i64 (.ofNat 0)), (.bool false)] [(0, 1, (.t 11))], none⟩, ⟨(some 13), .box false (.t 12), none⟩, ⟨(some 5), .mv (.t 13), none⟩]
def g24_4 : List MOper := [⟨(some 14), .mv (.t 5), none⟩, ⟨(some 15), .call (.c (.func (.func 60) [] [])) [(.t 14)], none⟩, ⟨(some 6), .alloc [(.int .i64 (.ofNat 0)), .nilsl, .nilsl], none⟩, ⟨none, .store 3 (.t 6) (.t 15), none⟩]
def g24_5 : List MOper := [⟨(some 16), .mv (.t 5), none⟩, ⟨(some 17), .nilchk (.t 16), none⟩, ⟨(some 18), .faddr 2 (.t 17), none⟩, ⟨(some 19), .load false 1 (.t 18), none⟩, ⟨(some 20), .mv (.t 19), none⟩, ⟨(some 21), .mv (.t 5), (some (20, false))⟩, ⟨(some 22), .nilchk (.t 21), (some (20, false))⟩, ⟨(some 23), .faddr 1 (.t 22), (some (20, false))⟩, ⟨(some 24), .load false 1 (.t 23), (some (20, false))⟩, ⟨(some 25), .mv (.t 0), (some (20, false))⟩, ⟨(some 26), .len 1 (.t 25), (some (20, false))⟩, ⟨(some 27), .bin false .lss (.t 24) (.t 26), (some (20, false))⟩, ⟨(some 28), .pick (.t 20) (.c (.bool true)) (.t 27), none⟩]
def g24_6 : List (MOper × Nat) := [(⟨(some 29), .build [(.int .i64 (.ofNat 0)), .nilsl, .nilsl] [], none⟩, 0), (⟨(some 30), .mv (.t 5), none⟩, 0), (⟨(some 31), .nilchk (.t 30), none⟩, 2), (⟨(some 32), .faddr 1 (.t 31), none⟩, 6), (⟨(some 33), .load false 1 (.t 32), none⟩, 14), (⟨none, .store 3 (.t 2) (.t 29), none⟩, 1), (⟨(some 3), .mv (.t 33), none⟩, 63), (⟨(some 4), .mv (.c (.int .i64 (.ofNat 161))), none⟩, 127)]
def g24_7 : List MOper := [⟨(some 34), .load true 3 (.t 6), none⟩, ⟨(some 35), .call (.c (.func (.func 49) [] [])) [(.t 34)], none⟩, ⟨(some 36), .un .not (.t 35), none⟩]
def g24_8 : List MOper := [⟨(some 37), .build [(.int .i64 (.ofNat 0)), .nilsl, .nilsl] [], none⟩, ⟨none, .store 3 (.t 2) (.t 37), none⟩, ⟨(some 3), .mv (.c (.int .i64 (.ofNat 0))), none⟩, ⟨(some 4), .mv (.c (.int .i64 (.ofNat 160))), none⟩]
def g24_9 : List MOper := [⟨(some 38), .load true 3 (.t 6), none⟩, ⟨none, .store 3 (.t 2) (.t 38), none⟩, ⟨(some 3), .mv (.c (.int .i64 (.ofNat 0))), none⟩, ⟨(some 4), .mv (.c (.int .i64 (.ofNat 0))), none⟩]
def kf24 : MFunc := ⟨39, (.seq (.region g24_0) (.seq (.seq (.region g24_1) (.cond (.t 9) (.seq (.region g24_2) .ret) .skip)) (.seq (.region g24_3) (.seq (.region g24_4) (.seq (.seq (.region g24_5) (.cond (.t 28) (.seq (.draw g24_6 [(4, some 5), (4, none)]) .ret) .skip)) (.seq (.seq (.region g24_7) (.cond (.t 36) (.seq (.region g24_8) .ret) .skip)) (.seq (.region g24_9) .ret))))))), [.cell 2 true 3, .t 3, .t 4]⟩
theorem t24 : tbl 24 = some kf24 := by kernel_rfl
theorem pre24 (s : List Nat) (m : Nat) (Y : Yenv) (st : St) (hl : s.length <= 100000) : ∃ fr1 s5, (∀ L, acode (gT m) Y m (.seq (.region g24_0) (.seq (.seq (.region g24_1) (.cond (.t 9) (.seq (.region g24_2) .ret) .skip)) (.seq (.region g24_3) L))) none (frOf 0 [.str s] Fr.nil) st = acode (gT m) Y m L none fr1 s5) ∧
  fr1.get 0 = some (.str s) /\ fr1.get 2 = some (.ptr st.next 0) /\ fr1.get 5 = some (.ptr (st.next + 1) 0) /\ fr1.ds = [] ∧
  Keeps st s5 /\ s5.next = st.next + 2 /\ s5.get st.next = some (.row [(.int .i64 (.ofNat 0)), .nilsl, .nilsl]) /\ Rgr (st.next + 1) s5 s 0 false := by
 have e1 : fillA [(.str []), (.int .i64 (.ofNat 0)), (.bool false)] [(0, 1, .str s)] = some [.str s, .int .i64 (.ofNat 0), .bool false] := rfl
 have hg : decide (100000 < s.length) = false := decide_eq_false (by omega)
 refine ⟨?fr1, (st.new (.row [(.int .i64 (.ofNat 0)), .nilsl, .nilsl])).new (.row [.str s, .int .i64 (.ofNat 0), .bool false]), fun L => ?x, ?a, ?b, ?c, ?ds, (Keeps.new st _).new' _, rfl, ?g0, ?g1⟩
 case x =>
  simp only [amE, reduceEqDiff, ↓reduceIte, reduceCtorEq, reduceAdd, g24_0, g24_1, g24_3, lnS, gtrN, hg, e1, St.next_new]
  rfl
 case a => rfl
 case b => rfl
 case c => rfl
 case ds => rfl
 case g0 =>
  simp only [St.get_new, St.next_new]
  simp (disch := omega) only [if_neg, ↓reduceIte]
 case g1 =>
  unfold Rgr
  simp only [St.get_new, St.next_new, ↓reduceIte]
theorem rRead_run (s : List Nat) (m : Nat) (Y : Yenv) (st : St) (hm : 3 * s.length + 60 <= m) (hz : ∀ d p, pD s (s.length + 1) 0 = .ok d p -> d.fz + 4101 <= m) :
  ∃ cs st2, R (m + 1) Y 24 [.str s] st = .ret (.tuple [.agg cs, .int .i64 (.ofNat (rdS s).2.1), .int .i64 (.ofNat (rdS s).2.2)]) st2 /\ Keeps st st2 /\ RepD (fun i => st.next <= i /\ i < st2.next) st2 (rdS s).1 cs := by
 have fi : fillA [(.int .i64 (.ofNat 0)), .nilsl, .nilsl] [] = some [(.int .i64 (.ofNat 0)), .nilsl, .nilsl] := rfl
 by_cases hl : 100000 < s.length
 ·have hr : rdS s = (.mk 0 false false [] false false [], 0, 2) := by unfold rdS; rw [if_pos hl]
  rw [hr]
  have g0 : (st.new (.row [(.int .i64 (.ofNat 0)), .nilsl, .nilsl])).get st.next = some (.row [(.int .i64 (.ofNat 0)), .nilsl, .nilsl]) := by rw [St.get_new, if_pos rfl]
  have t1 := st3 (x := [(.int .i64 (.ofNat 0)), .nilsl, .nilsl]) g0 rfl ⟨rfl, rfl⟩
  have hg : decide (100000 < s.length) = true := decide_eq_true hl
  have l0 : loadA true 3 ((st.new (.row [(.int .i64 (.ofNat 0)), .nilsl, .nilsl])).put st.next (.row [(.int .i64 (.ofNat 0)), .nilsl, .nilsl])) (.ptr st.next 0) = some (.agg [(.int .i64 (.ofNat 0)), .nilsl, .nilsl]) := load_row (by rw [St.get_put, if_pos rfl]) rfl
  refine ⟨[(.int .i64 (.ofNat 0)), .nilsl, .nilsl], (st.new (.row [(.int .i64 (.ofNat 0)), .nilsl, .nilsl])).put st.next (.row [(.int .i64 (.ofNat 0)), .nilsl, .nilsl]), fun_of (mf := kf24) (fr := ?f) t24 rfl (.inl ?x) ?d ?r, (Keeps.new st _).put _ _ (Nat.le_refl _), zD_rep _ _⟩
  case x =>
   simp only [amE, reduceEqDiff, ↓reduceIte, reduceCtorEq, reduceAdd, kf24, g24_0, g24_1, g24_2, lnS, gtrN, hg, fi, t1]
   rfl
  case d => rfl
  case r => simp only [kf24, amE, reduceEqDiff, ↓reduceIte, l0]
 obtain ⟨fr1, s5, hpre, q0, q2, q5, qd, k5, n5, ga, hr⟩ := pre24 s m Y st (by omega)
 obtain ⟨cs, sB, p1, b, hc, hB, kB, c3, hcase⟩ : ∃ cs sB p1 b, R m Y 60 [.ptr (st.next + 1) 0] s5 = .ret (.agg cs) sB /\ Rgr (st.next + 1) sB s p1 b /\ Keep1 (st.next + 1) s5 sB /\ (cs.length = 3 /\ cs.all AV.one = true) /\ ((∃ d, pD s (s.length + 1) 0 = .ok d p1 /\ b = false /\ RepD (fun i => s5.next <= i /\ i < sB.next) sB d cs) \/ (pD s (s.length + 1) 0 = .err p1 /\ (b = true \/ dgt s p1 = true))) := by
  have hone := rgder_run (by omega) Y (s.length + 1) m 0 s5 (by omega) hr (by omega) (by omega) (by omega)
  cases hp : pD s (s.length + 1) 0 with
  | err e =>
   rw [hp] at hone
   obtain ⟨cs, sB, b, e1, e2, e3, e4, e5⟩ := hone
   exact ⟨cs, sB, e, b, e1, e2, e4, e5, .inr ⟨rfl, e3⟩⟩
  | ok d p =>
   rw [hp] at hone
   obtain ⟨cs, sB, e1, e2, e3, e4⟩ := hone
   exact ⟨cs, sB, p, false, e1, e2, e3, e4.cells3, .inl ⟨d, rfl, rfl, e4⟩⟩
 have kBn := kB.1
 have sto := store_new (st := sB) (zs := [(.int .i64 (.ofNat 0)), .nilsl, .nilsl]) (x := cs) rfl c3.1 c3.2
 obtain ⟨sC, hsC⟩ : ∃ sC, sC = (sB.new (.row [(.int .i64 (.ofNat 0)), .nilsl, .nilsl])).put sB.next (.row cs) := ⟨_, rfl⟩
 rw [<- hsC] at sto
 have hC : Rgr (st.next + 1) sC s p1 b := by rw [hsC]; exact rgrPut (rgrNew hB (by omega)) (by omega)
 have nC : sC.next = sB.next + 1 := by rw [hsC]; rfl
 have kC : ∀ i, i < sB.next -> sC.get i = sB.get i := fun i hi => by rw [hsC, St.get_put, if_neg (by omega), St.get_new, if_neg (by omega)]
 have gC : sC.get sB.next = some (.row cs) := by rw [hsC, St.get_put, if_pos rfl]
 have gA : sC.get st.next = some (.row [(.int .i64 (.ofNat 0)), .nilsl, .nilsl]) := by rw [kC _ (by omega), kB.2 _ (by omega) (by omega)]; exact ga
 have k2 : Keeps st sC := (k5.then1 kB (by omega)).trans ⟨by omega, kC⟩
 have l1 := ld1 hC
 have l2 := ld2 hC
 have lt := lssN p1 s.length
 obtain ⟨f4, h4, k4, o6⟩ : ∃ fr', arun ((gT m).cg Y) g24_4 fr1 s5 = .ok fr' sC /\ Kp [0, 2, 5] fr1 fr' /\ fr'.get 6 = some (.ptr sB.next 0) := ⟨_, by simp only [amE, reduceEqDiff, ↓reduceIte, reduceCtorEq, reduceAdd, g24_4, q5, cg_fn, hc, sto] <;> rfl, Kp.refl.s.s.s, gh⟩
 have u0 := k4.at (k := 0) (by decide) q0
 have u5 := k4.at (k := 5) (by decide) q5
 obtain ⟨f5, h5, k5', o28⟩ : ∃ fr', arun ((gT m).cg Y) g24_5 f4 sC = .ok fr' sC /\ Kp [0, 2, 5, 6] f4 fr' /\ fr'.get 28 = some (.bool (b || decide (p1 < s.length))) := by
  cases b with
  | true => exact ⟨_, by simp only [amE, reduceEqDiff, ↓reduceIte, reduceCtorEq, reduceAdd, g24_5, u0, u5, ncp, fa2, l2, Bool.not_true, Bool.not_false] <;> rfl, Kp.refl.s.s.s.s.s.s.s.s.s.s.s.s.s, gh⟩
  | false => exact ⟨_, by simp only [amE, reduceEqDiff, ↓reduceIte, reduceCtorEq, reduceAdd, g24_5, u0, u5, ncp, fa1, fa2, l1, l2, lnS, lt, Bool.not_true, Bool.not_false] <;> rfl, Kp.refl.s.s.s.s.s.s.s.s.s.s.s.s.s, by simp only [Fr.get_set, reduceEqDiff, ↓reduceIte, Bool.false_or]⟩
 have v2 := k5'.at (k := 2) (by decide) (k4.at (k := 2) (by decide) q2)
 have v5 := k5'.at (k := 5) (by decide) u5
 have v6 := k5'.at (k := 6) (by decide) o6
 have hds : f5.ds = [] := k5'.1.trans (k4.1.trans qd)
 cases hw : (b || decide (p1 < s.length)) with
 | true =>
  rw [hw] at o28
  have hrd : rdS s = (.mk 0 false false [] false false [], p1, 161) := by
   unfold rdS; rw [if_neg hl]
   rcases hcase with ⟨d, hp, hb, _⟩ | ⟨hp, _⟩
   ·rw [hp]
    rw [hb, Bool.false_or, decide_eq_true_eq] at hw
    exact if_pos hw
   ·rw [hp]
  rw [hrd]
  have t1 := st3 (x := [(.int .i64 (.ofNat 0)), .nilsl, .nilsl]) gA rfl ⟨rfl, rfl⟩
  obtain ⟨sF, hsF⟩ : ∃ sF, sF = sC.put st.next (.row [(.int .i64 (.ofNat 0)), .nilsl, .nilsl]) := ⟨_, rfl⟩
  rw [<- hsF] at t1
  have hF : Rgr (st.next + 1) sF s p1 b := by rw [hsF]; exact rgrPut hC (by omega)
  have l1F := ld1 hF
  have l0 : loadA true 3 sF (.ptr st.next 0) = some (.agg [(.int .i64 (.ofNat 0)), .nilsl, .nilsl]) := load_row (by rw [hsF, St.get_put, if_pos rfl]) rfl
  have bq : avBeq (.int .i64 (.ofNat p1)) (.int .i64 (.ofNat p1)) = true := avBeq_len p1
  obtain ⟨f6, h6, w2, w3, w4, w0⟩ : ∃ fr', adraw ((gT m).cg Y) g24_6 [(4, some 5), (4, none)] f5 sC = .ok fr' sF /\ fr'.get 2 = some (.ptr st.next 0) /\ fr'.get 3 = some (.int .i64 (.ofNat p1)) /\ fr'.get 4 = some (.int .i64 (.ofNat 161)) /\ fr'.ds = f5.ds := by
   refine ⟨?g, adraw_ok (its := ?i) ?x1 ?y1 ?z1, ?p1, ?p2, ?p3, ?p4⟩
   case x1 =>
    simp only [amE, reduceEqDiff, ↓reduceIte, reduceCtorEq, reduceAdd, drun_cons, drun_nil, DR.cons, oprD, nextId, preA, g24_6, v2, v5, fi, ncp, fa1, l1, t1]
    rfl
   case y1 => rfl
   case p1 => simp only [Fr.get_set, reduceEqDiff, ↓reduceIte, v2]
   case p2 => simp only [Fr.get_set, reduceEqDiff, ↓reduceIte]
   case p3 => simp only [Fr.get_set, reduceEqDiff, ↓reduceIte]
   case p4 => rfl
   case z1 =>
    simp only [List.all_cons, List.all_nil, Bool.and_true, Bool.and_eq_true]
    refine ⟨chk_of (i := 4) (k := 5) rfl rfl rfl rfl (.inr ⟨?k0, ?k1, bq⟩), chk_end (i := 4) rfl rfl ⟨?k2, ?k3, bq⟩⟩
    case k1 =>
     simp only [amE, reduceEqDiff, ↓reduceIte, reduceCtorEq, reduceAdd, oprD, g24_6, v2, v5, fi, ncp, fa1, l1, t1]
     rfl
    case k3 =>
     simp only [amE, reduceEqDiff, ↓reduceIte, reduceCtorEq, reduceAdd, oprD, g24_6, v2, v5, fi, ncp, fa1, l1F, t1]
     rfl
  refine ⟨[(.int .i64 (.ofNat 0)), .nilsl, .nilsl], sF, fun_of (mf := kf24) (fr := f6) t24 rfl (.inl ?x2) (w0.trans hds) ?r2, by rw [hsF]; exact k2.put _ _ (Nat.le_refl _), zD_rep _ _⟩
  case x2 =>
   show acode _ _ _ (.seq (.region g24_0) (.seq (.seq (.region g24_1) (.cond (.t 9) (.seq (.region g24_2) .ret) .skip)) (.seq (.region g24_3) (.seq (.region g24_4) (.seq (.seq (.region g24_5) (.cond (.t 28) (.seq (.draw g24_6 [(4, some 5), (4, none)]) .ret) .skip)) (.seq (.seq (.region g24_7) (.cond (.t 36) (.seq (.region g24_8) .ret) .skip)) (.seq (.region g24_9) .ret))))))) none _ _ = _
   rw [hpre]
   simp only [amE, reduceEqDiff, ↓reduceIte, reduceCtorEq, reduceAdd, h4, h5, o28, h6]
  case r2 => simp only [kf24, amE, reduceEqDiff, ↓reduceIte, w2, w3, w4, l0]
 | false =>
  rw [hw] at o28
  rw [Bool.or_eq_false_iff] at hw
  obtain ⟨hb, hlt⟩ := hw
  obtain ⟨d, hp, _, hrep⟩ : ∃ d, pD s (s.length + 1) 0 = .ok d p1 /\ b = false /\ RepD (fun i => s5.next <= i /\ i < sB.next) sB d cs := by
   rcases hcase with hd | ⟨_, h | h⟩
   ·exact hd
   ·rw [hb] at h; cases h
   ·have := (dgt_ch h).2.2.2
    simp only [decide_eq_false_iff_not] at hlt
    omega
  have lC := load_row gC c3.1
  have hrepC : RepD (fun i => s5.next <= i /\ i < sB.next) sC d cs := hrep.mono (fun i hi => kC i hi.2) (fun _ h => h)
  obtain ⟨s9, c9, k9⟩ := rIsD_run d m Y _ sC cs hrepC (fun i hi => by omega) (hz d p1 hp)
  have k9n := k9.1
  have g9A : s9.get st.next = some (.row [(.int .i64 (.ofNat 0)), .nilsl, .nilsl]) := (k9.2 _ (by omega)).trans gA
  have g9C : s9.get sB.next = some (.row cs) := (k9.2 _ (by omega)).trans gC
  have l9 := load_row g9C c3.1
  have kk : Keeps st s9 := k2.trans k9
  simp only [decide_eq_false_iff_not] at hlt
  cases hi : isDv d with
  | true =>
   rw [hi] at c9
   have hrd : rdS s = (d, 0, 0) := by
    unfold rdS; rw [if_neg hl, hp]
    simp only [if_neg hlt, hi, if_true]
   rw [hrd]
   have t1 := st3 (x := cs) g9A rfl c3
   have l0 : loadA true 3 (s9.put st.next (.row cs)) (.ptr st.next 0) = some (.agg cs) := load_row (by rw [St.get_put, if_pos rfl]) c3.1
   refine ⟨cs, s9.put st.next (.row cs), fun_of (mf := kf24) (fr := ?f3) t24 rfl (.inl ?x3) ?d3 ?r3, kk.put _ _ (Nat.le_refl _), ?p4⟩
   case x3 =>
    show acode _ _ _ (.seq (.region g24_0) (.seq (.seq (.region g24_1) (.cond (.t 9) (.seq (.region g24_2) .ret) .skip)) (.seq (.region g24_3) (.seq (.region g24_4) (.seq (.seq (.region g24_5) (.cond (.t 28) (.seq (.draw g24_6 [(4, some 5), (4, none)]) .ret) .skip)) (.seq (.seq (.region g24_7) (.cond (.t 36) (.seq (.region g24_8) .ret) .skip)) (.seq (.region g24_9) .ret))))))) none _ _ = _
    rw [hpre]
    simp only [amE, reduceEqDiff, ↓reduceIte, reduceCtorEq, reduceAdd, h4, h5, o28, g24_7, v6, lC, cg_fn, c9, unN, Bool.not_true, g24_9, v2, l9, t1]
    rfl
   case d3 => exact hds
   case r3 => simp only [kf24, amE, reduceEqDiff, ↓reduceIte, v2, l0]
   case p4 => exact hrepC.mono (fun i hi => by rw [St.get_put, if_neg (by omega)]; exact k9.2 i (by omega)) (fun i hi => by show st.next <= i /\ i < s9.next; omega)
  | false =>
   rw [hi] at c9
   have hrd : rdS s = (.mk 0 false false [] false false [], 0, 160) := by
    unfold rdS; rw [if_neg hl, hp]
    simp only [if_neg hlt, hi]
    exact if_neg (by decide)
   rw [hrd]
   have t1 := st3 (x := [(.int .i64 (.ofNat 0)), .nilsl, .nilsl]) g9A rfl ⟨rfl, rfl⟩
   have l0 : loadA true 3 (s9.put st.next (.row [(.int .i64 (.ofNat 0)), .nilsl, .nilsl])) (.ptr st.next 0) = some (.agg [(.int .i64 (.ofNat 0)), .nilsl, .nilsl]) := load_row (by rw [St.get_put, if_pos rfl]) rfl
   refine ⟨[(.int .i64 (.ofNat 0)), .nilsl, .nilsl], s9.put st.next (.row [(.int .i64 (.ofNat 0)), .nilsl, .nilsl]), fun_of (mf := kf24) (fr := ?f5) t24 rfl (.inl ?x5) ?d5 ?r5, kk.put _ _ (Nat.le_refl _), zD_rep _ _⟩
   case x5 =>
    show acode _ _ _ (.seq (.region g24_0) (.seq (.seq (.region g24_1) (.cond (.t 9) (.seq (.region g24_2) .ret) .skip)) (.seq (.region g24_3) (.seq (.region g24_4) (.seq (.seq (.region g24_5) (.cond (.t 28) (.seq (.draw g24_6 [(4, some 5), (4, none)]) .ret) .skip)) (.seq (.seq (.region g24_7) (.cond (.t 36) (.seq (.region g24_8) .ret) .skip)) (.seq (.region g24_9) .ret))))))) none _ _ = _
    rw [hpre]
    simp only [amE, reduceEqDiff, ↓reduceIte, reduceCtorEq, reduceAdd, h4, h5, o28, g24_7, v6, lC, cg_fn, c9, unN, Bool.not_false, g24_8, v2, fi, t1]
    rfl
   case d5 => exact hds
   case r5 => simp only [kf24, amE, reduceEqDiff, ↓reduceIte, v2, l0]
end
end Go.AM.D16
