import Derived.Test.YtphmjdnljmhipaaGreatDoorAmSh16
set_option linter.unusedSimpArgs false
set_option linter.unusedVariables false
set_option maxRecDepth 100000
namespace Go.AM.D16
open Go Go.AM
open Nat (reduceEqDiff reduceAdd)
theorem sideI_ge (x : Int) : (decide (sideI x >= 0) = true) ↔ (x = 5 \/ x = 6) := by
 unfold sideI
 by_cases h5 : x = 5
 ·simp [h5] <;> decide
 ·by_cases h6 : x = 6
  ·simp [h6] <;> decide
  ·simp [h5, h6] <;> decide
theorem past_no {r s : Int} {vs ws : List Tm} {l : List Dv} (hl : l.length = arN r) (hv : vs.length <= vaN r) (hw : ws.length <= vaN s) (hk : kind r s = if ((r == s) && keepsB r) = true then .keep else if ((r == s) && losesB r) = true then .lose else .none)
  (h : (((r != s) || (Int.ofNat l.length != Int.ofNat 1)) || !decide (cmpTs vs ws = 0)) = true) : kind r s = .none \/ (kind r s = .lose /\ cmpTs vs ws ≠ 0) := by
 by_cases hrs : r = s
 ·subst hrs
  by_cases h5 : keepsB r = true
  ·exfalso
   have a1 := keeps_ar h5
   have a2 := keeps_va h5
   have v0 : vs = [] := List.length_eq_zero_iff.1 (by omega)
   have w0 : ws = [] := List.length_eq_zero_iff.1 (by omega)
   rw [v0, w0, cmpTs_nn, hl, a1] at h
   simp at h
  ·by_cases h6 : losesB r = true
   ·have a1 := loses_ar h6
    right
    refine ⟨by rw [hk]; simp [h5, h6], fun h0 => ?_⟩
    rw [h0, hl, a1] at h
    simp at h
   ·left
    rw [hk]; simp [h5, h6]
 ·left
  rw [hk]; simp [hrs]
theorem past_yes {r s : Int} {vs ws : List Tm} {l : List Dv} (h : (((r != s) || (Int.ofNat l.length != Int.ofNat 1)) || !decide (cmpTs vs ws = 0)) = false) : r = s /\ l.length = 1 /\ cmpTs vs ws = 0 := by
 simp only [Bool.or_eq_false_iff, bne_eq_false_iff_eq, Bool.not_eq_false', decide_eq_true_iff] at h
 refine ⟨h.1.1, ?_, h.2⟩
 have := h.1.2
 simp only [Int.ofNat_eq_natCast] at this
 omega
def PastR (n : Nat) (Y : Yenv) (d e : Dv) (st : St) : Prop := ∃ x b cs st', R n Y 51 [.agg d.cells, .agg e.cells] st = .ret (.tuple [.agg cs, .bool b]) st' /\ PL d e x b /\ RepD (fun i => st.next <= i /\ i < st'.next) st' x cs /\ Keeps st st'
set_option maxHeartbeats 4000000 in
theorem past_run (d : Dv) : ∀ (e : Dv) (n : Nat) (Y : Yenv) (st : St), d.ok -> e.ok -> d.good gr = true -> e.good gr = true -> d.fz <= n -> PastR n Y d e st := by
 induction hs : d.fz using Nat.strongRecOn generalizing d with
 | _ s ih =>
 intro e n Y st hokd hoke hgd hge hn
 cases d with
 | mk r nv ev vs nl ex l =>
 cases e with
 | mk r' mv fv ws ml fx k =>
 obtain ⟨-, -, hlN, hvN, -, hgl⟩ := good_mk hgd
 obtain ⟨-, -, hkN, hwN, -, hgk⟩ := good_mk hge
 simp only [Dv.ok] at hokd hoke
 simp only [Dv.fz] at hs
 obtain ⟨m, rfl⟩ : ∃ m, n = m + 3 := ⟨n - 3, by omega⟩
 have b00 : Nat.beq 0 0 = true := rfl
 unfold PastR
 simp only [Dv.cells]
 -- the parts of both
 have hsl : SlR (fun _ => False) st (slAV nl ex (Dv.cellsL l)) (Dv.cellsL l) := SlR.sl _ st (Dv.cellsL3 l) (by rw [Dv.cellsL_len]; exact hokd.2.2.2.2.1) (fun h => by rw [hokd.2.2.2.1 h]; rfl)
 have hsk : SlR (fun _ => False) st (slAV ml fx (Dv.cellsL k)) (Dv.cellsL k) := SlR.sl _ st (Dv.cellsL3 k) (by rw [Dv.cellsL_len]; exact hoke.2.2.2.2.1) (fun h => by rw [hoke.2.2.2.1 h]; rfl)
 have hsv : SlR (fun _ => False) st (slAV nv ev (Tm.cellsL vs)) (Tm.cellsL vs) := SlR.sl _ st (Tm.cellsL3 vs) (by rw [Tm.cellsL_len]; exact hokd.2.1) (fun h => by rw [hokd.1 h]; rfl)
 have hsw : SlR (fun _ => False) st (slAV mv fv (Tm.cellsL ws)) (Tm.cellsL ws) := SlR.sl _ st (Tm.cellsL3 ws) (by rw [Tm.cellsL_len]; exact hoke.2.1) (fun h => by rw [hoke.1 h]; rfl)
 have hrv := RepTs.line (fun _ => False) st vs hokd.2.2.1
 have hrw := RepTs.line (fun _ => False) st ws hoke.2.2.1
 have f0 : ∀ s : St, Same (fun _ => False) st s := fun _ _ h => h.elim
 have c81 : ∀ s, ((gT (m + 2)).cg Y).fn 81 [slAV nv ev (Tm.cellsL vs), slAV mv fv (Tm.cellsL ws)] s = .ret (.bool (decide (cmpTs vs ws = 0))) s := fun s =>
  sameVals vs ws (m + 2) Y (fun _ => False) s _ _ _ _ (hsv.mono (f0 s) fun _ h => h) (RepTs.mono (f0 s) (fun _ h => h) _ _ hrv) (hsw.mono (f0 s) fun _ h => h) (RepTs.mono (f0 s) (fun _ h => h) _ _ hrw) (by omega)
 have hRe : ∀ s, RepD (fun i => st.next <= i /\ i < s.next) s (.mk r' mv fv ws ml fx k) [.int .i64 r', slAV mv fv (Tm.cellsL ws), slAV ml fx (Dv.cellsL k)] := fun s => by
  have := RepD.line (fun i => st.next <= i /\ i < s.next) s (.mk r' mv fv ws ml fx k) (by simp only [Dv.ok]; exact hoke)
  simpa only [Dv.cells] using this
 generalize slAV nv ev (Tm.cellsL vs) = sv at *
 generalize slAV mv fv (Tm.cellsL ws) = sw' at *
 generalize slAV nl ex (Dv.cellsL l) = sl at *
 generalize slAV ml fx (Dv.cellsL k) = sk at *
 have lenl : ∀ s, (bif lenFits 0 sl then lenA s sl else none) = some (.int .i64 (.ofNat l.length)) := fun s => by have := hsl.len s; rwa [Dv.cellsL_len] at this
 have c78 : ∀ x s, ((gT (m + 2)).cg Y).fn 78 [.int .i64 x] s = .ret (.int .i64 (sideI x)) s := fun x s => side78 (m + 1) Y x s
 have c79 : ∀ a b s, a.length = 3 -> b.length = 3 -> ∃ s', ((gT (m + 2)).cg Y).fn 79 [.agg a, .agg b] s = .ret (.agg [.int .i64 (.ofNat 7), .nilsl, .lst 2 (a ++ b) true]) s' /\ Keeps s s' := fun a b s ha hb => mk79 a b ha hb (m + 1) Y s
 have c80 : ∀ a s, a.length = 3 -> ∃ s', ((gT (m + 2)).cg Y).fn 80 [.int .i64 r', .agg a] s = .ret (.agg [.int .i64 r', .nilsl, .lst 1 a true]) s' /\ Keeps s s' := fun a s ha => mk80 r' a ha (m + 1) Y s
 have kA : ((decide (sideI r >= 0) && decide (sideI r' >= 0)) && (sideI r != sideI r')) = true -> kind r r' = .apart := fun h => by rw [kind_B, if_pos h]
 have kSync : ((r == 7) && (r' == 7)) = true -> r = 7 /\ r' = 7 := fun h => by simpa using h
 have kSL : ((r == 7) && decide (sideI r' >= 0)) = true -> r = 7 /\ (r' = 5 \/ r' = 6) := fun h => by
  rw [Bool.and_eq_true, sideI_ge, beq_iff_eq] at h; exact h
 have kSR : ((r' == 7) && decide (sideI r >= 0)) = true -> r' = 7 /\ (r = 5 \/ r = 6) := fun h => by
  rw [Bool.and_eq_true, sideI_ge, beq_iff_eq] at h; exact h
 have kR := @kind_rest r r'
 have kNo := @past_no r r' vs ws l hlN hvN hwN
 have kYes := @past_yes r r' vs ws l
 have e1 : binB false .geq (.int .i64 (sideI r)) (.int .i64 (.ofNat 0)) = some (.bool (decide (sideI r >= 0))) := rfl
 have e2 : binB false .geq (.int .i64 (sideI r')) (.int .i64 (.ofNat 0)) = some (.bool (decide (sideI r' >= 0))) := rfl
 have e3 : binB false .neq (.int .i64 (sideI r)) (.int .i64 (sideI r')) = some (.bool (sideI r != sideI r')) := rfl
 have e4 : binB false .neq (.int .i64 r) (.int .i64 r') = some (.bool (r != r')) := rfl
 have e5 : binB false .neq (.int .i64 (.ofNat l.length)) (.int .i64 (.ofNat 1)) = some (.bool (Int.ofNat l.length != Int.ofNat 1)) := rfl
 have e7 : binB false .eql (.int .i64 r) (.int .i64 (.ofNat 7)) = some (.bool (r == 7)) := rfl
 have e8 : binB false .eql (.int .i64 r') (.int .i64 (.ofNat 7)) = some (.bool (r' == 7)) := rfl
 have exA : ∀ (a b : AV), extractA 0 (.tuple [a, b]) = some a := fun _ _ => rfl
 have exB : ∀ (a b : AV), extractA 1 (.tuple [a, b]) = some b := fun _ _ => rfl
 obtain ⟨s1, hs1⟩ : ∃ s1, s1 = st.new (.row [.int .i64 (.ofNat 0), .nilsl, .nilsl]) := ⟨_, rfl⟩
 have n1 : s1.next = st.next + 1 := by rw [hs1]; rfl
 have k1 : Keeps st s1 := by rw [hs1]; exact Keeps.new _ _
 have g1 : s1.get st.next = some (.row [.int .i64 (.ofNat 0), .nilsl, .nilsl]) := by rw [hs1, St.get_new, if_pos rfl]
 generalize decide (sideI r >= 0) = B1 at *
 generalize decide (sideI r' >= 0) = B2 at *
 generalize (sideI r != sideI r') = B3 at *
 generalize (r == 7) = B7 at *
 generalize (r' == 7) = B8 at *
 generalize (r != r') = N1 at *
 generalize (Int.ofNat l.length != Int.ofNat 1) = N2 at *
 generalize hSV : decide (cmpTs vs ws = 0) = SV at *
 have zb : avsBeq [.int .i64 (.ofNat 0), .nilsl, .nilsl] [.int .i64 (.ofNat 0), .nilsl, .nilsl] = true := rfl
 have fz0 : fillA [.int .i64 (.ofNat 0), .nilsl, .nilsl] [] = some [.int .i64 (.ofNat 0), .nilsl, .nilsl] := rfl
 obtain ⟨fA1, hA1⟩ : ∃ fA, fA = frOf 0 [.agg [.int .i64 r, sv, sl], .agg [.int .i64 r', sw', sk]] Fr.nil := ⟨_, rfl⟩
 have gA1_0 : fA1.get 0 = some (.agg [.int .i64 r, sv, sl]) := by rw [hA1]; simp only [frOf, Fr.get_set, reduceAdd, reduceEqDiff, ↓reduceIte]
 have gA1_1 : fA1.get 1 = some (.agg [.int .i64 r', sw', sk]) := by rw [hA1]; simp only [frOf, Fr.get_set, reduceAdd, reduceEqDiff, ↓reduceIte]
 have dA1 : fA1.ds = [] := by rw [hA1]; rfl
 obtain ⟨fR2, hR2, kR2, oR2_2, oR2_3, oR2_4, oR2_5⟩ : ∃ fr', arun ((gT (m + 2)).cg Y) g51_0 fA1 st = .ok fr' s1 /\ Kp [] fA1 fr' /\ fr'.get 2 = some (.fptr [.int .i64 r, sv, sl] 0) /\ fr'.get 3 = some (.fptr [.int .i64 r', sw', sk] 0) /\ fr'.get 4 = some (.ptr st.next 0) /\ fr'.get 5 = some (.bool false) := ⟨_, by simp only [amE, reduceEqDiff, ↓reduceIte, reduceCtorEq, reduceAdd, gA1_0, gA1_1, g51_0, <- hs1] <;> rfl, Kp.refl.s.s.s.s, gn (gn (gn gh)), gn (gn gh), gn gh, gh⟩
 have dR2 := kR2.1.trans dA1
 obtain ⟨fR3, hR3, kR3, oR3_6⟩ : ∃ fr', arun ((gT (m + 2)).cg Y) g51_1 fR2 s1 = .ok fr' s1 /\ Kp [2, 3, 4, 5] fR2 fr' /\ fr'.get 6 = some (.int .i64 (sideI r)) := ⟨_, by simp only [amE, reduceEqDiff, ↓reduceIte, reduceCtorEq, reduceAdd, oR2_2, g51_1, faf, ld0f, ld1f, ld2f, ld3f, c78] <;> rfl, Kp.refl.s.s.s.s, gh⟩
 have gR3_2 := kR3.g 2 oR2_2
 have gR3_3 := kR3.g 3 oR2_3
 have gR3_4 := kR3.g 4 oR2_4
 have dR3 := kR3.1.trans dR2
 obtain ⟨fR4, hR4, kR4, oR4_7⟩ : ∃ fr', arun ((gT (m + 2)).cg Y) g51_2 fR3 s1 = .ok fr' s1 /\ Kp [2, 3, 4, 5, 6] fR3 fr' /\ fr'.get 7 = some (.int .i64 (sideI r')) := ⟨_, by simp only [amE, reduceEqDiff, ↓reduceIte, reduceCtorEq, reduceAdd, gR3_3, g51_2, faf, ld0f, ld1f, ld2f, ld3f, c78] <;> rfl, Kp.refl.s.s.s.s, gh⟩
 have gR4_2 := kR4.g 2 gR3_2
 have gR4_3 := kR4.g 3 gR3_3
 have gR4_4 := kR4.g 4 gR3_4
 have gR4_6 := kR4.g 6 oR3_6
 have dR4 := kR4.1.trans dR3
 obtain ⟨fR5, hR5, kR5, oR5_34⟩ : ∃ fr', arun ((gT (m + 2)).cg Y) g51_3 fR4 s1 = .ok fr' s1 /\ Kp [2, 3, 4, 5, 6, 7] fR4 fr' /\ fr'.get 34 = some (.bool ((B1 && B2) && B3)) := by cases B1 <;> cases B2 <;> cases B3 <;> exact ⟨_, by simp only [amE, reduceEqDiff, ↓reduceIte, reduceCtorEq, reduceAdd, gR4_6, oR4_7, g51_3, e1, e2, e3, Bool.not_true, Bool.not_false] <;> rfl, Kp.refl.s.s.s.s.s.s.s.s.s.s.s, by simp only [Fr.get_set, reduceEqDiff, ↓reduceIte, amB]⟩
 have gR5_2 := kR5.g 2 gR4_2
 have gR5_3 := kR5.g 3 gR4_3
 have gR5_4 := kR5.g 4 gR4_4
 have gR5_6 := kR5.g 6 gR4_6
 have gR5_7 := kR5.g 7 oR4_7
 have dR5 := kR5.1.trans dR4
 generalize hhA1 : ((B1 && B2) && B3) = A1 at *
 cases A1 with
 | true =>
  have hk := kA rfl
  obtain ⟨s9, sto9, n9, l9, k9, m9⟩ := fin_of (c := [.int .i64 r', sw', sk]) n1 k1 g1 (Keeps.refl s1) ((hRe st).cells3)
  obtain ⟨fR6, hR6, kR6, oR6_5⟩ : ∃ fr', arun ((gT (m + 2)).cg Y) [⟨(some 35), .load true 3 (.t 3), none⟩, ⟨none, .store 3 (.t 4) (.t 35), none⟩, ⟨(some 5), .mv (.c (.bool true)), none⟩] fR5 s1 = .ok fr' s9 /\ Kp [2, 3, 4, 6, 7] fR5 fr' /\ fr'.get 5 = some (.bool true) := ⟨_, by simp only [amE, reduceEqDiff, ↓reduceIte, reduceCtorEq, reduceAdd, gR5_3, gR5_4, faf, ld0f, ld1f, ld2f, ld3f, sto9] <;> rfl, Kp.refl.s.s, gh⟩
  have gR6_4 := kR6.g 4 gR5_4
  have dR6 := kR6.1.trans dR5
  refine ⟨_, true, [.int .i64 r', sw', sk], s9, ?d6, PL.apart hk, ?rep6, k9⟩
  case d6 =>
   refine fun_of (mf := kf51) (fr := fR6) t51 rfl (.inl ?q6) dR6 (by simp only [kf51, amE, gR6_4, oR6_5, l9])
   case q6 =>
    rw [<- hA1]
    simp only [amE, reduceEqDiff, ↓reduceIte, reduceCtorEq, reduceAdd, kf51, b00, hR2, hR3, hR4, hR5, hR6, oR5_34]
  case rep6 =>
   exact hRe s9
 | false =>
  obtain ⟨fR7, hR7, kR7, oR7_43⟩ : ∃ fr', arun ((gT (m + 2)).cg Y) g51_5 fR5 s1 = .ok fr' s1 /\ Kp [2, 3, 4, 5, 6, 7] fR5 fr' /\ fr'.get 43 = some (.bool (B7 && B8)) := by cases B7 <;> exact ⟨_, by simp only [amE, reduceEqDiff, ↓reduceIte, reduceCtorEq, reduceAdd, gR5_2, gR5_3, g51_5, faf, ld0f, ld1f, ld2f, ld3f, e7, e8, Bool.not_true, Bool.not_false] <;> rfl, Kp.refl.s.s.s.s.s.s.s.s, by simp only [Fr.get_set, reduceEqDiff, ↓reduceIte, amB]⟩
  have gR7_2 := kR7.g 2 gR5_2
  have gR7_3 := kR7.g 3 gR5_3
  have gR7_4 := kR7.g 4 gR5_4
  have gR7_6 := kR7.g 6 gR5_6
  have gR7_7 := kR7.g 7 gR5_7
  have dR7 := kR7.1.trans dR5
  generalize hhA2 : (B7 && B8) = A2 at *
  cases A2 with
  | true =>
   obtain ⟨h7, h7'⟩ := kSync rfl
   have hk : kind r r' = .sync := by rw [h7, h7']; decide
   have ar1 : arN r = 2 := by rw [h7]; rfl
   have ar2 : arN r' = 2 := by rw [h7']; rfl
   obtain ⟨d0, d1, rfl⟩ := len2 (l := l) (by omega)
   obtain ⟨e0, e1, rfl⟩ := len2 (l := k) (by omega)
   obtain ⟨pud, iaud, lxud⟩ := hsl.at (k := 0) (x := d0.cells) (Dv.cellsL_at rfl)
   obtain ⟨pue, iaue, lxue⟩ := hsk.at (k := 0) (x := e0.cells) (Dv.cellsL_at rfl)
   have lxud := fun s => lxud s (f0 s)
   have lxue := fun s => lxue s (f0 s)
   obtain ⟨sAu, hsAu, nAu, kAu, gAu⟩ := new3 s1
   have memu := Dv.fzL_mem (l := [d0, d1]) (t := d0) (by simp)
   obtain ⟨xu, bu, cu, sBu, hcu, hplu, hrepu, kBu⟩ := ih d0.fz (by omega) d0 rfl e0 (m + 2) Y sAu (Dv.okL_mem hokd.2.2.2.2.2 _ (by simp)) (Dv.okL_mem hoke.2.2.2.2.2 _ (by simp)) (goodL_mem hgl _ (by simp)) (goodL_mem hgk _ (by simp)) (by omega)
   have hcu' : ((gT (m + 2)).cg Y).fn 51 [.agg d0.cells, .agg e0.cells] sAu = .ret (.tuple [.agg cu, .bool bu]) sBu := hcu
   have c3u := hrepu.cells3
   have nBu := kBu.1
   obtain ⟨sCu, stou, nCu, gCu, lCu, kCu, hrepu, pbu, gBu⟩ := sto3_of nAu kAu gAu kBu c3u hrepu
   obtain ⟨fR8, hR8, kR8, oR8_8, oR8_9⟩ : ∃ fr', adraw ((gT (m + 2)).cg Y) g51_6 [(12, some 8), (12, some 13)] fR7 s1 = .ok fr' sCu /\ Kp [2, 3, 4, 5, 6, 7] fR7 fr' /\ fr'.get 8 = some (.ptr s1.next 0) /\ fr'.get 9 = some (.bool bu) := by
    refine ⟨?r80, ?r81, ?r82, ?r8o8, ?r8o9⟩
    case r81 =>
     refine adraw_ok (its := ?r8i) ?r8x ?r8y ?r8z
     case r8x =>
      simp only [amE, reduceEqDiff, ↓reduceIte, reduceCtorEq, reduceAdd, drun_cons, drun_nil, DR.cons, oprD, nextId, preA, gR7_2, gR7_3, g51_6, faf, ld0f, ld1f, ld2f, ld3f, iaud, lxud, iaue, lxue, <- hsAu, gAu, gBu, zb, hcu', exA, exB, stou]
      rfl
     case r8y => rfl
     case r8z =>
      simp only [List.all_cons, List.all_nil, Bool.and_true, Bool.and_eq_true]
      refine ⟨chk_of (i := 12) (k := 8) rfl rfl rfl rfl ?r8k0, chk_of (i := 12) (k := 13) rfl rfl rfl rfl ?r8k1⟩
      case r8k0 =>
       right
       refine ⟨?r8s0, ?r8l0, pbu⟩
       case r8l0 =>
        simp only [amE, reduceEqDiff, ↓reduceIte, reduceCtorEq, reduceAdd, oprD, idAt, nextId, gR7_2, gR7_3, g51_6, faf, ld0f, ld1f, ld2f, ld3f, iaud, lxud, iaue, lxue, <- hsAu, gAu, gBu, zb, hcu', exA, exB, stou]
        rfl
      case r8k1 =>
       right
       refine ⟨?r8s1, ?r8l1, pbu⟩
       case r8l1 =>
        simp only [amE, reduceEqDiff, ↓reduceIte, reduceCtorEq, reduceAdd, oprD, idAt, nextId, gR7_2, gR7_3, g51_6, faf, ld0f, ld1f, ld2f, ld3f, iaud, lxud, iaue, lxue, <- hsAu, gAu, gBu, zb, hcu', exA, exB, stou]
        rfl
    case r82 => repeat (first | exact Kp.refl | refine Kp.set (by decide) ?_)
    case r8o8 => simp only [Fr.get_set, reduceEqDiff, ↓reduceIte]
    case r8o9 => simp only [Fr.get_set, reduceEqDiff, ↓reduceIte]
   have gR8_2 := kR8.g 2 gR7_2
   have gR8_3 := kR8.g 3 gR7_3
   have gR8_4 := kR8.g 4 gR7_4
   have dR8 := kR8.1.trans dR7
   obtain ⟨pwd, iawd, lxwd⟩ := hsl.at (k := 1) (x := d1.cells) (Dv.cellsL_at rfl)
   obtain ⟨pwe, iawe, lxwe⟩ := hsk.at (k := 1) (x := e1.cells) (Dv.cellsL_at rfl)
   have lxwd := fun s => lxwd s (f0 s)
   have lxwe := fun s => lxwe s (f0 s)
   obtain ⟨sAw, hsAw, nAw, kAw, gAw⟩ := new3 sCu
   have memw := Dv.fzL_mem (l := [d0, d1]) (t := d1) (by simp)
   obtain ⟨xw, bw, cw, sBw, hcw, hplw, hrepw, kBw⟩ := ih d1.fz (by omega) d1 rfl e1 (m + 2) Y sAw (Dv.okL_mem hokd.2.2.2.2.2 _ (by simp)) (Dv.okL_mem hoke.2.2.2.2.2 _ (by simp)) (goodL_mem hgl _ (by simp)) (goodL_mem hgk _ (by simp)) (by omega)
   have hcw' : ((gT (m + 2)).cg Y).fn 51 [.agg d1.cells, .agg e1.cells] sAw = .ret (.tuple [.agg cw, .bool bw]) sBw := hcw
   have c3w := hrepw.cells3
   have nBw := kBw.1
   obtain ⟨sCw, stow, nCw, gCw, lCw, kCw, hrepw, pbw, gBw⟩ := sto3_of nAw kAw gAw kBw c3w hrepw
   obtain ⟨fR9, hR9, kR9, oR9_10, oR9_11⟩ : ∃ fr', adraw ((gT (m + 2)).cg Y) g51_7 [(12, some 8), (12, some 13)] fR8 sCu = .ok fr' sCw /\ Kp [2, 3, 4, 5, 6, 7, 8, 9] fR8 fr' /\ fr'.get 10 = some (.ptr sCu.next 0) /\ fr'.get 11 = some (.bool bw) := by
    refine ⟨?r90, ?r91, ?r92, ?r9o10, ?r9o11⟩
    case r91 =>
     refine adraw_ok (its := ?r9i) ?r9x ?r9y ?r9z
     case r9x =>
      simp only [amE, reduceEqDiff, ↓reduceIte, reduceCtorEq, reduceAdd, drun_cons, drun_nil, DR.cons, oprD, nextId, preA, gR8_2, gR8_3, g51_7, faf, ld0f, ld1f, ld2f, ld3f, iawd, lxwd, iawe, lxwe, <- hsAw, gAw, gBw, zb, hcw', exA, exB, stow]
      rfl
     case r9y => rfl
     case r9z =>
      simp only [List.all_cons, List.all_nil, Bool.and_true, Bool.and_eq_true]
      refine ⟨chk_of (i := 12) (k := 8) rfl rfl rfl rfl ?r9k0, chk_of (i := 12) (k := 13) rfl rfl rfl rfl ?r9k1⟩
      case r9k0 =>
       right
       refine ⟨?r9s0, ?r9l0, pbw⟩
       case r9l0 =>
        simp only [amE, reduceEqDiff, ↓reduceIte, reduceCtorEq, reduceAdd, oprD, idAt, nextId, gR8_2, gR8_3, g51_7, faf, ld0f, ld1f, ld2f, ld3f, iawd, lxwd, iawe, lxwe, <- hsAw, gAw, gBw, zb, hcw', exA, exB, stow]
        rfl
      case r9k1 =>
       right
       refine ⟨?r9s1, ?r9l1, pbw⟩
       case r9l1 =>
        simp only [amE, reduceEqDiff, ↓reduceIte, reduceCtorEq, reduceAdd, oprD, idAt, nextId, gR8_2, gR8_3, g51_7, faf, ld0f, ld1f, ld2f, ld3f, iawd, lxwd, iawe, lxwe, <- hsAw, gAw, gBw, zb, hcw', exA, exB, stow]
        rfl
    case r92 => repeat (first | exact Kp.refl | refine Kp.set (by decide) ?_)
    case r9o10 => simp only [Fr.get_set, reduceEqDiff, ↓reduceIte]
    case r9o11 => simp only [Fr.get_set, reduceEqDiff, ↓reduceIte]
   have gR9_4 := kR9.g 4 gR8_4
   have gR9_8 := kR9.g 8 oR8_8
   have gR9_9 := kR9.g 9 oR8_9
   have dR9 := kR9.1.trans dR8
   have lCu2 := load_row (kCw.get (i := s1.next) (by omega) gCu) c3u.1
   obtain ⟨s7, hc7, k7⟩ := c79 cu cw sCw c3u.1 c3w.1
   have n7 := k7.1
   obtain ⟨s9, sto9, n9, l9, k9, m9⟩ := fin_of (c := [.int .i64 (.ofNat 7), .nilsl, .lst 2 (cu ++ cw) true]) n1 k1 g1 (kCu.trans (kCw.trans k7)) (⟨rfl, rfl⟩)
   obtain ⟨fR10, hR10, kR10, oR10_5⟩ : ∃ fr', arun ((gT (m + 2)).cg Y) g51_8 fR9 sCw = .ok fr' s9 /\ Kp [2, 3, 4, 6, 7] fR9 fr' /\ fr'.get 5 = some (.bool (bu && bw)) := by cases bu <;> exact ⟨_, by simp only [amE, reduceEqDiff, ↓reduceIte, reduceCtorEq, reduceAdd, gR9_4, gR9_8, gR9_9, oR9_10, oR9_11, g51_8, faf, ld0f, ld1f, ld2f, ld3f, lCu2, lCw, hc7, sto9, Bool.not_true, Bool.not_false] <;> rfl, Kp.refl.s.s.s.s.s.s.s.s, by simp only [Fr.get_set, reduceEqDiff, ↓reduceIte, amB]⟩
   have gR10_4 := kR10.g 4 gR9_4
   have dR10 := kR10.1.trans dR9
   refine ⟨_, (bu && bw), [.int .i64 (.ofNat 7), .nilsl, .lst 2 (cu ++ cw) true], s9, ?d10, PL.sync hk hplu hplw, ?rep10, k9⟩
   case d10 =>
    refine fun_of (mf := kf51) (fr := fR10) t51 rfl (.inl ?q10) dR10 (by simp only [kf51, amE, gR10_4, oR10_5, l9])
    case q10 =>
     rw [<- hA1]
     simp only [amE, reduceEqDiff, ↓reduceIte, reduceCtorEq, reduceAdd, kf51, b00, hR2, hR3, hR4, hR5, hR7, hR8, hR9, hR10, oR5_34, oR7_43]
   case rep10 =>
    simp only [RepD, RepTs, RepDs]
    refine ⟨.nilsl, [], .lst 2 (cu ++ cw) true, [cu, cw], rfl, SlR.nil _ _, rfl, ?_, cu, [cw], rfl, (hrepu.mono (Same.of (kCw.trans k7) fun i hi => by omega) (fun _ h => h)).mono (m9 _ fun i hi => by omega) (fun i hi => ⟨by omega, by omega⟩), cw, [], rfl, (hrepw.mono (Same.of k7 fun i hi => by omega) (fun _ h => h)).mono (m9 _ fun i hi => by omega) (fun i hi => ⟨by omega, by omega⟩), rfl⟩
    have := SlR.lst (fun i => st.next <= i /\ i < s9.next) s9 (n := 2) (xs := [cu, cw]) (ex := true) (fun x hx => by
     simp only [List.mem_cons, List.not_mem_nil, or_false] at hx
     rcases hx with rfl | rfl
     ·exact c3u
     ·exact c3w) (by simp) rfl
    simpa using this
  | false =>
   obtain ⟨fR11, hR11, kR11, oR11_81⟩ : ∃ fr', arun ((gT (m + 2)).cg Y) g51_9 fR7 s1 = .ok fr' s1 /\ Kp [2, 3, 4, 5, 6, 7] fR7 fr' /\ fr'.get 81 = some (.bool (B7 && B2)) := by cases B7 <;> exact ⟨_, by simp only [amE, reduceEqDiff, ↓reduceIte, reduceCtorEq, reduceAdd, gR7_2, gR7_7, g51_9, faf, ld0f, ld1f, ld2f, ld3f, e7, e2, Bool.not_true, Bool.not_false] <;> rfl, Kp.refl.s.s.s.s.s.s.s, by simp only [Fr.get_set, reduceEqDiff, ↓reduceIte, amB]⟩
   have gR11_2 := kR11.g 2 gR7_2
   have gR11_3 := kR11.g 3 gR7_3
   have gR11_4 := kR11.g 4 gR7_4
   have gR11_6 := kR11.g 6 gR7_6
   have gR11_7 := kR11.g 7 gR7_7
   have dR11 := kR11.1.trans dR7
   generalize hhA3 : (B7 && B2) = A3 at *
   cases A3 with
   | true =>
    obtain ⟨h7, h56⟩ := kSL rfl
    have ar1 : arN r = 2 := by rw [h7]; rfl
    have ar2 : arN r' = 1 := side_ar h56
    obtain ⟨d0, d1, rfl⟩ := len2 (l := l) (by omega)
    obtain ⟨e0, rfl⟩ := len1 (l := k) (by omega)
    rcases h56 with h5 | h5
    ·have hk : kind r r' = .syncL := by rw [h7, h5]; decide
     have hsd : sideI r' = .ofNat 0 := by rw [h5]; rfl
     obtain ⟨pud, iaud, lxud⟩ := hsl.at (k := 0) (x := d0.cells) (Dv.cellsL_at rfl)
     obtain ⟨pue, iaue, lxue⟩ := hsk.at (k := 0) (x := e0.cells) (Dv.cellsL_at rfl)
     have lxud := fun s => lxud s (f0 s)
     have lxue := fun s => lxue s (f0 s)
     obtain ⟨sAu, hsAu, nAu, kAu, gAu⟩ := new3 s1
     have memu := Dv.fzL_mem (l := [d0, d1]) (t := d0) (by simp)
     obtain ⟨xu, bu, cu, sBu, hcu, hplu, hrepu, kBu⟩ := ih d0.fz (by omega) d0 rfl e0 (m + 2) Y sAu (Dv.okL_mem hokd.2.2.2.2.2 _ (by simp)) (Dv.okL_mem hoke.2.2.2.2.2 _ (by simp)) (goodL_mem hgl _ (by simp)) (goodL_mem hgk _ (by simp)) (by omega)
     have hcu' : ((gT (m + 2)).cg Y).fn 51 [.agg d0.cells, .agg e0.cells] sAu = .ret (.tuple [.agg cu, .bool bu]) sBu := hcu
     have c3u := hrepu.cells3
     have nBu := kBu.1
     obtain ⟨sCu, stou, nCu, gCu, lCu, kCu, hrepu, pbu, gBu⟩ := sto3_of nAu kAu gAu kBu c3u hrepu
     obtain ⟨fR12, hR12, kR12, oR12_12, oR12_13⟩ : ∃ fr', adraw ((gT (m + 2)).cg Y) g51_10 [(13, some 9), (13, some 14)] fR11 s1 = .ok fr' sCu /\ Kp [2, 3, 4, 5, 6] fR11 fr' /\ fr'.get 12 = some (.ptr s1.next 0) /\ fr'.get 13 = some (.bool bu) := by
      refine ⟨?r120, ?r121, ?r122, ?r12o12, ?r12o13⟩
      case r121 =>
       refine adraw_ok (its := ?r12i) ?r12x ?r12y ?r12z
       case r12x =>
        simp only [amE, reduceEqDiff, ↓reduceIte, reduceCtorEq, reduceAdd, drun_cons, drun_nil, DR.cons, oprD, nextId, preA, gR11_2, gR11_3, gR11_7, g51_10, faf, ld0f, ld1f, ld2f, ld3f, hsd, iaud, lxud, iaue, lxue, <- hsAu, gAu, gBu, zb, hcu', exA, exB, stou]
        rfl
       case r12y => rfl
       case r12z =>
        simp only [List.all_cons, List.all_nil, Bool.and_true, Bool.and_eq_true]
        refine ⟨chk_of (i := 13) (k := 9) rfl rfl rfl rfl ?r12k0, chk_of (i := 13) (k := 14) rfl rfl rfl rfl ?r12k1⟩
        case r12k0 =>
         right
         refine ⟨?r12s0, ?r12l0, pbu⟩
         case r12l0 =>
          simp only [amE, reduceEqDiff, ↓reduceIte, reduceCtorEq, reduceAdd, oprD, idAt, nextId, gR11_2, gR11_3, gR11_7, g51_10, faf, ld0f, ld1f, ld2f, ld3f, hsd, iaud, lxud, iaue, lxue, <- hsAu, gAu, gBu, zb, hcu', exA, exB, stou]
          rfl
        case r12k1 =>
         right
         refine ⟨?r12s1, ?r12l1, pbu⟩
         case r12l1 =>
          simp only [amE, reduceEqDiff, ↓reduceIte, reduceCtorEq, reduceAdd, oprD, idAt, nextId, gR11_2, gR11_3, gR11_7, g51_10, faf, ld0f, ld1f, ld2f, ld3f, hsd, iaud, lxud, iaue, lxue, <- hsAu, gAu, gBu, zb, hcu', exA, exB, stou]
          rfl
      case r122 => repeat (first | exact Kp.refl | refine Kp.set (by decide) ?_)
      case r12o12 => simp only [Fr.get_set, reduceEqDiff, ↓reduceIte]
      case r12o13 => simp only [Fr.get_set, reduceEqDiff, ↓reduceIte]
     have gR12_3 := kR12.g 3 gR11_3
     have gR12_4 := kR12.g 4 gR11_4
     have dR12 := kR12.1.trans dR11
     obtain ⟨s7, hc7, k7⟩ := c80 cu sCu c3u.1
     have n7 := k7.1
     obtain ⟨s9, sto9, n9, l9, k9, m9⟩ := fin_of (c := [.int .i64 r', .nilsl, .lst 1 cu true]) n1 k1 g1 (kCu.trans k7) (⟨rfl, rfl⟩)
     obtain ⟨fR13, hR13, kR13, oR13_5⟩ : ∃ fr', arun ((gT (m + 2)).cg Y) g51_11 fR12 sCu = .ok fr' s9 /\ Kp [2, 3, 4, 6] fR12 fr' /\ fr'.get 5 = some (.bool bu) := ⟨_, by simp only [amE, reduceEqDiff, ↓reduceIte, reduceCtorEq, reduceAdd, gR12_3, gR12_4, oR12_12, oR12_13, g51_11, faf, ld0f, ld1f, ld2f, ld3f, lCu, hc7, sto9] <;> rfl, Kp.refl.s.s.s.s.s.s, gh⟩
     have gR13_4 := kR13.g 4 gR12_4
     have dR13 := kR13.1.trans dR12
     refine ⟨_, bu, [.int .i64 r', .nilsl, .lst 1 cu true], s9, ?d13, PL.syncL0 hk h5 hplu, ?rep13, k9⟩
     case d13 =>
      refine fun_of (mf := kf51) (fr := fR13) t51 rfl (.inl ?q13) dR13 (by simp only [kf51, amE, gR13_4, oR13_5, l9])
      case q13 =>
       rw [<- hA1]
       simp only [amE, reduceEqDiff, ↓reduceIte, reduceCtorEq, reduceAdd, kf51, b00, hR2, hR3, hR4, hR5, hR7, hR11, hR12, hR13, oR5_34, oR7_43, oR11_81]
     case rep13 =>
      simp only [RepD, RepTs, RepDs]
      refine ⟨.nilsl, [], .lst 1 cu true, [cu], rfl, SlR.nil _ _, rfl, ?_, cu, [], rfl, (hrepu.mono (Same.of k7 fun i hi => by omega) (fun _ h => h)).mono (m9 _ fun i hi => by omega) (fun i hi => ⟨by omega, by omega⟩), rfl⟩
      have := SlR.lst (fun i => st.next <= i /\ i < s9.next) s9 (n := 1) (xs := [cu]) (ex := true) (fun x hx => by simp only [List.mem_singleton] at hx; subst hx; exact c3u) (by simp) rfl
      simpa using this
    ·have hk : kind r r' = .syncL := by rw [h7, h5]; decide
     have hsd : sideI r' = .ofNat 1 := by rw [h5]; rfl
     obtain ⟨pud, iaud, lxud⟩ := hsl.at (k := 1) (x := d1.cells) (Dv.cellsL_at rfl)
     obtain ⟨pue, iaue, lxue⟩ := hsk.at (k := 0) (x := e0.cells) (Dv.cellsL_at rfl)
     have lxud := fun s => lxud s (f0 s)
     have lxue := fun s => lxue s (f0 s)
     obtain ⟨sAu, hsAu, nAu, kAu, gAu⟩ := new3 s1
     have memu := Dv.fzL_mem (l := [d0, d1]) (t := d1) (by simp)
     obtain ⟨xu, bu, cu, sBu, hcu, hplu, hrepu, kBu⟩ := ih d1.fz (by omega) d1 rfl e0 (m + 2) Y sAu (Dv.okL_mem hokd.2.2.2.2.2 _ (by simp)) (Dv.okL_mem hoke.2.2.2.2.2 _ (by simp)) (goodL_mem hgl _ (by simp)) (goodL_mem hgk _ (by simp)) (by omega)
     have hcu' : ((gT (m + 2)).cg Y).fn 51 [.agg d1.cells, .agg e0.cells] sAu = .ret (.tuple [.agg cu, .bool bu]) sBu := hcu
     have c3u := hrepu.cells3
     have nBu := kBu.1
     obtain ⟨sCu, stou, nCu, gCu, lCu, kCu, hrepu, pbu, gBu⟩ := sto3_of nAu kAu gAu kBu c3u hrepu
     obtain ⟨fR14, hR14, kR14, oR14_12, oR14_13⟩ : ∃ fr', adraw ((gT (m + 2)).cg Y) g51_10 [(13, some 9), (13, some 14)] fR11 s1 = .ok fr' sCu /\ Kp [2, 3, 4, 5, 6] fR11 fr' /\ fr'.get 12 = some (.ptr s1.next 0) /\ fr'.get 13 = some (.bool bu) := by
      refine ⟨?r140, ?r141, ?r142, ?r14o12, ?r14o13⟩
      case r141 =>
       refine adraw_ok (its := ?r14i) ?r14x ?r14y ?r14z
       case r14x =>
        simp only [amE, reduceEqDiff, ↓reduceIte, reduceCtorEq, reduceAdd, drun_cons, drun_nil, DR.cons, oprD, nextId, preA, gR11_2, gR11_3, gR11_7, g51_10, faf, ld0f, ld1f, ld2f, ld3f, hsd, iaud, lxud, iaue, lxue, <- hsAu, gAu, gBu, zb, hcu', exA, exB, stou]
        rfl
       case r14y => rfl
       case r14z =>
        simp only [List.all_cons, List.all_nil, Bool.and_true, Bool.and_eq_true]
        refine ⟨chk_of (i := 13) (k := 9) rfl rfl rfl rfl ?r14k0, chk_of (i := 13) (k := 14) rfl rfl rfl rfl ?r14k1⟩
        case r14k0 =>
         right
         refine ⟨?r14s0, ?r14l0, pbu⟩
         case r14l0 =>
          simp only [amE, reduceEqDiff, ↓reduceIte, reduceCtorEq, reduceAdd, oprD, idAt, nextId, gR11_2, gR11_3, gR11_7, g51_10, faf, ld0f, ld1f, ld2f, ld3f, hsd, iaud, lxud, iaue, lxue, <- hsAu, gAu, gBu, zb, hcu', exA, exB, stou]
          rfl
        case r14k1 =>
         right
         refine ⟨?r14s1, ?r14l1, pbu⟩
         case r14l1 =>
          simp only [amE, reduceEqDiff, ↓reduceIte, reduceCtorEq, reduceAdd, oprD, idAt, nextId, gR11_2, gR11_3, gR11_7, g51_10, faf, ld0f, ld1f, ld2f, ld3f, hsd, iaud, lxud, iaue, lxue, <- hsAu, gAu, gBu, zb, hcu', exA, exB, stou]
          rfl
      case r142 => repeat (first | exact Kp.refl | refine Kp.set (by decide) ?_)
      case r14o12 => simp only [Fr.get_set, reduceEqDiff, ↓reduceIte]
      case r14o13 => simp only [Fr.get_set, reduceEqDiff, ↓reduceIte]
     have gR14_3 := kR14.g 3 gR11_3
     have gR14_4 := kR14.g 4 gR11_4
     have dR14 := kR14.1.trans dR11
     obtain ⟨s7, hc7, k7⟩ := c80 cu sCu c3u.1
     have n7 := k7.1
     obtain ⟨s9, sto9, n9, l9, k9, m9⟩ := fin_of (c := [.int .i64 r', .nilsl, .lst 1 cu true]) n1 k1 g1 (kCu.trans k7) (⟨rfl, rfl⟩)
     obtain ⟨fR15, hR15, kR15, oR15_5⟩ : ∃ fr', arun ((gT (m + 2)).cg Y) g51_11 fR14 sCu = .ok fr' s9 /\ Kp [2, 3, 4, 6] fR14 fr' /\ fr'.get 5 = some (.bool bu) := ⟨_, by simp only [amE, reduceEqDiff, ↓reduceIte, reduceCtorEq, reduceAdd, gR14_3, gR14_4, oR14_12, oR14_13, g51_11, faf, ld0f, ld1f, ld2f, ld3f, lCu, hc7, sto9] <;> rfl, Kp.refl.s.s.s.s.s.s, gh⟩
     have gR15_4 := kR15.g 4 gR14_4
     have dR15 := kR15.1.trans dR14
     refine ⟨_, bu, [.int .i64 r', .nilsl, .lst 1 cu true], s9, ?d15, PL.syncL1 hk h5 hplu, ?rep15, k9⟩
     case d15 =>
      refine fun_of (mf := kf51) (fr := fR15) t51 rfl (.inl ?q15) dR15 (by simp only [kf51, amE, gR15_4, oR15_5, l9])
      case q15 =>
       rw [<- hA1]
       simp only [amE, reduceEqDiff, ↓reduceIte, reduceCtorEq, reduceAdd, kf51, b00, hR2, hR3, hR4, hR5, hR7, hR11, hR14, hR15, oR5_34, oR7_43, oR11_81]
     case rep15 =>
      simp only [RepD, RepTs, RepDs]
      refine ⟨.nilsl, [], .lst 1 cu true, [cu], rfl, SlR.nil _ _, rfl, ?_, cu, [], rfl, (hrepu.mono (Same.of k7 fun i hi => by omega) (fun _ h => h)).mono (m9 _ fun i hi => by omega) (fun i hi => ⟨by omega, by omega⟩), rfl⟩
      have := SlR.lst (fun i => st.next <= i /\ i < s9.next) s9 (n := 1) (xs := [cu]) (ex := true) (fun x hx => by simp only [List.mem_singleton] at hx; subst hx; exact c3u) (by simp) rfl
      simpa using this
   | false =>
    obtain ⟨fR16, hR16, kR16, oR16_106⟩ : ∃ fr', arun ((gT (m + 2)).cg Y) g51_12 fR11 s1 = .ok fr' s1 /\ Kp [2, 3, 4, 5, 6] fR11 fr' /\ fr'.get 106 = some (.bool (B8 && B1)) := by cases B8 <;> exact ⟨_, by simp only [amE, reduceEqDiff, ↓reduceIte, reduceCtorEq, reduceAdd, gR11_3, gR11_6, g51_12, faf, ld0f, ld1f, ld2f, ld3f, e8, e1, Bool.not_true, Bool.not_false] <;> rfl, Kp.refl.s.s.s.s.s.s.s, by simp only [Fr.get_set, reduceEqDiff, ↓reduceIte, amB]⟩
    have gR16_2 := kR16.g 2 gR11_2
    have gR16_3 := kR16.g 3 gR11_3
    have gR16_4 := kR16.g 4 gR11_4
    have gR16_6 := kR16.g 6 gR11_6
    have dR16 := kR16.1.trans dR11
    generalize hhA4 : (B8 && B1) = A4 at *
    cases A4 with
    | true =>
     obtain ⟨h7, h56⟩ := kSR rfl
     have ar1 : arN r = 1 := side_ar h56
     have ar2 : arN r' = 2 := by rw [h7]; rfl
     obtain ⟨d0, rfl⟩ := len1 (l := l) (by omega)
     obtain ⟨e0, e1, rfl⟩ := len2 (l := k) (by omega)
     rcases h56 with h5 | h5
     ·have hk : kind r r' = .syncR := by rw [h7, h5]; decide
      have hsd : sideI r = .ofNat 0 := by rw [h5]; rfl
      obtain ⟨pud, iaud, lxud⟩ := hsl.at (k := 0) (x := d0.cells) (Dv.cellsL_at rfl)
      obtain ⟨pue, iaue, lxue⟩ := hsk.at (k := 0) (x := e0.cells) (Dv.cellsL_at rfl)
      have lxud := fun s => lxud s (f0 s)
      have lxue := fun s => lxue s (f0 s)
      obtain ⟨sAu, hsAu, nAu, kAu, gAu⟩ := new3 s1
      have memu := Dv.fzL_mem (l := [d0]) (t := d0) (by simp)
      obtain ⟨xu, bu, cu, sBu, hcu, hplu, hrepu, kBu⟩ := ih d0.fz (by omega) d0 rfl e0 (m + 2) Y sAu (Dv.okL_mem hokd.2.2.2.2.2 _ (by simp)) (Dv.okL_mem hoke.2.2.2.2.2 _ (by simp)) (goodL_mem hgl _ (by simp)) (goodL_mem hgk _ (by simp)) (by omega)
      have hcu' : ((gT (m + 2)).cg Y).fn 51 [.agg d0.cells, .agg e0.cells] sAu = .ret (.tuple [.agg cu, .bool bu]) sBu := hcu
      have c3u := hrepu.cells3
      have nBu := kBu.1
      obtain ⟨sCu, stou, nCu, gCu, lCu, kCu, hrepu, pbu, gBu⟩ := sto3_of nAu kAu gAu kBu c3u hrepu
      obtain ⟨fR17, hR17, kR17, oR17_14, oR17_15⟩ : ∃ fr', adraw ((gT (m + 2)).cg Y) g51_13 [(13, some 9), (13, some 14)] fR16 s1 = .ok fr' sCu /\ Kp [2, 3, 4, 5, 6] fR16 fr' /\ fr'.get 14 = some (.ptr s1.next 0) /\ fr'.get 15 = some (.bool bu) := by
       refine ⟨?r170, ?r171, ?r172, ?r17o14, ?r17o15⟩
       case r171 =>
        refine adraw_ok (its := ?r17i) ?r17x ?r17y ?r17z
        case r17x =>
         simp only [amE, reduceEqDiff, ↓reduceIte, reduceCtorEq, reduceAdd, drun_cons, drun_nil, DR.cons, oprD, nextId, preA, gR16_2, gR16_3, gR16_6, g51_13, faf, ld0f, ld1f, ld2f, ld3f, hsd, iaud, lxud, iaue, lxue, <- hsAu, gAu, gBu, zb, hcu', exA, exB, stou]
         rfl
        case r17y => rfl
        case r17z =>
         simp only [List.all_cons, List.all_nil, Bool.and_true, Bool.and_eq_true]
         refine ⟨chk_of (i := 13) (k := 9) rfl rfl rfl rfl ?r17k0, chk_of (i := 13) (k := 14) rfl rfl rfl rfl ?r17k1⟩
         case r17k0 =>
          right
          refine ⟨?r17s0, ?r17l0, pbu⟩
          case r17l0 =>
           simp only [amE, reduceEqDiff, ↓reduceIte, reduceCtorEq, reduceAdd, oprD, idAt, nextId, gR16_2, gR16_3, gR16_6, g51_13, faf, ld0f, ld1f, ld2f, ld3f, hsd, iaud, lxud, iaue, lxue, <- hsAu, gAu, gBu, zb, hcu', exA, exB, stou]
           rfl
         case r17k1 =>
          right
          refine ⟨?r17s1, ?r17l1, pbu⟩
          case r17l1 =>
           simp only [amE, reduceEqDiff, ↓reduceIte, reduceCtorEq, reduceAdd, oprD, idAt, nextId, gR16_2, gR16_3, gR16_6, g51_13, faf, ld0f, ld1f, ld2f, ld3f, hsd, iaud, lxud, iaue, lxue, <- hsAu, gAu, gBu, zb, hcu', exA, exB, stou]
           rfl
       case r172 => repeat (first | exact Kp.refl | refine Kp.set (by decide) ?_)
       case r17o14 => simp only [Fr.get_set, reduceEqDiff, ↓reduceIte]
       case r17o15 => simp only [Fr.get_set, reduceEqDiff, ↓reduceIte]
      have gR17_3 := kR17.g 3 gR16_3
      have gR17_4 := kR17.g 4 gR16_4
      have gR17_6 := kR17.g 6 gR16_6
      have dR17 := kR17.1.trans dR16
      have ez : binB false .eql (.int .i64 (.ofNat 0)) (.int .i64 (.ofNat 0)) = some (.bool true) := rfl
      obtain ⟨fR18, hR18, kR18, oR18_121⟩ : ∃ fr', arun ((gT (m + 2)).cg Y) [⟨(some 120), .mv (.t 6), none⟩, ⟨(some 121), .bin false .eql (.t 120) (.c (.int .i64 (.ofNat 0))), none⟩] fR17 sCu = .ok fr' sCu /\ Kp [2, 3, 4, 5, 14, 15] fR17 fr' /\ fr'.get 121 = some (.bool true) := ⟨_, by simp only [amE, reduceEqDiff, ↓reduceIte, reduceCtorEq, reduceAdd, gR17_6, hsd, ez] <;> rfl, Kp.refl.s.s, gh⟩
      have gR18_3 := kR18.g 3 gR17_3
      have gR18_4 := kR18.g 4 gR17_4
      have gR18_14 := kR18.g 14 oR17_14
      have gR18_15 := kR18.g 15 oR17_15
      have dR18 := kR18.1.trans dR17
      obtain ⟨po, iao, lxo⟩ := hsk.at (k := 1) (x := e1.cells) (Dv.cellsL_at rfl)
      have lxo := fun s => lxo s (f0 s)
      have c3o := e1.cells3
      obtain ⟨s7, hc7, k7⟩ := c79 cu e1.cells sCu c3u.1 c3o.1
      have n7 := k7.1
      obtain ⟨s9, sto9, n9, l9, k9, m9⟩ := fin_of (c := [.int .i64 (.ofNat 7), .nilsl, .lst 2 (cu ++ e1.cells) true]) n1 k1 g1 (kCu.trans k7) (⟨rfl, rfl⟩)
      obtain ⟨fR19, hR19, kR19, oR19_5⟩ : ∃ fr', adraw ((gT (m + 2)).cg Y) g51_15 [] fR18 sCu = .ok fr' s9 /\ Kp [2, 3, 4, 14, 15] fR18 fr' /\ fr'.get 5 = some (.bool bu) := by
       refine ⟨?r190, ?r191, ?r192, ?r19o5⟩
       case r191 =>
        refine adraw_ok (its := ?r19i) ?r19x ?r19y ?r19z
        case r19x =>
         simp only [amE, reduceEqDiff, ↓reduceIte, reduceCtorEq, reduceAdd, drun_cons, drun_nil, DR.cons, oprD, nextId, preA, gR18_3, gR18_4, gR18_14, gR18_15, g51_15, faf, ld0f, ld1f, ld2f, ld3f, lCu, iao, lxo, hc7, sto9]
         rfl
        case r19y => rfl
        case r19z =>
         simp only [List.all_cons, List.all_nil, Bool.and_true, Bool.and_eq_true]
       case r192 => repeat (first | exact Kp.refl | refine Kp.set (by decide) ?_)
       case r19o5 => simp only [Fr.get_set, reduceEqDiff, ↓reduceIte]
      have gR19_4 := kR19.g 4 gR18_4
      have dR19 := kR19.1.trans dR18
      refine ⟨_, bu, [.int .i64 (.ofNat 7), .nilsl, .lst 2 (cu ++ e1.cells) true], s9, ?d19, PL.syncR0 hk h5 hplu, ?rep19, k9⟩
      case d19 =>
       refine fun_of (mf := kf51) (fr := fR19) t51 rfl (.inl ?q19) dR19 (by simp only [kf51, amE, gR19_4, oR19_5, l9])
       case q19 =>
        rw [<- hA1]
        simp only [amE, reduceEqDiff, ↓reduceIte, reduceCtorEq, reduceAdd, kf51, b00, hR2, hR3, hR4, hR5, hR7, hR11, hR16, hR17, hR18, hR19, oR5_34, oR7_43, oR11_81, oR16_106, oR18_121]
      case rep19 =>
       simp only [RepD, RepTs, RepDs]
       refine ⟨.nilsl, [], .lst 2 (cu ++ e1.cells) true, [cu, e1.cells], rfl, SlR.nil _ _, rfl, ?_, cu, [e1.cells], rfl, (hrepu.mono (Same.of k7 fun i hi => by omega) (fun _ h => h)).mono (m9 _ fun i hi => by omega) (fun i hi => ⟨by omega, by omega⟩), e1.cells, [], rfl, RepD.line _ s9 e1 (Dv.okL_mem hoke.2.2.2.2.2 _ (by simp)), rfl⟩
       have := SlR.lst (fun i => st.next <= i /\ i < s9.next) s9 (n := 2) (xs := [cu, e1.cells]) (ex := true) (fun x hx => by
        simp only [List.mem_cons, List.not_mem_nil, or_false] at hx
        rcases hx with rfl | rfl
        ·exact c3u
        ·exact c3o) (by simp) rfl
       simpa using this
     ·have hk : kind r r' = .syncR := by rw [h7, h5]; decide
      have hsd : sideI r = .ofNat 1 := by rw [h5]; rfl
      obtain ⟨pud, iaud, lxud⟩ := hsl.at (k := 0) (x := d0.cells) (Dv.cellsL_at rfl)
      obtain ⟨pue, iaue, lxue⟩ := hsk.at (k := 1) (x := e1.cells) (Dv.cellsL_at rfl)
      have lxud := fun s => lxud s (f0 s)
      have lxue := fun s => lxue s (f0 s)
      obtain ⟨sAu, hsAu, nAu, kAu, gAu⟩ := new3 s1
      have memu := Dv.fzL_mem (l := [d0]) (t := d0) (by simp)
      obtain ⟨xu, bu, cu, sBu, hcu, hplu, hrepu, kBu⟩ := ih d0.fz (by omega) d0 rfl e1 (m + 2) Y sAu (Dv.okL_mem hokd.2.2.2.2.2 _ (by simp)) (Dv.okL_mem hoke.2.2.2.2.2 _ (by simp)) (goodL_mem hgl _ (by simp)) (goodL_mem hgk _ (by simp)) (by omega)
      have hcu' : ((gT (m + 2)).cg Y).fn 51 [.agg d0.cells, .agg e1.cells] sAu = .ret (.tuple [.agg cu, .bool bu]) sBu := hcu
      have c3u := hrepu.cells3
      have nBu := kBu.1
      obtain ⟨sCu, stou, nCu, gCu, lCu, kCu, hrepu, pbu, gBu⟩ := sto3_of nAu kAu gAu kBu c3u hrepu
      obtain ⟨fR20, hR20, kR20, oR20_14, oR20_15⟩ : ∃ fr', adraw ((gT (m + 2)).cg Y) g51_13 [(13, some 9), (13, some 14)] fR16 s1 = .ok fr' sCu /\ Kp [2, 3, 4, 5, 6] fR16 fr' /\ fr'.get 14 = some (.ptr s1.next 0) /\ fr'.get 15 = some (.bool bu) := by
       refine ⟨?r200, ?r201, ?r202, ?r20o14, ?r20o15⟩
       case r201 =>
        refine adraw_ok (its := ?r20i) ?r20x ?r20y ?r20z
        case r20x =>
         simp only [amE, reduceEqDiff, ↓reduceIte, reduceCtorEq, reduceAdd, drun_cons, drun_nil, DR.cons, oprD, nextId, preA, gR16_2, gR16_3, gR16_6, g51_13, faf, ld0f, ld1f, ld2f, ld3f, hsd, iaud, lxud, iaue, lxue, <- hsAu, gAu, gBu, zb, hcu', exA, exB, stou]
         rfl
        case r20y => rfl
        case r20z =>
         simp only [List.all_cons, List.all_nil, Bool.and_true, Bool.and_eq_true]
         refine ⟨chk_of (i := 13) (k := 9) rfl rfl rfl rfl ?r20k0, chk_of (i := 13) (k := 14) rfl rfl rfl rfl ?r20k1⟩
         case r20k0 =>
          right
          refine ⟨?r20s0, ?r20l0, pbu⟩
          case r20l0 =>
           simp only [amE, reduceEqDiff, ↓reduceIte, reduceCtorEq, reduceAdd, oprD, idAt, nextId, gR16_2, gR16_3, gR16_6, g51_13, faf, ld0f, ld1f, ld2f, ld3f, hsd, iaud, lxud, iaue, lxue, <- hsAu, gAu, gBu, zb, hcu', exA, exB, stou]
           rfl
         case r20k1 =>
          right
          refine ⟨?r20s1, ?r20l1, pbu⟩
          case r20l1 =>
           simp only [amE, reduceEqDiff, ↓reduceIte, reduceCtorEq, reduceAdd, oprD, idAt, nextId, gR16_2, gR16_3, gR16_6, g51_13, faf, ld0f, ld1f, ld2f, ld3f, hsd, iaud, lxud, iaue, lxue, <- hsAu, gAu, gBu, zb, hcu', exA, exB, stou]
           rfl
       case r202 => repeat (first | exact Kp.refl | refine Kp.set (by decide) ?_)
       case r20o14 => simp only [Fr.get_set, reduceEqDiff, ↓reduceIte]
       case r20o15 => simp only [Fr.get_set, reduceEqDiff, ↓reduceIte]
      have gR20_3 := kR20.g 3 gR16_3
      have gR20_4 := kR20.g 4 gR16_4
      have gR20_6 := kR20.g 6 gR16_6
      have dR20 := kR20.1.trans dR16
      have ez : binB false .eql (.int .i64 (.ofNat 1)) (.int .i64 (.ofNat 0)) = some (.bool false) := rfl
      obtain ⟨fR21, hR21, kR21, oR21_121⟩ : ∃ fr', arun ((gT (m + 2)).cg Y) [⟨(some 120), .mv (.t 6), none⟩, ⟨(some 121), .bin false .eql (.t 120) (.c (.int .i64 (.ofNat 0))), none⟩] fR20 sCu = .ok fr' sCu /\ Kp [2, 3, 4, 5, 14, 15] fR20 fr' /\ fr'.get 121 = some (.bool false) := ⟨_, by simp only [amE, reduceEqDiff, ↓reduceIte, reduceCtorEq, reduceAdd, gR20_6, hsd, ez] <;> rfl, Kp.refl.s.s, gh⟩
      have gR21_3 := kR21.g 3 gR20_3
      have gR21_4 := kR21.g 4 gR20_4
      have gR21_14 := kR21.g 14 oR20_14
      have gR21_15 := kR21.g 15 oR20_15
      have dR21 := kR21.1.trans dR20
      obtain ⟨po, iao, lxo⟩ := hsk.at (k := 0) (x := e0.cells) (Dv.cellsL_at rfl)
      have lxo := fun s => lxo s (f0 s)
      have c3o := e0.cells3
      obtain ⟨s7, hc7, k7⟩ := c79 e0.cells cu sCu c3o.1 c3u.1
      have n7 := k7.1
      obtain ⟨s9, sto9, n9, l9, k9, m9⟩ := fin_of (c := [.int .i64 (.ofNat 7), .nilsl, .lst 2 (e0.cells ++ cu) true]) n1 k1 g1 (kCu.trans k7) (⟨rfl, rfl⟩)
      obtain ⟨fR22, hR22, kR22, oR22_5⟩ : ∃ fr', adraw ((gT (m + 2)).cg Y) g51_16 [] fR21 sCu = .ok fr' s9 /\ Kp [2, 3, 4] fR21 fr' /\ fr'.get 5 = some (.bool bu) := by
       refine ⟨?r220, ?r221, ?r222, ?r22o5⟩
       case r221 =>
        refine adraw_ok (its := ?r22i) ?r22x ?r22y ?r22z
        case r22x =>
         simp only [amE, reduceEqDiff, ↓reduceIte, reduceCtorEq, reduceAdd, drun_cons, drun_nil, DR.cons, oprD, nextId, preA, gR21_3, gR21_4, gR21_14, gR21_15, g51_16, faf, ld0f, ld1f, ld2f, ld3f, lCu, iao, lxo, hc7, sto9]
         rfl
        case r22y => rfl
        case r22z =>
         simp only [List.all_cons, List.all_nil, Bool.and_true, Bool.and_eq_true]
       case r222 => repeat (first | exact Kp.refl | refine Kp.set (by decide) ?_)
       case r22o5 => simp only [Fr.get_set, reduceEqDiff, ↓reduceIte]
      have gR22_4 := kR22.g 4 gR21_4
      have dR22 := kR22.1.trans dR21
      refine ⟨_, bu, [.int .i64 (.ofNat 7), .nilsl, .lst 2 (e0.cells ++ cu) true], s9, ?d22, PL.syncR1 hk h5 hplu, ?rep22, k9⟩
      case d22 =>
       refine fun_of (mf := kf51) (fr := fR22) t51 rfl (.inl ?q22) dR22 (by simp only [kf51, amE, gR22_4, oR22_5, l9])
       case q22 =>
        rw [<- hA1]
        simp only [amE, reduceEqDiff, ↓reduceIte, reduceCtorEq, reduceAdd, kf51, b00, hR2, hR3, hR4, hR5, hR7, hR11, hR16, hR20, hR21, hR22, oR5_34, oR7_43, oR11_81, oR16_106, oR21_121]
      case rep22 =>
       simp only [RepD, RepTs, RepDs]
       refine ⟨.nilsl, [], .lst 2 (e0.cells ++ cu) true, [e0.cells, cu], rfl, SlR.nil _ _, rfl, ?_, e0.cells, [cu], rfl, RepD.line _ s9 e0 (Dv.okL_mem hoke.2.2.2.2.2 _ (by simp)), cu, [], rfl, (hrepu.mono (Same.of k7 fun i hi => by omega) (fun _ h => h)).mono (m9 _ fun i hi => by omega) (fun i hi => ⟨by omega, by omega⟩), rfl⟩
       have := SlR.lst (fun i => st.next <= i /\ i < s9.next) s9 (n := 2) (xs := [e0.cells, cu]) (ex := true) (fun x hx => by
        simp only [List.mem_cons, List.not_mem_nil, or_false] at hx
        rcases hx with rfl | rfl
        ·exact c3o
        ·exact c3u) (by simp) rfl
       simpa using this
    | false =>
     obtain ⟨fR23, hR23, kR23, oR23_154⟩ : ∃ fr', arun ((gT (m + 2)).cg Y) g51_17 fR16 s1 = .ok fr' s1 /\ Kp [2, 3, 4, 5] fR16 fr' /\ fr'.get 154 = some (.bool ((N1 || N2) || !SV)) := by cases N1 <;> cases N2 <;> exact ⟨_, by simp only [amE, reduceEqDiff, ↓reduceIte, reduceCtorEq, reduceAdd, gR16_2, gR16_3, g51_17, faf, ld0f, ld1f, ld2f, ld3f, lenl, e4, e5, c81, unN, Bool.not_true, Bool.not_false] <;> rfl, Kp.refl.s.s.s.s.s.s.s.s.s.s.s.s.s.s.s.s.s.s.s, by simp only [Fr.get_set, reduceEqDiff, ↓reduceIte, amB]⟩
     have gR23_2 := kR23.g 2 gR16_2
     have gR23_3 := kR23.g 3 gR16_3
     have gR23_4 := kR23.g 4 gR16_4
     have dR23 := kR23.1.trans dR16
     generalize hhA5 : ((N1 || N2) || !SV) = A5 at *
     cases A5 with
     | true =>
      obtain ⟨s9, sto9, n9, l9, k9, m9⟩ := fin_of (c := [.int .i64 (.ofNat 0), .nilsl, .nilsl]) n1 k1 g1 (Keeps.refl s1) (⟨rfl, rfl⟩)
      obtain ⟨fR24, hR24, kR24, oR24_5⟩ : ∃ fr', arun ((gT (m + 2)).cg Y) g51_18 fR23 s1 = .ok fr' s9 /\ Kp [2, 3, 4] fR23 fr' /\ fr'.get 5 = some (.bool false) := ⟨_, by simp only [amE, reduceEqDiff, ↓reduceIte, reduceCtorEq, reduceAdd, gR23_4, g51_18, faf, ld0f, ld1f, ld2f, ld3f, fz0, sto9] <;> rfl, Kp.refl.s.s, gh⟩
      have gR24_4 := kR24.g 4 gR23_4
      have dR24 := kR24.1.trans dR23
      refine ⟨.mk 0 true false [] true false [], false, [.int .i64 (.ofNat 0), .nilsl, .nilsl], s9, ?d24, PL.no (kNo (kR rfl rfl rfl rfl) rfl), ?rep24, k9⟩
      case d24 =>
       refine fun_of (mf := kf51) (fr := fR24) t51 rfl (.inl ?q24) dR24 (by simp only [kf51, amE, gR24_4, oR24_5, l9])
       case q24 =>
        rw [<- hA1]
        simp only [amE, reduceEqDiff, ↓reduceIte, reduceCtorEq, reduceAdd, kf51, b00, hR2, hR3, hR4, hR5, hR7, hR11, hR16, hR23, hR24, oR5_34, oR7_43, oR11_81, oR16_106, oR23_154]
      case rep24 =>
       simp only [RepD]
       exact ⟨.nilsl, [], .nilsl, [], rfl, SlR.nil _ _, by simp only [RepTs], SlR.nil _ _, by simp only [RepDs]⟩
     | false =>
      obtain ⟨hrr, hl1, hv0⟩ := kYes rfl
      have ar1 : arN r = 1 := by omega
      have ar2 : arN r' = 1 := by rw [<- hrr]; exact ar1
      have hkr := kR rfl rfl rfl rfl
      obtain ⟨d0, rfl⟩ := len1 (l := l) (by omega)
      obtain ⟨e0, rfl⟩ := len1 (l := k) (by omega)
      obtain ⟨pud, iaud, lxud⟩ := hsl.at (k := 0) (x := d0.cells) (Dv.cellsL_at rfl)
      obtain ⟨pue, iaue, lxue⟩ := hsk.at (k := 0) (x := e0.cells) (Dv.cellsL_at rfl)
      have lxud := fun s => lxud s (f0 s)
      have lxue := fun s => lxue s (f0 s)
      obtain ⟨sAu, hsAu, nAu, kAu, gAu⟩ := new3 s1
      have memu := Dv.fzL_mem (l := [d0]) (t := d0) (by simp)
      obtain ⟨xu, bu, cu, sBu, hcu, hplu, hrepu, kBu⟩ := ih d0.fz (by omega) d0 rfl e0 (m + 2) Y sAu (Dv.okL_mem hokd.2.2.2.2.2 _ (by simp)) (Dv.okL_mem hoke.2.2.2.2.2 _ (by simp)) (goodL_mem hgl _ (by simp)) (goodL_mem hgk _ (by simp)) (by omega)
      have hcu' : ((gT (m + 2)).cg Y).fn 51 [.agg d0.cells, .agg e0.cells] sAu = .ret (.tuple [.agg cu, .bool bu]) sBu := hcu
      have c3u := hrepu.cells3
      have nBu := kBu.1
      obtain ⟨sCu, stou, nCu, gCu, lCu, kCu, hrepu, pbu, gBu⟩ := sto3_of nAu kAu gAu kBu c3u hrepu
      obtain ⟨fR25, hR25, kR25, oR25_16, oR25_17⟩ : ∃ fr', adraw ((gT (m + 2)).cg Y) g51_19 [(12, some 8), (12, some 13)] fR23 s1 = .ok fr' sCu /\ Kp [3, 4, 5] fR23 fr' /\ fr'.get 16 = some (.ptr s1.next 0) /\ fr'.get 17 = some (.bool bu) := by
       refine ⟨?r250, ?r251, ?r252, ?r25o16, ?r25o17⟩
       case r251 =>
        refine adraw_ok (its := ?r25i) ?r25x ?r25y ?r25z
        case r25x =>
         simp only [amE, reduceEqDiff, ↓reduceIte, reduceCtorEq, reduceAdd, drun_cons, drun_nil, DR.cons, oprD, nextId, preA, gR23_2, gR23_3, g51_19, faf, ld0f, ld1f, ld2f, ld3f, iaud, lxud, iaue, lxue, <- hsAu, gAu, gBu, zb, hcu', exA, exB, stou]
         rfl
        case r25y => rfl
        case r25z =>
         simp only [List.all_cons, List.all_nil, Bool.and_true, Bool.and_eq_true]
         refine ⟨chk_of (i := 12) (k := 8) rfl rfl rfl rfl ?r25k0, chk_of (i := 12) (k := 13) rfl rfl rfl rfl ?r25k1⟩
         case r25k0 =>
          right
          refine ⟨?r25s0, ?r25l0, pbu⟩
          case r25l0 =>
           simp only [amE, reduceEqDiff, ↓reduceIte, reduceCtorEq, reduceAdd, oprD, idAt, nextId, gR23_2, gR23_3, g51_19, faf, ld0f, ld1f, ld2f, ld3f, iaud, lxud, iaue, lxue, <- hsAu, gAu, gBu, zb, hcu', exA, exB, stou]
           rfl
         case r25k1 =>
          right
          refine ⟨?r25s1, ?r25l1, pbu⟩
          case r25l1 =>
           simp only [amE, reduceEqDiff, ↓reduceIte, reduceCtorEq, reduceAdd, oprD, idAt, nextId, gR23_2, gR23_3, g51_19, faf, ld0f, ld1f, ld2f, ld3f, iaud, lxud, iaue, lxue, <- hsAu, gAu, gBu, zb, hcu', exA, exB, stou]
           rfl
       case r252 => repeat (first | exact Kp.refl | refine Kp.set (by decide) ?_)
       case r25o16 => simp only [Fr.get_set, reduceEqDiff, ↓reduceIte]
       case r25o17 => simp only [Fr.get_set, reduceEqDiff, ↓reduceIte]
      have gR25_3 := kR25.g 3 gR23_3
      have gR25_4 := kR25.g 4 gR23_4
      have dR25 := kR25.1.trans dR23
      obtain ⟨fR26, hR26, kR26, oR26_169⟩ : ∃ fr', arun ((gT (m + 2)).cg Y) [⟨(some 168), .faddr 0 (.t 3), none⟩, ⟨(some 169), .load false 1 (.t 168), none⟩] fR25 sCu = .ok fr' sCu /\ Kp [3, 4, 5, 16, 17] fR25 fr' /\ fr'.get 169 = some (.int .i64 r') := ⟨_, by simp only [amE, reduceEqDiff, ↓reduceIte, reduceCtorEq, reduceAdd, gR25_3, faf, ld0f, ld1f, ld2f, ld3f] <;> rfl, Kp.refl.s.s, gh⟩
      have gR26_3 := kR26.g 3 gR25_3
      have gR26_4 := kR26.g 4 gR25_4
      have gR26_16 := kR26.g 16 oR25_16
      have gR26_17 := kR26.g 17 oR25_17
      have dR26 := kR26.1.trans dR25
      obtain ⟨fKa, hKa, kKa, oKa⟩ := sf51_0_run (Γ := (gT (m + 2))) (Y := Y) (m := m + 2) (st := sCu) oR26_169
      have gKa_3 := kKa.at (k := 3) (by decide) gR26_3
      have gKa_4 := kKa.at (k := 4) (by decide) gR26_4
      have gKa_16 := kKa.at (k := 16) (by decide) gR26_16
      have gKa_17 := kKa.at (k := 17) (by decide) gR26_17
      have gKa_169 := kKa.at (k := 169) (by decide) oR26_169
      have dKa := kKa.1.trans dR26
      generalize hvKa : keepsB r' = Ka at *
      cases Ka with
      | true =>
       have hk : kind r r' = .keep := by rw [hkr, hrr, hvKa]; simp
       obtain rfl : ws = [] := List.length_eq_zero_iff.1 (by have := keeps_va hvKa; omega)
       obtain ⟨s7, hc7, k7⟩ := c80 cu sCu c3u.1
       have n7 := k7.1
       obtain ⟨s9, sto9, n9, l9, k9, m9⟩ := fin_of (c := [.int .i64 r', .nilsl, .lst 1 cu true]) n1 k1 g1 (kCu.trans k7) (⟨rfl, rfl⟩)
       obtain ⟨fR27, hR27, kR27, oR27_5⟩ : ∃ fr', arun ((gT (m + 2)).cg Y) g51_27 fKa sCu = .ok fr' s9 /\ Kp [4, 16, 17, 169] fKa fr' /\ fr'.get 5 = some (.bool bu) := ⟨_, by simp only [amE, reduceEqDiff, ↓reduceIte, reduceCtorEq, reduceAdd, gKa_3, gKa_4, gKa_16, gKa_17, g51_27, faf, ld0f, ld1f, ld2f, ld3f, lCu, hc7, sto9] <;> rfl, Kp.refl.s.s.s.s.s.s, gh⟩
       have gR27_4 := kR27.g 4 gKa_4
       have dR27 := kR27.1.trans dKa
       refine ⟨_, bu, [.int .i64 r', .nilsl, .lst 1 cu true], s9, ?d27, PL.keep hk hplu, ?rep27, k9⟩
       case d27 =>
        refine fun_of (mf := kf51) (fr := fR27) t51 rfl (.inl ?q27) dR27 (by simp only [kf51, amE, gR27_4, oR27_5, l9])
        case q27 =>
         rw [<- hA1]
         simp only [amE, reduceEqDiff, ↓reduceIte, reduceCtorEq, reduceAdd, kf51, b00, hR2, hR3, hR4, hR5, hR7, hR11, hR16, hR23, hR25, hR26, hKa, hR27, oR5_34, oR7_43, oR11_81, oR16_106, oR23_154, oKa]
       case rep27 =>
        simp only [RepD, RepTs, RepDs]
        refine ⟨.nilsl, [], .lst 1 cu true, [cu], rfl, SlR.nil _ _, rfl, ?_, cu, [], rfl, (hrepu.mono (Same.of k7 fun i hi => by omega) (fun _ h => h)).mono (m9 _ fun i hi => by omega) (fun i hi => ⟨by omega, by omega⟩), rfl⟩
        have := SlR.lst (fun i => st.next <= i /\ i < s9.next) s9 (n := 1) (xs := [cu]) (ex := true) (fun x hx => by simp only [List.mem_singleton] at hx; subst hx; exact c3u) (by simp) rfl
        simpa using this
      | false =>
       obtain ⟨fKb, hKb, kKb, oKb⟩ := sf51_1_run (Γ := (gT (m + 2))) (Y := Y) (m := m + 2) (st := sCu) gKa_169
       have gKb_3 := kKb.at (k := 3) (by decide) gKa_3
       have gKb_4 := kKb.at (k := 4) (by decide) gKa_4
       have gKb_16 := kKb.at (k := 16) (by decide) gKa_16
       have gKb_17 := kKb.at (k := 17) (by decide) gKa_17
       have gKb_169 := kKb.at (k := 169) (by decide) gKa_169
       have dKb := kKb.1.trans dKa
       generalize hvKb : losesB r' = Kb at *
       cases Kb with
       | true =>
        have hk : kind r r' = .lose := by rw [hkr, hrr, hvKa, hvKb]; simp
        obtain ⟨s9, sto9, n9, l9, k9, m9⟩ := fin_of (c := cu) n1 k1 g1 kCu (hrepu.cells3)
        obtain ⟨fR28, hR28, kR28, oR28_5⟩ : ∃ fr', arun ((gT (m + 2)).cg Y) g51_35 fKb sCu = .ok fr' s9 /\ Kp [4] fKb fr' /\ fr'.get 5 = some (.bool bu) := ⟨_, by simp only [amE, reduceEqDiff, ↓reduceIte, reduceCtorEq, reduceAdd, gKb_4, gKb_16, gKb_17, g51_35, faf, ld0f, ld1f, ld2f, ld3f, lCu, sto9] <;> rfl, Kp.refl.s.s.s, gh⟩
        have gR28_4 := kR28.g 4 gKb_4
        have dR28 := kR28.1.trans dKb
        refine ⟨xu, bu, cu, s9, ?d28, PL.lose hk hv0 hplu, ?rep28, k9⟩
        case d28 =>
         refine fun_of (mf := kf51) (fr := fR28) t51 rfl (.inl ?q28) dR28 (by simp only [kf51, amE, gR28_4, oR28_5, l9])
         case q28 =>
          rw [<- hA1]
          simp only [amE, reduceEqDiff, ↓reduceIte, reduceCtorEq, reduceAdd, kf51, b00, hR2, hR3, hR4, hR5, hR7, hR11, hR16, hR23, hR25, hR26, hKa, hKb, hR28, oR5_34, oR7_43, oR11_81, oR16_106, oR23_154, oKa, oKb]
        case rep28 =>
         exact hrepu.mono (m9 _ fun i hi => by omega) (fun i hi => ⟨by omega, by omega⟩)
       | false =>
        have hk : kind r r' = .none := by rw [hkr, hrr, hvKa, hvKb]; simp
        obtain ⟨s9, sto9, n9, l9, k9, m9⟩ := fin_of (c := [.int .i64 (.ofNat 0), .nilsl, .nilsl]) n1 k1 g1 kCu (⟨rfl, rfl⟩)
        obtain ⟨fR29, hR29, kR29, oR29_5⟩ : ∃ fr', arun ((gT (m + 2)).cg Y) g51_36 fKb sCu = .ok fr' s9 /\ Kp [4] fKb fr' /\ fr'.get 5 = some (.bool false) := ⟨_, by simp only [amE, reduceEqDiff, ↓reduceIte, reduceCtorEq, reduceAdd, gKb_4, g51_36, faf, ld0f, ld1f, ld2f, ld3f, fz0, sto9] <;> rfl, Kp.refl.s.s, gh⟩
        have gR29_4 := kR29.g 4 gKb_4
        have dR29 := kR29.1.trans dKb
        refine ⟨.mk 0 true false [] true false [], false, [.int .i64 (.ofNat 0), .nilsl, .nilsl], s9, ?d29, PL.no (.inl hk), ?rep29, k9⟩
        case d29 =>
         refine fun_of (mf := kf51) (fr := fR29) t51 rfl (.inl ?q29) dR29 (by simp only [kf51, amE, gR29_4, oR29_5, l9])
         case q29 =>
          rw [<- hA1]
          simp only [amE, reduceEqDiff, ↓reduceIte, reduceCtorEq, reduceAdd, kf51, b00, hR2, hR3, hR4, hR5, hR7, hR11, hR16, hR23, hR25, hR26, hKa, hKb, hR29, oR5_34, oR7_43, oR11_81, oR16_106, oR23_154, oKa, oKb]
        case rep29 =>
         simp only [RepD]
         exact ⟨.nilsl, [], .nilsl, [], rfl, SlR.nil _ _, by simp only [RepTs], SlR.nil _ _, by simp only [RepDs]⟩
end Go.AM.D16
