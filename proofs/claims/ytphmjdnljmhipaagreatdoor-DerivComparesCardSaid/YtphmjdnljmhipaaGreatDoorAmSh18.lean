import Derived.Test.YtphmjdnljmhipaaGreatDoorAmSh17
import Derived.Test.YtphmjdnljmhipaaGreatDoorAmSh8
set_option linter.unusedSimpArgs false
set_option linter.unusedVariables false
set_option maxRecDepth 100000
namespace Go.AM.D16
open Go Go.AM
noncomputable section
open Nat (reduceEqDiff reduceAdd)
def g16_0 : List MOper := [⟨(some 2), .box true (.t 0), none⟩, ⟨(some 3), .box true (.t 1), none⟩, ⟨(some 4), .alloc [(.int .i64 (.ofNat 0)), .nilsl, .nilsl], none⟩, ⟨(some 5), .mv (.c (.bool false)), none⟩, ⟨(some 6), .mv (.c (.int .i64 (.ofNat 0))), none⟩]
def g16_1 : List MOper := [⟨(some 9), .load true 3 (.t 2), none⟩, ⟨(some 10), .call (.c (.func (.func 49) [] [])) [(.t 9)], none⟩, ⟨(some 11), .un .not (.t 10), none⟩, ⟨(some 12), .mv (.t 11), none⟩, ⟨(some 13), .load true 3 (.t 3), (some (12, false))⟩, ⟨(some 14), .call (.c (.func (.func 49) [] [])) [(.t 13)], (some (12, false))⟩, ⟨(some 15), .un .not (.t 14), (some (12, false))⟩, ⟨(some 16), .pick (.t 12) (.c (.bool true)) (.t 15), none⟩]
def g16_2 : List MOper := [⟨(some 17), .build [(.int .i64 (.ofNat 0)), .nilsl, .nilsl] [], none⟩, ⟨none, .store 3 (.t 4) (.t 17), none⟩, ⟨(some 5), .mv (.c (.bool false)), none⟩, ⟨(some 6), .mv (.c (.int .i64 (.ofNat 160))), none⟩]
def g16_3 : List MOper := [⟨(some 19), .load true 3 (.t 2), none⟩, ⟨(some 20), .load true 3 (.t 3), none⟩, ⟨(some 21), .call (.c (.func (.func 51) [] [])) [(.t 19), (.t 20)], none⟩, ⟨(some 18), .mv (.t 21), none⟩, ⟨(some 22), .extract 0 (.t 18), none⟩, ⟨(some 23), .extract 1 (.t 18), none⟩, ⟨(some 7), .alloc [(.int .i64 (.ofNat 0)), .nilsl, .nilsl], none⟩, ⟨none, .store 3 (.t 7) (.t 22), none⟩, ⟨(some 8), .mv (.t 23), none⟩]
def g16_5 : List MOper := [⟨(some 26), .build [(.int .i64 (.ofNat 0)), .nilsl, .nilsl] [], none⟩, ⟨none, .store 3 (.t 4) (.t 26), none⟩, ⟨(some 5), .mv (.c (.bool false)), none⟩, ⟨(some 6), .mv (.c (.int .i64 (.ofNat 0))), none⟩]
def g16_6 : List MOper := [⟨(some 27), .load true 3 (.t 7), none⟩, ⟨none, .store 3 (.t 4) (.t 27), none⟩, ⟨(some 5), .mv (.c (.bool true)), none⟩, ⟨(some 6), .mv (.c (.int .i64 (.ofNat 0))), none⟩]
def kf16 : MFunc := ⟨28, (.seq (.region g16_0)
 (.seq (.seq (.region g16_1)
 (.cond (.t 16)
 (.seq (.region g16_2)
 .ret)
 .skip))
 (.seq (.region g16_3)
 (.seq (.seq (.region [⟨(some 24), .mv (.t 8), none⟩, ⟨(some 25), .un .not (.t 24), none⟩])
 (.cond (.t 25)
 (.seq (.region g16_5)
 .ret)
 .skip))
 (.seq (.region g16_6)
 .ret))))), [.cell 4 true 3, .t 5, .t 6]⟩
theorem t16 : tbl 16 = some kf16 := by kernel_rfl
def RBehindR (n : Nat) (Y : Yenv) (d e : Dv) (st : St) : Prop := ∃ cs b er st', R n Y 16 [.agg d.cells, .agg e.cells] st = .ret (.tuple [.agg cs, .bool b, .int .i64 er]) st' /\ Keeps st st' /\ (cs.length = 3 /\ cs.all AV.one = true) ∧
 (((isDv d && isDv e) = false /\ b = false /\ er = .ofNat 160 /\ cs = [.int .i64 (.ofNat 0), .nilsl, .nilsl]) \/ (isDv d = true /\ isDv e = true /\ er = .ofNat 0 /\ ∃ x, PL d e x b /\ (b = false -> cs = [.int .i64 (.ofNat 0), .nilsl, .nilsl]) /\ (b = true -> RepD (fun i => st.next <= i /\ i < st'.next) st' x cs)))
theorem RBehind_run (d e : Dv) (n : Nat) (Y : Yenv) (st : St) (hd : d.ok) (he : e.ok) (hn : d.fz + 4102 <= n) (hn' : e.fz + 4102 <= n) : RBehindR n Y d e st := by
 obtain ⟨m, rfl⟩ : ∃ m, n = m + 1 := ⟨n - 1, by omega⟩
 have b00 : Nat.beq 0 0 = true := rfl
 have hz3 : ([AV.int .i64 (.ofNat 0), .nilsl, .nilsl] : List AV).length = 3 /\ ([AV.int .i64 (.ofNat 0), .nilsl, .nilsl] : List AV).all AV.one = true := ⟨rfl, rfl⟩
 have hcd := d.cells3
 have hce := e.cells3
 obtain ⟨s1, hs1⟩ : ∃ s1, s1 = st.new (.row [.int .i64 (.ofNat 0), .nilsl, .nilsl]) := ⟨_, rfl⟩
 have n1 : s1.next = st.next + 1 := by rw [hs1]; rfl
 have k1 : Keeps st s1 := by rw [hs1]; exact Keeps.new _ _
 have g1 : s1.get st.next = some (.row [.int .i64 (.ofNat 0), .nilsl, .nilsl]) := by rw [hs1, St.get_new, if_pos rfl]
 obtain ⟨s2, c2, k2⟩ := rIsD_run d m Y (fun _ => False) s1 d.cells (RepD.line _ _ d hd) (fun _ h => h.elim) (by omega)
 obtain ⟨s3, c3, k3⟩ := rIsD_run e m Y (fun _ => False) s2 e.cells (RepD.line _ _ e he) (fun _ h => h.elim) (by omega)
 have c2' : ((gT m).cg Y).fn 49 [.agg d.cells] s1 = .ret (.bool (isDv d)) s2 := c2
 have c3' : ((gT m).cg Y).fn 49 [.agg e.cells] s2 = .ret (.bool (isDv e)) s3 := c3
 have g2 := k2.get (i := st.next) (by omega) g1
 have g3 := k3.get (i := st.next) (by have := k2.1; omega) g2
 have fz0 : fillA [.int .i64 (.ofNat 0), .nilsl, .nilsl] [] = some [.int .i64 (.ofNat 0), .nilsl, .nilsl] := rfl
 have hbeh : isDv d = true -> isDv e = true -> PastR m Y d e s3 := fun h h' => past_run d e m Y s3 hd he ((isDv_iff d).1 h).1 ((isDv_iff e).1 h').1 (by omega)
 have exA : ∀ (a b : AV), extractA 0 (.tuple [a, b]) = some a := fun _ _ => rfl
 have exB : ∀ (a b : AV), extractA 1 (.tuple [a, b]) = some b := fun _ _ => rfl
 unfold RBehindR
 unfold PastR at hbeh
 generalize isDv d = D1 at *
 generalize isDv e = D2 at *
 have hout : ∀ er (b : Bool) cs s (fr : Fr), acode (gT m) Y m kf16.code none (frOf 0 [.agg d.cells, .agg e.cells] Fr.nil) st = .ret fr s -> fr.ds = [] -> fr.get 4 = some (.ptr st.next 0) -> fr.get 5 = some (.bool b) -> fr.get 6 = some (.int .i64 er) -> s.get st.next = some (.row cs) -> cs.length = 3 ->
   R (m + 1) Y 16 [.agg d.cells, .agg e.cells] st = .ret (.tuple [.agg cs, .bool b, .int .i64 er]) s := fun er b cs s fr h hd g4 g5 g6 hg hl =>
  fun_of (mf := kf16) t16 rfl (.inl h) hd (by simp only [kf16, amE, g4, g5, g6, load_row hg hl])
 obtain ⟨dc, hdc⟩ : ∃ dc, dc = d.cells := ⟨_, rfl⟩
 obtain ⟨ec, hec⟩ : ∃ ec, ec = e.cells := ⟨_, rfl⟩
 rw [<- hdc] at hcd c2' hbeh hout ⊢
 rw [<- hec] at hce c3' hbeh hout ⊢
 clear c2 c3
 obtain ⟨a, b, c, rfl⟩ : ∃ a b c, dc = [a, b, c] := by
  match dc, hcd.1 with
  | [a, b, c], _ => exact ⟨a, b, c, rfl⟩
 obtain ⟨a', b', c', rfl⟩ : ∃ a b c, ec = [a, b, c] := by
  match ec, hce.1 with
  | [a, b, c], _ => exact ⟨a, b, c, rfl⟩
 obtain ⟨fA1, hA1⟩ : ∃ fA, fA = frOf 0 [.agg [a, b, c], .agg [a', b', c']] Fr.nil := ⟨_, rfl⟩
 have gA1_0 : fA1.get 0 = some (.agg [a, b, c]) := by rw [hA1]; simp only [frOf, Fr.get_set, reduceAdd, reduceEqDiff, ↓reduceIte]
 have gA1_1 : fA1.get 1 = some (.agg [a', b', c']) := by rw [hA1]; simp only [frOf, Fr.get_set, reduceAdd, reduceEqDiff, ↓reduceIte]
 have dA1 : fA1.ds = [] := by rw [hA1]; rfl
 obtain ⟨fR2, hR2, kR2, oR2_2, oR2_3, oR2_4, oR2_5, oR2_6⟩ : ∃ fr', arun ((gT m).cg Y) g16_0 fA1 st = .ok fr' s1 /\ Kp [] fA1 fr' /\ fr'.get 2 = some (.fptr [a, b, c] 0) /\ fr'.get 3 = some (.fptr [a', b', c'] 0) /\ fr'.get 4 = some (.ptr st.next 0) /\ fr'.get 5 = some (.bool false) /\ fr'.get 6 = some (.int .i64 (.ofNat 0)) := ⟨_, by simp only [amE, reduceEqDiff, ↓reduceIte, reduceCtorEq, reduceAdd, gA1_0, gA1_1, g16_0, <- hs1] <;> rfl, Kp.refl.s.s.s.s.s, gn (gn (gn (gn gh))), gn (gn (gn gh)), gn (gn gh), gn gh, gh⟩
 have dR2 := kR2.1.trans dA1
 cases D1 with
 | true =>
  cases D2 with
  | true =>
   obtain ⟨fR3, hR3, kR3, oR3_16⟩ : ∃ fr', arun ((gT m).cg Y) g16_1 fR2 s1 = .ok fr' s3 /\ Kp [2, 3, 4, 5, 6] fR2 fr' /\ fr'.get 16 = some (.bool false) := ⟨_, by simp only [amE, reduceEqDiff, ↓reduceIte, reduceCtorEq, reduceAdd, oR2_2, oR2_3, g16_1, ld3f, c2', c3', unN, Bool.not_true, Bool.not_false] <;> rfl, Kp.refl.s.s.s.s.s.s.s.s, gh⟩
   have gR3_2 := kR3.g 2 oR2_2
   have gR3_3 := kR3.g 3 oR2_3
   have gR3_4 := kR3.g 4 oR2_4
   have dR3 := kR3.1.trans dR2
   obtain ⟨x, bx, cx, s4, hcx, hpl, hrep, k4⟩ := hbeh rfl rfl
   have hcx' : ((gT m).cg Y).fn 51 [.agg [a, b, c], .agg [a', b', c']] s3 = .ret (.tuple [.agg cx, .bool bx]) s4 := hcx
   have cx3 := hrep.cells3
   obtain ⟨s5, sto5, k5, g5, n5⟩ := next_el s4 (x := cx) (zs := [.int .i64 (.ofNat 0), .nilsl, .nilsl]) rfl cx3
   have l5 := load_row g5 cx3.1
   have gz5 := k5.get (i := st.next) (by have := k2.1; have := k3.1; have := k4.1; omega) (k4.get (by have := k2.1; have := k3.1; omega) g3)
   have K5 := (((k1.trans k2).trans k3).trans k4).trans k5
   obtain ⟨fR4, hR4, kR4, oR4_7, oR4_8⟩ : ∃ fr', arun ((gT m).cg Y) g16_3 fR3 s3 = .ok fr' s5 /\ Kp [4, 5, 6] fR3 fr' /\ fr'.get 7 = some (.ptr s4.next 0) /\ fr'.get 8 = some (.bool bx) := ⟨_, by simp only [amE, reduceEqDiff, ↓reduceIte, reduceCtorEq, reduceAdd, gR3_2, gR3_3, g16_3, ld3f, hcx', exA, exB, sto5] <;> rfl, Kp.refl.s.s.s.s.s.s.s.s, gn gh, gh⟩
   have gR4_4 := kR4.g 4 gR3_4
   have dR4 := kR4.1.trans dR3
   obtain ⟨fR5, hR5, kR5, oR5_25⟩ : ∃ fr', arun ((gT m).cg Y) [⟨(some 24), .mv (.t 8), none⟩, ⟨(some 25), .un .not (.t 24), none⟩] fR4 s5 = .ok fr' s5 /\ Kp [4, 5, 6, 7] fR4 fr' /\ fr'.get 25 = some (.bool (!bx)) := ⟨_, by simp only [amE, reduceEqDiff, ↓reduceIte, reduceCtorEq, reduceAdd, oR4_8, unN, Bool.not_true, Bool.not_false] <;> rfl, Kp.refl.s.s, gh⟩
   have gR5_4 := kR5.g 4 gR4_4
   have gR5_7 := kR5.g 7 oR4_7
   have dR5 := kR5.1.trans dR4
   cases bx with
   | true =>
    have sto9 := st3 gz5 rfl cx3
    obtain ⟨s9, hs9⟩ : ∃ s, s = s5.put st.next (.row cx) := ⟨_, rfl⟩
    rw [<- hs9] at sto9
    have n9 : s9.next = s5.next := by rw [hs9]; rfl
    have g9 : s9.get st.next = some (.row cx) := by rw [hs9, St.get_put, if_pos rfl]
    obtain ⟨fR6, hR6, kR6, oR6_5, oR6_6⟩ : ∃ fr', arun ((gT m).cg Y) g16_6 fR5 s5 = .ok fr' s9 /\ Kp [4] fR5 fr' /\ fr'.get 5 = some (.bool true) /\ fr'.get 6 = some (.int .i64 (.ofNat 0)) := ⟨_, by simp only [amE, reduceEqDiff, ↓reduceIte, reduceCtorEq, reduceAdd, gR5_4, gR5_7, g16_6, l5, sto9] <;> rfl, Kp.refl.s.s.s, gn gh, gh⟩
    have gR6_4 := kR6.g 4 gR5_4
    have dR6 := kR6.1.trans dR5
    refine ⟨cx, true, _, s9, hout _ _ _ _ fR6 ?q6 dR6 gR6_4 oR6_5 oR6_6 g9 cx3.1, by rw [hs9]; exact K5.put' _ _ (Nat.le_refl _), cx3, .inr ⟨rfl, rfl, rfl, x, hpl, fun h => (by cases h), fun _ => ?z6⟩⟩
    case q6 =>
     rw [<- hA1]
     simp only [amE, reduceEqDiff, ↓reduceIte, reduceCtorEq, reduceAdd, kf16, hR2, hR3, hR4, hR5, hR6, oR3_16, oR5_25, Bool.not_true]
    case z6 =>
     have := k2.1; have := k3.1; have := k4.1; have := k5.1
     exact (hrep.mono (Same.of k5 fun i hi => hi.2) fun _ h => h).mono (fun i hi => by rw [hs9, St.get_put, if_neg (by omega)]) fun i hi => ⟨by omega, by omega⟩
   | false =>
    have sto9 := st3 gz5 rfl hz3
    obtain ⟨s9, hs9⟩ : ∃ s, s = s5.put st.next (.row [.int .i64 (.ofNat 0), .nilsl, .nilsl]) := ⟨_, rfl⟩
    rw [<- hs9] at sto9
    have g9 : s9.get st.next = some (.row [.int .i64 (.ofNat 0), .nilsl, .nilsl]) := by rw [hs9, St.get_put, if_pos rfl]
    obtain ⟨fR7, hR7, kR7, oR7_5, oR7_6⟩ : ∃ fr', arun ((gT m).cg Y) g16_5 fR5 s5 = .ok fr' s9 /\ Kp [4, 7] fR5 fr' /\ fr'.get 5 = some (.bool false) /\ fr'.get 6 = some (.int .i64 (.ofNat 0)) := ⟨_, by simp only [amE, reduceEqDiff, ↓reduceIte, reduceCtorEq, reduceAdd, gR5_4, g16_5, fz0, sto9] <;> rfl, Kp.refl.s.s.s, gn gh, gh⟩
    have gR7_4 := kR7.g 4 gR5_4
    have dR7 := kR7.1.trans dR5
    refine ⟨[.int .i64 (.ofNat 0), .nilsl, .nilsl], false, _, s9, hout _ _ _ _ fR7 ?q7 dR7 gR7_4 oR7_5 oR7_6 g9 rfl, by rw [hs9]; exact K5.put' _ _ (Nat.le_refl _), hz3, .inr ⟨rfl, rfl, rfl, x, hpl, fun _ => rfl, fun h => by cases h⟩⟩
    case q7 =>
     rw [<- hA1]
     simp only [amE, reduceEqDiff, ↓reduceIte, reduceCtorEq, reduceAdd, kf16, hR2, hR3, hR4, hR5, hR7, oR3_16, oR5_25, Bool.not_false]
  | false =>
   obtain ⟨fR8, hR8, kR8, oR8_16⟩ : ∃ fr', arun ((gT m).cg Y) g16_1 fR2 s1 = .ok fr' s3 /\ Kp [2, 3, 4, 5, 6] fR2 fr' /\ fr'.get 16 = some (.bool true) := ⟨_, by simp only [amE, reduceEqDiff, ↓reduceIte, reduceCtorEq, reduceAdd, oR2_2, oR2_3, g16_1, ld3f, c2', c3', unN, Bool.not_true, Bool.not_false] <;> rfl, Kp.refl.s.s.s.s.s.s.s.s, gh⟩
   have gR8_4 := kR8.g 4 oR2_4
   have dR8 := kR8.1.trans dR2
   have sto9 := st3 g3 rfl hz3
   obtain ⟨s9, hs9⟩ : ∃ s, s = s3.put st.next (.row [.int .i64 (.ofNat 0), .nilsl, .nilsl]) := ⟨_, rfl⟩
   rw [<- hs9] at sto9
   have g9 : s9.get st.next = some (.row [.int .i64 (.ofNat 0), .nilsl, .nilsl]) := by rw [hs9, St.get_put, if_pos rfl]
   obtain ⟨fR9, hR9, kR9, oR9_5, oR9_6⟩ : ∃ fr', arun ((gT m).cg Y) g16_2 fR8 s3 = .ok fr' s9 /\ Kp [2, 3, 4] fR8 fr' /\ fr'.get 5 = some (.bool false) /\ fr'.get 6 = some (.int .i64 (.ofNat 160)) := ⟨_, by simp only [amE, reduceEqDiff, ↓reduceIte, reduceCtorEq, reduceAdd, gR8_4, g16_2, fz0, sto9] <;> rfl, Kp.refl.s.s.s, gn gh, gh⟩
   have gR9_4 := kR9.g 4 gR8_4
   have dR9 := kR9.1.trans dR8
   refine ⟨[.int .i64 (.ofNat 0), .nilsl, .nilsl], false, _, s9, hout _ _ _ _ fR9 ?q9 dR9 gR9_4 oR9_5 oR9_6 g9 rfl, by rw [hs9]; exact ((k1.trans k2).trans k3).put' _ _ (Nat.le_refl _), hz3, .inl ⟨by simp, rfl, rfl, rfl⟩⟩
   case q9 =>
    rw [<- hA1]
    simp only [amE, reduceEqDiff, ↓reduceIte, reduceCtorEq, reduceAdd, kf16, hR2, hR8, hR9, oR8_16]
 | false =>
  obtain ⟨fR10, hR10, kR10, oR10_16⟩ : ∃ fr', arun ((gT m).cg Y) g16_1 fR2 s1 = .ok fr' s2 /\ Kp [2, 3, 4, 5, 6] fR2 fr' /\ fr'.get 16 = some (.bool true) := ⟨_, by simp only [amE, reduceEqDiff, ↓reduceIte, reduceCtorEq, reduceAdd, oR2_2, oR2_3, g16_1, ld3f, c2', unN, Bool.not_true, Bool.not_false] <;> rfl, Kp.refl.s.s.s.s.s.s.s.s, gh⟩
  have gR10_4 := kR10.g 4 oR2_4
  have dR10 := kR10.1.trans dR2
  have sto9 := st3 g2 rfl hz3
  obtain ⟨s9, hs9⟩ : ∃ s, s = s2.put st.next (.row [.int .i64 (.ofNat 0), .nilsl, .nilsl]) := ⟨_, rfl⟩
  rw [<- hs9] at sto9
  have g9 : s9.get st.next = some (.row [.int .i64 (.ofNat 0), .nilsl, .nilsl]) := by rw [hs9, St.get_put, if_pos rfl]
  obtain ⟨fR11, hR11, kR11, oR11_5, oR11_6⟩ : ∃ fr', arun ((gT m).cg Y) g16_2 fR10 s2 = .ok fr' s9 /\ Kp [2, 3, 4] fR10 fr' /\ fr'.get 5 = some (.bool false) /\ fr'.get 6 = some (.int .i64 (.ofNat 160)) := ⟨_, by simp only [amE, reduceEqDiff, ↓reduceIte, reduceCtorEq, reduceAdd, gR10_4, g16_2, fz0, sto9] <;> rfl, Kp.refl.s.s.s, gn gh, gh⟩
  have gR11_4 := kR11.g 4 gR10_4
  have dR11 := kR11.1.trans dR10
  refine ⟨[.int .i64 (.ofNat 0), .nilsl, .nilsl], false, _, s9, hout _ _ _ _ fR11 ?q11 dR11 gR11_4 oR11_5 oR11_6 g9 rfl, by rw [hs9]; exact (k1.trans k2).put' _ _ (Nat.le_refl _), hz3, .inl ⟨by simp, rfl, rfl, rfl⟩⟩
  case q11 =>
   rw [<- hA1]
   simp only [amE, reduceEqDiff, ↓reduceIte, reduceCtorEq, reduceAdd, kf16, hR2, hR10, hR11, oR10_16]
end
end Go.AM.D16
