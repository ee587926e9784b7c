import Derived.Test.YtphmjdnljmhipaaGreatDoorAmSh14
import Derived.Test.YtphmjdnljmhipaaGreatDoorAmSh12
set_option linter.unusedSimpArgs false
set_option linter.unusedVariables false
set_option maxRecDepth 100000
namespace Go.AM.D16
open Go Go.AM
noncomputable section
open Nat (reduceEqDiff reduceAdd)
def g17_1 : List MOper := [⟨(some 5), .load true 3 (.t 2), none⟩, ⟨(some 6), .load true 3 (.t 3), none⟩, ⟨(some 7), .call (.c (.func (.func 18) [] [])) [(.t 5), (.t 6)], none⟩, ⟨(some 8), .bin false .eql (.t 7) (.c (.int .i64 (.ofNat 0))), none⟩, ⟨(some 4), .mv (.t 8), none⟩]
def kf17 : MFunc := ⟨9, (.seq (.region [⟨(some 2), .box true (.t 0), none⟩, ⟨(some 3), .box true (.t 1), none⟩, ⟨(some 4), .mv (.c (.bool false)), none⟩])
 (.seq (.region g17_1)
 .ret)), [.t 4]⟩
theorem t17 : tbl 17 = some kf17 := by kernel_rfl
theorem rSameD (a b : Dv) (n : Nat) (Y : Yenv) (F : Nat -> Prop) (st : St) (ca cb : List AV) (ha : RepD F st a ca) (hb : RepD F st b cb) (hn : a.fz + 2 < n) :
  R n Y 17 [.agg ca, .agg cb] st = .ret (.bool (cmpD a b == 0)) st := by
 obtain ⟨m, rfl⟩ : ∃ m, n = m + 1 := ⟨n - 1, by omega⟩
 have b00 : Nat.beq 0 0 = true := rfl
 have h3 := ha.cells3
 have h3' := hb.cells3
 have hcall : ((gT m).cg Y).fn 18 [.agg ca, .agg cb] st = .ret (.int .i64 (cmpD a b)) st := rcmpD a b m Y F st ca cb ha hb (by omega)
 have ez := eqz (cmpD a b)
 obtain ⟨a1, a2, a3, rfl⟩ : ∃ a1 a2 a3, ca = [a1, a2, a3] := by
  match ca, h3.1 with
  | [x, y, z], _ => exact ⟨x, y, z, rfl⟩
 obtain ⟨b1, b2, b3, rfl⟩ : ∃ a1 a2 a3, cb = [a1, a2, a3] := by
  match cb, h3'.1 with
  | [x, y, z], _ => exact ⟨x, y, z, rfl⟩
 obtain ⟨fA20, hA20⟩ : ∃ fA, fA = frOf 0 [.agg [a1, a2, a3], .agg [b1, b2, b3]] Fr.nil := ⟨_, rfl⟩
 have gA20_0 : fA20.get 0 = some (.agg [a1, a2, a3]) := by rw [hA20]; simp only [frOf, Fr.get_set, reduceAdd, reduceEqDiff, ↓reduceIte]
 have gA20_1 : fA20.get 1 = some (.agg [b1, b2, b3]) := by rw [hA20]; simp only [frOf, Fr.get_set, reduceAdd, reduceEqDiff, ↓reduceIte]
 have dA20 : fA20.ds = [] := by rw [hA20]; rfl
 obtain ⟨fR21, hR21, kR21, oR21_2, oR21_3⟩ : ∃ fr', arun ((gT m).cg Y) [⟨(some 2), .box true (.t 0), none⟩, ⟨(some 3), .box true (.t 1), none⟩, ⟨(some 4), .mv (.c (.bool false)), none⟩] fA20 st = .ok fr' st /\ Kp [] fA20 fr' /\ fr'.get 2 = some (.fptr [a1, a2, a3] 0) /\ fr'.get 3 = some (.fptr [b1, b2, b3] 0) := ⟨_, by simp only [amE, reduceEqDiff, ↓reduceIte, reduceCtorEq, reduceAdd, gA20_0, gA20_1] <;> rfl, Kp.refl.s.s.s, gn (gn gh), gn gh⟩
 have dR21 := kR21.1.trans dA20
 obtain ⟨fR22, hR22, kR22, oR22_4⟩ : ∃ fr', arun ((gT m).cg Y) g17_1 fR21 st = .ok fr' st /\ Kp [] fR21 fr' /\ fr'.get 4 = some (.bool (cmpD a b == 0)) := ⟨_, by simp only [amE, reduceEqDiff, ↓reduceIte, reduceCtorEq, reduceAdd, oR21_2, oR21_3, g17_1, ld3f, hcall, ez] <;> rfl, Kp.refl.s.s.s.s.s, gh⟩
 have dR22 := kR22.1.trans dR21
 refine fun_of (mf := kf17) (fr := fR22) t17 rfl (.inl ?q22) dR22 (by simp only [kf17, amE, oR22_4])
 case q22 =>
  rw [<- hA20]
  simp only [amE, reduceEqDiff, ↓reduceIte, reduceCtorEq, reduceAdd, kf17, b00, hR21, hR22]
theorem rIsD_run (d : Dv) (n : Nat) (Y : Yenv) (F : Nat -> Prop) (st : St) (cs : List AV) (hr : RepD F st d cs) (hF : ∀ i, F i -> i < st.next) (hn : d.fz + 4101 <= n) :
  ∃ st', R n Y 49 [.agg cs] st = .ret (.bool (isDv d)) st' /\ Keeps st st' := by
 obtain ⟨m, rfl⟩ : ∃ m, n = m + 1 := ⟨n - 1, by omega⟩
 have b00 : Nat.beq 0 0 = true := rfl
 have h3 := hr.cells3
 have c1 : ((gT m).cg Y).fn 47 [.agg cs, .int .i64 (.ofNat 4000), .int .i64 (.ofNat 1)] st = .ret (.tuple [.int .i64 (rcD d 4000 1).1, .bool (rcD d 4000 1).2]) st := counted47 d m Y F st (.ofNat 4000) (.ofNat 1) cs hr (by omega)
 obtain ⟨s1, c2, hk⟩ := right_run d m Y F st cs hr hF (by omega)
 have c2 : ((gT m).cg Y).fn 76 [.agg cs] st = .ret (.bool (d.good gr)) s1 := c2
 obtain ⟨a1, a2, a3, rfl⟩ : ∃ a1 a2 a3, cs = [a1, a2, a3] := by
  match cs, h3.1 with
  | [x, y, z], _ => exact ⟨x, y, z, rfl⟩
 rw [<- rIsD_eq]
 unfold rIsD
 generalize (rcD d 4000 1).1 = L at *
 generalize (rcD d 4000 1).2 = ok at *
 generalize d.good gr = V at *
 obtain ⟨fA23, hA23⟩ : ∃ fA, fA = frOf 0 [.agg [a1, a2, a3]] Fr.nil := ⟨_, rfl⟩
 have gA23_0 : fA23.get 0 = some (.agg [a1, a2, a3]) := by rw [hA23]; simp only [frOf, Fr.get_set, reduceAdd, reduceEqDiff, ↓reduceIte]
 have dA23 : fA23.ds = [] := by rw [hA23]; rfl
 obtain ⟨fR24, hR24, kR24, oR24_1⟩ : ∃ fr', arun ((gT m).cg Y) [⟨(some 1), .box true (.t 0), none⟩, ⟨(some 2), .mv (.c (.bool false)), none⟩] fA23 st = .ok fr' st /\ Kp [] fA23 fr' /\ fr'.get 1 = some (.fptr [a1, a2, a3] 0) := ⟨_, by simp only [amE, reduceEqDiff, ↓reduceIte, reduceCtorEq, reduceAdd, gA23_0] <;> rfl, Kp.refl.s.s, gn gh⟩
 have dR24 := kR24.1.trans dA23
 obtain ⟨fR25, hR25, kR25, oR25_4⟩ : ∃ fr', arun ((gT m).cg Y) g49_1 fR24 st = .ok fr' st /\ Kp [1] fR24 fr' /\ fr'.get 4 = some (.bool ok) := ⟨_, by simp only [amE, reduceEqDiff, ↓reduceIte, reduceCtorEq, reduceAdd, oR24_1, g49_1, ld3f, c1, ex20, ex21] <;> rfl, Kp.refl.s.s.s.s.s.s.s, gh⟩
 have gR25_1 := kR25.g 1 oR24_1
 have dR25 := kR25.1.trans dR24
 cases ok with
 | true =>
  rw [Bool.true_and]
  obtain ⟨fR26, hR26, kR26, oR26_2⟩ : ∃ fr', arun ((gT m).cg Y) g49_2 fR25 st = .ok fr' s1 /\ Kp [] fR25 fr' /\ fr'.get 2 = some (.bool V) := ⟨_, by simp only [amE, reduceEqDiff, ↓reduceIte, reduceCtorEq, reduceAdd, gR25_1, oR25_4, g49_2, ld3f, c2, Bool.not_true, Bool.not_false] <;> rfl, Kp.refl.s.s.s.s.s.s, gh⟩
  have dR26 := kR26.1.trans dR25
  refine ⟨s1, fun_of (mf := kf49) (fr := fR26) t49 rfl (.inl ?q26) dR26 (by simp only [kf49, amE, oR26_2]), hk⟩
  case q26 =>
   rw [<- hA23]
   simp only [amE, reduceEqDiff, ↓reduceIte, reduceCtorEq, reduceAdd, kf49, b00, hR24, hR25, hR26]
 | false =>
  rw [Bool.false_and]
  obtain ⟨fR27, hR27, kR27, oR27_2⟩ : ∃ fr', arun ((gT m).cg Y) g49_2 fR25 st = .ok fr' st /\ Kp [] fR25 fr' /\ fr'.get 2 = some (.bool false) := ⟨_, by simp only [amE, reduceEqDiff, ↓reduceIte, reduceCtorEq, reduceAdd, gR25_1, oR25_4, g49_2, ld3f, c2, Bool.not_true, Bool.not_false] <;> rfl, Kp.refl.s.s.s.s.s.s, gh⟩
  have dR27 := kR27.1.trans dR25
  refine ⟨st, fun_of (mf := kf49) (fr := fR27) t49 rfl (.inl ?q27) dR27 (by simp only [kf49, amE, oR27_2]), Keeps.refl _⟩
  case q27 =>
   rw [<- hA23]
   simp only [amE, reduceEqDiff, ↓reduceIte, reduceCtorEq, reduceAdd, kf49, b00, hR24, hR25, hR27]
end
end Go.AM.D16
