import Derived.Test.YtphmjdnljmhipaaGreatDoorAmRd10
set_option linter.unusedSimpArgs false
set_option linter.unusedVariables false
set_option maxRecDepth 100000
namespace Go.AM.D16
open Go Go.AM
noncomputable section
open Nat (reduceEqDiff reduceAdd)
theorem natsEq_self : ∀ s : List Nat, natsEq s s = true
 | [] => rfl
 | a :: s => by simp only [natsEq, Nat.beq_refl, natsEq_self s, Bool.and_true]
theorem leqN (a b : Nat) : binB false .leq (.int .i64 (.ofNat a)) (.int .i64 (.ofNat b)) = some (.bool (decide (a <= b))) := by
 show some (AV.bool (decide ((Int.ofNat a) <= Int.ofNat b))) = _
 congr 2; simp
def g6_3 : List MOper := [⟨(some 17), .load true 3 (.t 2), none⟩, ⟨(some 18), .bslice 1 [(.int .i64 (.ofNat 0)), .nilsl, .nilsl] [(0, 3, (.t 17))], none⟩, ⟨(some 19), .call (.c (.func (.func 8) [] [])) [(.t 18)], none⟩, ⟨(some 20), .un .not (.t 19), none⟩, ⟨(some 21), .mv (.t 20), none⟩, ⟨(some 22), .mv (.t 1), (some (21, false))⟩, ⟨(some 23), .len 1 (.t 22), (some (21, false))⟩, ⟨(some 24), .bin false .gtr (.t 23) (.c (.int .i64 (.ofNat 20000))), (some (21, false))⟩, ⟨(some 25), .mv (.t 24), (some (21, false))⟩, ⟨(some 26), .mv (.t 1), (some (25, true))⟩, ⟨(some 27), .len 1 (.t 26), (some (25, true))⟩, ⟨(some 28), .bin false .leq (.t 27) (.c (.int .i64 (.ofNat 100000))), (some (25, true))⟩, ⟨(some 29), .pick (.t 25) (.t 28) (.c (.bool false)), (some (21, false))⟩, ⟨(some 30), .pick (.t 21) (.c (.bool true)) (.t 29), none⟩]
def g6_5 : List MOper := [⟨(some 32), .load true 3 (.t 2), none⟩, ⟨(some 33), .call (.c (.func (.func 21) [] [])) [(.t 32)], none⟩, ⟨(some 31), .mv (.t 33), none⟩, ⟨(some 34), .extract 0 (.t 31), none⟩, ⟨(some 35), .extract 1 (.t 31), none⟩, ⟨(some 5), .mv (.t 34), none⟩, ⟨(some 6), .mv (.t 35), none⟩]
def g6_6 : List MOper := [⟨(some 37), .load true 3 (.t 2), none⟩, ⟨(some 38), .call (.c (.func (.func 22) [] [])) [(.t 37)], none⟩, ⟨(some 36), .mv (.t 38), none⟩, ⟨(some 39), .extract 0 (.t 36), none⟩, ⟨(some 40), .extract 1 (.t 36), none⟩, ⟨(some 7), .mv (.t 39), none⟩, ⟨(some 8), .mv (.t 40), none⟩]
def g6_7 : List MOper := [⟨(some 42), .mv (.t 1), none⟩, ⟨(some 43), .call (.c (.func (.func 23) [] [])) [(.t 42)], none⟩, ⟨(some 41), .mv (.t 43), none⟩, ⟨(some 44), .extract 0 (.t 41), none⟩, ⟨(some 45), .extract 1 (.t 41), none⟩, ⟨(some 46), .extract 2 (.t 41), none⟩, ⟨(some 9), .alloc [(.int .i64 (.ofNat 0)), .nilsl, .nilsl], none⟩, ⟨none, .store 3 (.t 9) (.t 44), none⟩, ⟨(some 10), .mv (.t 45), none⟩, ⟨(some 11), .mv (.t 46), none⟩]
def g6_8 : List MOper := [⟨(some 48), .mv (.t 1), none⟩, ⟨(some 49), .call (.c (.func (.func 24) [] [])) [(.t 48)], none⟩, ⟨(some 47), .mv (.t 49), none⟩, ⟨(some 50), .extract 0 (.t 47), none⟩, ⟨(some 51), .extract 1 (.t 47), none⟩, ⟨(some 52), .extract 2 (.t 47), none⟩, ⟨(some 12), .alloc [(.int .i64 (.ofNat 0)), .nilsl, .nilsl], none⟩, ⟨none, .store 3 (.t 12) (.t 50), none⟩, ⟨(some 13), .mv (.t 51), none⟩, ⟨(some 14), .mv (.t 52), none⟩]
def g6_9 : List MOper := [⟨(some 53), .mv (.t 5), none⟩, ⟨(some 54), .mv (.t 7), none⟩, ⟨(some 55), .bin false .eql (.t 53) (.t 54), none⟩, ⟨(some 56), .mv (.t 55), none⟩, ⟨(some 57), .mv (.t 6), (some (56, true))⟩, ⟨(some 58), .mv (.t 8), (some (56, true))⟩, ⟨(some 59), .bin false .eql (.t 57) (.t 58), (some (56, true))⟩, ⟨(some 60), .pick (.t 56) (.t 59) (.c (.bool false)), none⟩, ⟨(some 61), .mv (.t 60), none⟩, ⟨(some 62), .load true 3 (.t 9), (some (61, true))⟩, ⟨(some 63), .load true 3 (.t 12), (some (61, true))⟩, ⟨(some 64), .call (.c (.func (.func 17) [] [])) [(.t 62), (.t 63)], (some (61, true))⟩, ⟨(some 65), .pick (.t 61) (.t 64) (.c (.bool false)), none⟩, ⟨(some 66), .mv (.t 65), none⟩, ⟨(some 67), .mv (.t 10), (some (66, true))⟩, ⟨(some 68), .mv (.t 13), (some (66, true))⟩, ⟨(some 69), .bin false .eql (.t 67) (.t 68), (some (66, true))⟩, ⟨(some 70), .pick (.t 66) (.t 69) (.c (.bool false)), none⟩, ⟨(some 71), .mv (.t 70), none⟩, ⟨(some 72), .mv (.t 11), (some (71, true))⟩, ⟨(some 73), .mv (.t 14), (some (71, true))⟩, ⟨(some 74), .bin false .eql (.t 72) (.t 73), (some (71, true))⟩, ⟨(some 75), .pick (.t 71) (.t 74) (.c (.bool false)), none⟩, ⟨(some 4), .mv (.t 75), none⟩]
def kf6 : MFunc := ⟨76, (.seq (.region [⟨(some 2), .box true (.t 0), none⟩, ⟨(some 4), .mv (.c (.bool false)), none⟩])
 (.seq (.seq (.region [⟨(some 15), .call (.c (.func (.func 7) [] [])) [], none⟩, ⟨(some 16), .un .not (.t 15), none⟩])
 (.cond (.t 16)
 (.seq (.region [⟨(some 4), .mv (.c (.bool false)), none⟩])
 .ret)
 .skip))
 (.seq (.seq (.region g6_3)
 (.cond (.t 30)
 (.seq (.region [⟨(some 4), .mv (.c (.bool true)), none⟩])
 .ret)
 .skip))
 (.seq (.region g6_5)
 (.seq (.region g6_6)
 (.seq (.region g6_7)
 (.seq (.region g6_8)
 (.seq (.region g6_9)
 .ret)))))))), [.t 4]⟩
theorem t6 : tbl 6 = some kf6 := by kernel_rfl
theorem texts_run {Γ : Gam} {n : Nat} {DF : Nat -> List AV -> St -> DM -> Option (DM × St)} {st stS : St} {d : Dv} {s : List Nat} (hd : d.ok) (hi : d.i6) (h7 : (Γ.cg Y0).fn 7 [] st = .ret (.bool true) stS) (hfn : ∀ f args s, f ≠ 7 -> (Γ.cg Y0).fn f args s = R n Y0 f args s)
  (hn : d.fz + 3 * s.length + 300000 <= n) (hz : ∀ d p, pD s (s.length + 1) 0 = .ok d p -> d.fz + 5000 <= n) (hz0 : (rdS s).1.fz + 5000 <= n) :
  ∃ st', abody Γ Y0 n DF kf6 [.agg d.cells, .str s] st = .ret (.bool true) st' := by
 obtain ⟨m, rfl⟩ : ∃ m, n = m + 1 := ⟨n - 1, by omega⟩
 have hcd := d.cells3
 have hsl8 : slAV false true (Dv.cellsL [d]) = .lst 1 d.cells true := by simp only [Dv.cellsL]; simp [slAV]
 obtain ⟨b8, s1, c8⟩ := brief [d] false true (m + 1) Y0 stS (by simp only [Dv.fzL, List.length_cons, List.length_nil]; omega) ⟨hd, trivial⟩ (fun h => by cases h) (by simp)
 rw [hsl8] at c8
 have c8' : (Γ.cg Y0).fn 8 [.lst 1 d.cells true] stS = .ret (.bool b8) s1 := by rw [hfn _ _ _ (by decide)]; exact c8
 have hRd : ∀ s, RepD (fun _ => False) s d d.cells := fun s => RepD.line _ s d hd
 obtain ⟨s2, c21, k2⟩ := Write_run d (m + 1) Y0 (fun _ => False) s1 d.cells (hRd s1) (fun _ h => h.elim) hi (by omega)
 have c21' : (Γ.cg Y0).fn 21 [.agg d.cells] s1 = .ret (.tuple [.str (wrS d), .int .i64 (.ofNat (wrE d))]) s2 := by rw [hfn _ _ _ (by decide)]; exact c21
 obtain ⟨s3, c22, k3⟩ := rWrite_run d (m + 1) Y0 (fun _ => False) s2 d.cells (hRd s2) (fun _ h => h.elim) hi (by omega)
 have c22' : (Γ.cg Y0).fn 22 [.agg d.cells] s2 = .ret (.tuple [.str (wrS d), .int .i64 (.ofNat (wrE d))]) s3 := by rw [hfn _ _ _ (by decide)]; exact c22
 obtain ⟨cx, s4, c23, k4, hx⟩ := Read_run s m Y0 s3 (by omega) (fun d p h => by have := hz d p h; omega)
 have c23' : (Γ.cg Y0).fn 23 [.str s] s3 = .ret (.tuple [.agg cx, .int .i64 (.ofNat (rdS s).2.1), .int .i64 (.ofNat (rdS s).2.2)]) s4 := by rw [hfn _ _ _ (by decide)]; exact c23
 have sto5 := store_new (st := s4) (zs := [(.int .i64 (.ofNat 0)), .nilsl, .nilsl]) (x := cx) rfl hx.cells3.1 hx.cells3.2
 obtain ⟨s5, hs5⟩ : ∃ s5, s5 = (s4.new (.row [(.int .i64 (.ofNat 0)), .nilsl, .nilsl])).put s4.next (.row cx) := ⟨_, rfl⟩
 rw [<- hs5] at sto5
 have n5 : s5.next = s4.next + 1 := by rw [hs5]; rfl
 have k5 : Keeps s4 s5 := by rw [hs5]; exact (Keeps.new s4 _).put _ _ (Nat.le_refl _)
 have g5 : s5.get s4.next = some (.row cx) := by rw [hs5, St.get_put, if_pos rfl]
 obtain ⟨cy, s6, c24, k6, hy⟩ := rRead_run s m Y0 s5 (by omega) (fun d p h => by have := hz d p h; omega)
 have c24' : (Γ.cg Y0).fn 24 [.str s] s5 = .ret (.tuple [.agg cy, .int .i64 (.ofNat (rdS s).2.1), .int .i64 (.ofNat (rdS s).2.2)]) s6 := by rw [hfn _ _ _ (by decide)]; exact c24
 have sto7 := store_new (st := s6) (zs := [(.int .i64 (.ofNat 0)), .nilsl, .nilsl]) (x := cy) rfl hy.cells3.1 hy.cells3.2
 obtain ⟨s7, hs7⟩ : ∃ s7, s7 = (s6.new (.row [(.int .i64 (.ofNat 0)), .nilsl, .nilsl])).put s6.next (.row cy) := ⟨_, rfl⟩
 rw [<- hs7] at sto7
 have k7 : Keeps s6 s7 := by rw [hs7]; exact (Keeps.new s6 _).put _ _ (Nat.le_refl _)
 have g7 : s7.get s6.next = some (.row cy) := by rw [hs7, St.get_put, if_pos rfl]
 have k6n := k6.1
 have k57 := k6.trans k7
 have g57 : s7.get s4.next = some (.row cx) := (k57.2 _ (by omega)).trans g5
 have lx := load_row g57 hx.cells3.1
 have ly := load_row g7 hy.cells3.1
 have hx7 : RepD (fun i => s3.next <= i /\ i < s4.next) s7 (rdS s).1 cx := hx.mono (fun i hi => ((k5.trans k57).2 i hi.2)) (fun _ h => h)
 have hy7 : RepD (fun i => s5.next <= i /\ i < s6.next) s7 (rdS s).1 cy := hy.mono (fun i hi => k7.2 i hi.2) (fun _ h => h)
 have c17 := rSameD (rdS s).1 (rdS s).1 (m + 1) Y0 (fun i => (s3.next <= i /\ i < s4.next) \/ (s5.next <= i /\ i < s6.next)) s7 cx cy (hx7.mono (fun i _ => rfl) (fun i h => .inl h)) (hy7.mono (fun i _ => rfl) (fun i h => .inr h)) (by omega)
 rw [cmpD_self] at c17
 have c17' : (Γ.cg Y0).fn 17 [.agg cx, .agg cy] s7 = .ret (.bool true) s7 := by rw [hfn _ _ _ (by decide)]; exact c17
 have exA : ∀ (a b c : AV), extractA 0 (.tuple [a, b, c]) = some a := fun _ _ _ => rfl
 have exB : ∀ (a b c : AV), extractA 1 (.tuple [a, b, c]) = some b := fun _ _ _ => rfl
 have exC : ∀ (a b c : AV), extractA 2 (.tuple [a, b, c]) = some c := fun _ _ _ => rfl
 have eS : binB false .eql (.str (wrS d)) (.str (wrS d)) = some (.bool true) := by
  show some (AV.bool (natsEq _ _)) = _
  rw [natsEq_self]
 have eI : ∀ i : Int, binB false .eql (.int .i64 i) (.int .i64 i) = some (.bool true) := fun i => by
  show some (AV.bool (i == i)) = _
  simp
 have lA := gtrN s.length 20000
 have lB := leqN s.length 100000
 generalize decide (20000 < s.length) = A at *
 generalize decide (s.length <= 100000) = B at *
 generalize wrS d = ws at *
 generalize wrE d = we at *
 generalize (rdS s).2.1 = at_ at *
 generalize (rdS s).2.2 = er at *
 generalize hdc : d.cells = dc at *
 clear c8 c21 c22 c23 c24 c17 hx hy hx7 hy7 hRd hs5 hs7
 obtain ⟨a, b, c, rfl⟩ : ∃ a b c, dc = [a, b, c] := by
  match dc, hcd.1 with
  | [a, b, c], _ => exact ⟨a, b, c, rfl⟩
 have b00 : Nat.beq 0 0 = true := rfl
 have c8'' : (Γ.cg Y0).fn 8 [.lst 1 [a, b, c] true] stS = .ret (.bool b8) s1 := c8'
 have fl8 : fillA [(.int .i64 (.ofNat 0)), .nilsl, .nilsl] [(0, 3, .agg [a, b, c])] = some [a, b, c] := rfl
 have hfin : ∀ (fr : Fr) (s' : St), acode Γ Y0 (m + 1) kf6.code none (frOf 0 [.agg [a, b, c], .str s] Fr.nil) st = .ret fr s' -> fr.ds = [] -> fr.get 4 = some (.bool true) -> abody Γ Y0 (m + 1) DF kf6 [.agg [a, b, c], .str s] st = .ret (.bool true) s' := fun fr s' h hd g => by
  exact body_ret (Nat.le_of_ble_eq_true rfl) h hd (by simp only [kf6, ressA, resA, g, Option.bind_some, Option.map_some])
 obtain ⟨fA1, hA1⟩ : ∃ fA, fA = frOf 0 [.agg [a, b, c], .str s] Fr.nil := ⟨_, rfl⟩
 have gA1_0 : fA1.get 0 = some (.agg [a, b, c]) := by rw [hA1]; simp only [frOf, Fr.get_set, reduceAdd, reduceEqDiff, ↓reduceIte]
 have gA1_1 : fA1.get 1 = some (.str s) := by rw [hA1]; simp only [frOf, Fr.get_set, reduceAdd, reduceEqDiff, ↓reduceIte]
 have dA1 : fA1.ds = [] := by rw [hA1]; rfl
 obtain ⟨fR2, hR2, kR2, oR2_2, oR2_4⟩ : ∃ fr', arun (Γ.cg Y0) [⟨(some 2), .box true (.t 0), none⟩, ⟨(some 4), .mv (.c (.bool false)), none⟩] fA1 st = .ok fr' st /\ Kp [1] fA1 fr' /\ fr'.get 2 = some (.fptr [a, b, c] 0) /\ fr'.get 4 = some (.bool false) := ⟨_, by simp only [amE, reduceEqDiff, ↓reduceIte, reduceCtorEq, reduceAdd, gA1_0] <;> rfl, Kp.refl.s.s, gn gh, gh⟩
 have gR2_1 := kR2.g 1 gA1_1
 have dR2 := kR2.1.trans dA1
 obtain ⟨fR3, hR3, kR3, oR3_16⟩ : ∃ fr', arun (Γ.cg Y0) [⟨(some 15), .call (.c (.func (.func 7) [] [])) [], none⟩, ⟨(some 16), .un .not (.t 15), none⟩] fR2 st = .ok fr' stS /\ Kp [1, 2, 4] fR2 fr' /\ fr'.get 16 = some (.bool false) := ⟨_, by simp only [amE, reduceEqDiff, ↓reduceIte, reduceCtorEq, reduceAdd, h7, unN, Bool.not_true, Bool.not_false] <;> rfl, Kp.refl.s.s, by simp only [Fr.get_set, reduceEqDiff, ↓reduceIte, amB, Bool.not_true, Bool.not_false]⟩
 have gR3_1 := kR3.g 1 gR2_1
 have gR3_2 := kR3.g 2 oR2_2
 have gR3_4 := kR3.g 4 oR2_4
 have dR3 := kR3.1.trans dR2
 obtain ⟨fR4, hR4, kR4, oR4_30⟩ : ∃ fr', arun (Γ.cg Y0) g6_3 fR3 stS = .ok fr' s1 /\ Kp [1, 2] fR3 fr' /\ fr'.get 30 = some (.bool (!b8 || (A && B))) := by cases b8 <;> cases A <;> cases B <;> exact ⟨_, by simp only [amE, reduceEqDiff, ↓reduceIte, reduceCtorEq, reduceAdd, gR3_1, gR3_2, g6_3, ld3f, fl8, c8'', unN, lA, lB, lnS, Bool.not_true, Bool.not_false] <;> rfl, Kp.refl.s.s.s.s.s.s.s.s.s.s.s.s.s.s, by simp only [Fr.get_set, reduceEqDiff, ↓reduceIte, amB, Bool.not_true, Bool.not_false]⟩
 have gR4_1 := kR4.g 1 gR3_1
 have gR4_2 := kR4.g 2 gR3_2
 have dR4 := kR4.1.trans dR3
 cases hb : (!b8 || (A && B)) with
 | true =>
  rw [hb] at oR4_30
  obtain ⟨fR5, hR5, kR5, oR5_4⟩ : ∃ fr', arun (Γ.cg Y0) [⟨(some 4), .mv (.c (.bool true)), none⟩] fR4 s1 = .ok fr' s1 /\ Kp [1, 2] fR4 fr' /\ fr'.get 4 = some (.bool true) := ⟨_, by simp only [amE, reduceEqDiff, ↓reduceIte, reduceCtorEq, reduceAdd] <;> rfl, Kp.refl.s, gh⟩
  have gR5_1 := kR5.g 1 gR4_1
  have gR5_2 := kR5.g 2 gR4_2
  have dR5 := kR5.1.trans dR4
  refine ⟨s1, hfin fR5 s1 ?q5 dR5 oR5_4⟩
  case q5 =>
   rw [<- hA1]
   simp only [amE, reduceEqDiff, ↓reduceIte, reduceCtorEq, reduceAdd, kf6, b00, Bool.not_true, Bool.not_false, hR2, hR3, hR4, hR5, oR3_16, oR4_30]
 | false =>
  rw [hb] at oR4_30
  obtain ⟨fR6, hR6, kR6, oR6_5, oR6_6⟩ : ∃ fr', arun (Γ.cg Y0) g6_5 fR4 s1 = .ok fr' s2 /\ Kp [1, 2] fR4 fr' /\ fr'.get 5 = some (.str ws) /\ fr'.get 6 = some (.int .i64 (.ofNat we)) := ⟨_, by simp only [amE, reduceEqDiff, ↓reduceIte, reduceCtorEq, reduceAdd, gR4_2, g6_5, ld3f, c21', ex20, ex21] <;> rfl, Kp.refl.s.s.s.s.s.s.s, gn gh, gh⟩
  have gR6_1 := kR6.g 1 gR4_1
  have gR6_2 := kR6.g 2 gR4_2
  have dR6 := kR6.1.trans dR4
  obtain ⟨fR7, hR7, kR7, oR7_7, oR7_8⟩ : ∃ fr', arun (Γ.cg Y0) g6_6 fR6 s2 = .ok fr' s3 /\ Kp [1, 2, 5, 6] fR6 fr' /\ fr'.get 7 = some (.str ws) /\ fr'.get 8 = some (.int .i64 (.ofNat we)) := ⟨_, by simp only [amE, reduceEqDiff, ↓reduceIte, reduceCtorEq, reduceAdd, gR6_2, g6_6, ld3f, c22', ex20, ex21] <;> rfl, Kp.refl.s.s.s.s.s.s.s, gn gh, gh⟩
  have gR7_1 := kR7.g 1 gR6_1
  have gR7_2 := kR7.g 2 gR6_2
  have gR7_5 := kR7.g 5 oR6_5
  have gR7_6 := kR7.g 6 oR6_6
  have dR7 := kR7.1.trans dR6
  obtain ⟨fR8, hR8, kR8, oR8_9, oR8_10, oR8_11⟩ : ∃ fr', arun (Γ.cg Y0) g6_7 fR7 s3 = .ok fr' s5 /\ Kp [1, 2, 5, 6, 7, 8] fR7 fr' /\ fr'.get 9 = some (.ptr s4.next 0) /\ fr'.get 10 = some (.int .i64 (.ofNat at_)) /\ fr'.get 11 = some (.int .i64 (.ofNat er)) := ⟨_, by simp only [amE, reduceEqDiff, ↓reduceIte, reduceCtorEq, reduceAdd, gR7_1, g6_7, c23', exA, exB, exC, sto5] <;> rfl, Kp.refl.s.s.s.s.s.s.s.s.s, gn (gn gh), gn gh, gh⟩
  have gR8_1 := kR8.g 1 gR7_1
  have gR8_2 := kR8.g 2 gR7_2
  have gR8_5 := kR8.g 5 gR7_5
  have gR8_6 := kR8.g 6 gR7_6
  have gR8_7 := kR8.g 7 oR7_7
  have gR8_8 := kR8.g 8 oR7_8
  have dR8 := kR8.1.trans dR7
  obtain ⟨fR9, hR9, kR9, oR9_12, oR9_13, oR9_14⟩ : ∃ fr', arun (Γ.cg Y0) g6_8 fR8 s5 = .ok fr' s7 /\ Kp [5, 6, 7, 8, 9, 10, 11] fR8 fr' /\ fr'.get 12 = some (.ptr s6.next 0) /\ fr'.get 13 = some (.int .i64 (.ofNat at_)) /\ fr'.get 14 = some (.int .i64 (.ofNat er)) := ⟨_, by simp only [amE, reduceEqDiff, ↓reduceIte, reduceCtorEq, reduceAdd, gR8_1, g6_8, c24', exA, exB, exC, sto7] <;> rfl, Kp.refl.s.s.s.s.s.s.s.s.s, gn (gn gh), gn gh, gh⟩
  have gR9_5 := kR9.g 5 gR8_5
  have gR9_6 := kR9.g 6 gR8_6
  have gR9_7 := kR9.g 7 gR8_7
  have gR9_8 := kR9.g 8 gR8_8
  have gR9_9 := kR9.g 9 oR8_9
  have gR9_10 := kR9.g 10 oR8_10
  have gR9_11 := kR9.g 11 oR8_11
  have dR9 := kR9.1.trans dR8
  obtain ⟨fR10, hR10, kR10, oR10_4⟩ : ∃ fr', arun (Γ.cg Y0) g6_9 fR9 s7 = .ok fr' s7 /\ Kp [] fR9 fr' /\ fr'.get 4 = some (.bool true) := ⟨_, by simp only [amE, reduceEqDiff, ↓reduceIte, reduceCtorEq, reduceAdd, gR9_5, gR9_6, gR9_7, gR9_8, gR9_9, gR9_10, gR9_11, oR9_12, oR9_13, oR9_14, g6_9, lx, ly, c17', eS, eI, Bool.not_true, Bool.not_false] <;> rfl, Kp.refl.s.s.s.s.s.s.s.s.s.s.s.s.s.s.s.s.s.s.s.s.s.s.s.s, by simp only [Fr.get_set, reduceEqDiff, ↓reduceIte, amB]⟩
  have dR10 := kR10.1.trans dR9
  refine ⟨s7, hfin fR10 s7 ?q6 dR10 oR10_4⟩
  case q6 =>
   rw [<- hA1]
   simp only [amE, reduceEqDiff, ↓reduceIte, reduceCtorEq, reduceAdd, kf6, b00, Bool.not_true, Bool.not_false, hR2, hR3, hR4, hR6, hR7, hR8, hR9, hR10, oR3_16, oR4_30]
end
end Go.AM.D16
