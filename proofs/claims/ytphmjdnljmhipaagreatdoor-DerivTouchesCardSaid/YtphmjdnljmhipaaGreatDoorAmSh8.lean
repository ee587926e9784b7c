import Derived.Test.YtphmjdnljmhipaaGreatDoorAmSh7
set_option linter.unusedSimpArgs false
set_option linter.unusedVariables false
set_option linter.defProp false
set_option maxRecDepth 100000
namespace Go.AM.D16
open Go Go.AM
noncomputable def g11_0 : List MOper := [⟨(some 2), .box true (.t 0), none⟩, ⟨(some 3), .box true (.t 1), none⟩, ⟨(some 4), .alloc [(.int .i64 (.ofNat 0)), .nilsl, .nilsl], none⟩, ⟨(some 5), .mv (.c (.bool false)), none⟩, ⟨(some 6), .mv (.c (.int .i64 (.ofNat 0))), none⟩]
noncomputable def g11_1 : List MOper := [⟨(some 9), .load true 3 (.t 2), none⟩, ⟨(some 10), .call (.c (.func (.func 41) [] [])) [(.t 9)], none⟩, ⟨(some 11), .un .not (.t 10), none⟩, ⟨(some 12), .mv (.t 11), none⟩, ⟨(some 13), .load true 3 (.t 3), (some (12, false))⟩, ⟨(some 14), .call (.c (.func (.func 41) [] [])) [(.t 13)], (some (12, false))⟩, ⟨(some 15), .un .not (.t 14), (some (12, false))⟩, ⟨(some 16), .pick (.t 12) (.c (.bool true)) (.t 15), none⟩]
noncomputable def g11_2 : List MOper := [⟨(some 17), .build [(.int .i64 (.ofNat 0)), .nilsl, .nilsl] [], none⟩, ⟨none, .store 3 (.t 4) (.t 17), none⟩, ⟨(some 5), .mv (.c (.bool false)), none⟩, ⟨(some 6), .mv (.c (.int .i64 (.ofNat 160))), none⟩]
noncomputable def g11_3 : List MOper := [⟨(some 19), .load true 3 (.t 2), none⟩, ⟨(some 20), .load true 3 (.t 3), none⟩, ⟨(some 21), .call (.c (.func (.func 42) [] [])) [(.t 19), (.t 20)], none⟩, ⟨(some 18), .mv (.t 21), none⟩, ⟨(some 22), .extract 0 (.t 18), none⟩, ⟨(some 23), .extract 1 (.t 18), none⟩, ⟨(some 7), .alloc [(.int .i64 (.ofNat 0)), .nilsl, .nilsl], none⟩, ⟨none, .store 3 (.t 7) (.t 22), none⟩, ⟨(some 8), .mv (.t 23), none⟩]
noncomputable def g11_4 : List MOper := [⟨(some 24), .mv (.t 8), none⟩, ⟨(some 25), .un .not (.t 24), none⟩]
noncomputable def g11_5 : List MOper := [⟨(some 26), .build [(.int .i64 (.ofNat 0)), .nilsl, .nilsl] [], none⟩, ⟨none, .store 3 (.t 4) (.t 26), none⟩, ⟨(some 5), .mv (.c (.bool false)), none⟩, ⟨(some 6), .mv (.c (.int .i64 (.ofNat 0))), none⟩]
noncomputable def g11_6 : List MOper := [⟨(some 27), .load true 3 (.t 7), none⟩, ⟨(some 28), .call (.c (.func (.func 43) [] [])) [(.t 27)], none⟩, ⟨none, .store 3 (.t 4) (.t 28), none⟩, ⟨(some 5), .mv (.c (.bool true)), none⟩, ⟨(some 6), .mv (.c (.int .i64 (.ofNat 0))), none⟩]
noncomputable def kf11 : MFunc := ⟨29, (.seq (.region g11_0)
 (.seq (.seq (.region g11_1)
 (.cond (.t 16)
 (.seq (.region g11_2)
 .ret)
 .skip))
 (.seq (.region g11_3)
 (.seq (.seq (.region g11_4)
 (.cond (.t 25)
 (.seq (.region g11_5)
 .ret)
 .skip))
 (.seq (.region g11_6)
 .ret))))), [.cell 4 true 3, .t 5, .t 6]⟩
theorem m11_eq : m11 = kf11 := by kernel_rfl
theorem t11 : tbl 11 = some m11 := by kernel_rfl
noncomputable def g4_0 : List MOper := [⟨(some 96), .iaddr 6 (.t 92) (.t 94), none⟩, ⟨(some 97), .load true 6 (.t 96), none⟩, ⟨(some 14), .alloc [(.int .i64 (.ofNat 0)), .nilsl, .nilsl, (.int .i64 (.ofNat 0)), .nilsl, .nilsl], none⟩, ⟨none, .store 6 (.t 14) (.t 97), none⟩]
noncomputable def g4_1 : List MOper := [⟨(some 99), .aaddr 2 3 (.t 14) (.c (.int .i64 (.ofNat 0))), none⟩, ⟨(some 100), .load true 3 (.t 99), none⟩, ⟨(some 101), .call (.c (.func (.func 12) [] [])) [(.t 100)], none⟩, ⟨(some 98), .mv (.t 101), none⟩, ⟨(some 102), .extract 0 (.t 98), none⟩, ⟨(some 103), .extract 1 (.t 98), none⟩, ⟨(some 15), .mv (.t 102), none⟩, ⟨(some 16), .mv (.t 103), none⟩]
noncomputable def g4_2 : List MOper := [⟨(some 105), .aaddr 2 3 (.t 14) (.c (.int .i64 (.ofNat 1))), none⟩, ⟨(some 106), .load true 3 (.t 105), none⟩, ⟨(some 107), .call (.c (.func (.func 12) [] [])) [(.t 106)], none⟩, ⟨(some 104), .mv (.t 107), none⟩, ⟨(some 108), .extract 0 (.t 104), none⟩, ⟨(some 109), .extract 1 (.t 104), none⟩, ⟨(some 17), .mv (.t 108), none⟩, ⟨(some 18), .mv (.t 109), none⟩]
noncomputable def g4_3 : List MOper := [⟨(some 110), .mv (.t 16), none⟩, ⟨(some 111), .bin false .neq (.t 110) (.c (.int .i64 (.ofNat 0))), none⟩, ⟨(some 112), .mv (.t 111), none⟩, ⟨(some 113), .mv (.t 18), (some (112, false))⟩, ⟨(some 114), .bin false .neq (.t 113) (.c (.int .i64 (.ofNat 0))), (some (112, false))⟩, ⟨(some 115), .pick (.t 112) (.c (.bool true)) (.t 114), none⟩, ⟨(some 116), .mv (.t 115), none⟩, ⟨(some 117), .mv (.t 15), (some (116, false))⟩, ⟨(some 118), .len 0 (.t 117), (some (116, false))⟩, ⟨(some 119), .mv (.t 17), (some (116, false))⟩, ⟨(some 120), .len 0 (.t 119), (some (116, false))⟩, ⟨(some 121), .bin false .neq (.t 118) (.t 120), (some (116, false))⟩, ⟨(some 122), .pick (.t 116) (.c (.bool true)) (.t 121), none⟩]
noncomputable def g4_4 : List MOper := [⟨(some 4), .mv (.c (.bool false)), none⟩]
noncomputable def g4_5 : List MOper := [⟨(some 2), .box true (.t 0), none⟩, ⟨(some 3), .box true (.t 1), none⟩, ⟨(some 4), .mv (.c (.bool false)), none⟩]
noncomputable def g4_6 : List MOper := [⟨(some 19), .call (.c (.func (.func 7) [] [])) [], none⟩, ⟨(some 20), .un .not (.t 19), none⟩]
noncomputable def g4_7 : List MOper := [⟨(some 4), .mv (.c (.bool false)), none⟩]
noncomputable def g4_8 : List MOper := [⟨(some 21), .load true 3 (.t 2), none⟩, ⟨(some 22), .load true 3 (.t 3), none⟩, ⟨(some 23), .bslice 2 [(.int .i64 (.ofNat 0)), .nilsl, .nilsl, (.int .i64 (.ofNat 0)), .nilsl, .nilsl] [(0, 3, (.t 21)), (3, 3, (.t 22))], none⟩, ⟨(some 24), .call (.c (.func (.func 8) [] [])) [(.t 23)], none⟩, ⟨(some 25), .un .not (.t 24), none⟩]
noncomputable def g4_9 : List MOper := [⟨(some 4), .mv (.c (.bool true)), none⟩]
noncomputable def g4_10 : List MOper := [⟨(some 27), .load true 3 (.t 2), none⟩, ⟨(some 28), .load true 3 (.t 3), none⟩, ⟨(some 29), .call (.c (.func (.func 11) [] [])) [(.t 27), (.t 28)], none⟩, ⟨(some 26), .mv (.t 29), none⟩, ⟨(some 30), .extract 0 (.t 26), none⟩, ⟨(some 31), .extract 1 (.t 26), none⟩, ⟨(some 32), .extract 2 (.t 26), none⟩, ⟨(some 5), .alloc [(.int .i64 (.ofNat 0)), .nilsl, .nilsl], none⟩, ⟨none, .store 3 (.t 5) (.t 30), none⟩, ⟨(some 6), .mv (.t 31), none⟩, ⟨(some 7), .mv (.t 32), none⟩]
noncomputable def g4_11 : List MOper := [⟨(some 34), .load true 3 (.t 3), none⟩, ⟨(some 35), .load true 3 (.t 2), none⟩, ⟨(some 36), .call (.c (.func (.func 11) [] [])) [(.t 34), (.t 35)], none⟩, ⟨(some 33), .mv (.t 36), none⟩, ⟨(some 37), .extract 0 (.t 33), none⟩, ⟨(some 38), .extract 1 (.t 33), none⟩, ⟨(some 39), .extract 2 (.t 33), none⟩, ⟨(some 8), .alloc [(.int .i64 (.ofNat 0)), .nilsl, .nilsl], none⟩, ⟨none, .store 3 (.t 8) (.t 37), none⟩, ⟨(some 9), .mv (.t 38), none⟩, ⟨(some 10), .mv (.t 39), none⟩]
noncomputable def g4_12 : List MOper := [⟨(some 40), .mv (.t 7), none⟩, ⟨(some 41), .mv (.t 10), none⟩, ⟨(some 42), .bin false .neq (.t 40) (.t 41), none⟩, ⟨(some 43), .mv (.t 42), none⟩, ⟨(some 44), .mv (.t 6), (some (43, false))⟩, ⟨(some 45), .mv (.t 9), (some (43, false))⟩, ⟨(some 46), .bin true .neq (.t 44) (.t 45), (some (43, false))⟩, ⟨(some 47), .pick (.t 43) (.c (.bool true)) (.t 46), none⟩, ⟨(some 48), .mv (.t 47), none⟩, ⟨(some 49), .mv (.t 7), (some (48, false))⟩, ⟨(some 50), .bin false .neq (.t 49) (.c (.int .i64 (.ofNat 0))), (some (48, false))⟩, ⟨(some 51), .pick (.t 48) (.c (.bool true)) (.t 50), none⟩]
noncomputable def g4_13 : List MOper := [⟨(some 52), .mv (.t 7), none⟩, ⟨(some 53), .mv (.t 10), none⟩, ⟨(some 54), .bin false .eql (.t 52) (.t 53), none⟩, ⟨(some 55), .mv (.t 54), none⟩, ⟨(some 56), .mv (.t 6), (some (55, true))⟩, ⟨(some 57), .mv (.t 9), (some (55, true))⟩, ⟨(some 58), .bin true .eql (.t 56) (.t 57), (some (55, true))⟩, ⟨(some 59), .pick (.t 55) (.t 58) (.c (.bool false)), none⟩, ⟨(some 60), .mv (.t 59), none⟩, ⟨(some 61), .mv (.t 7), (some (60, true))⟩, ⟨(some 62), .bin false .eql (.t 61) (.c (.int .i64 (.ofNat 160))), (some (60, true))⟩, ⟨(some 63), .pick (.t 60) (.t 62) (.c (.bool false)), none⟩, ⟨(some 4), .mv (.t 63), none⟩]
noncomputable def g4_14 : List MOper := [⟨(some 65), .load true 3 (.t 2), none⟩, ⟨(some 66), .load true 3 (.t 2), none⟩, ⟨(some 67), .call (.c (.func (.func 11) [] [])) [(.t 65), (.t 66)], none⟩, ⟨(some 64), .mv (.t 67), none⟩, ⟨(some 68), .extract 0 (.t 64), none⟩, ⟨(some 69), .extract 1 (.t 64), none⟩, ⟨(some 70), .extract 2 (.t 64), none⟩, ⟨(some 11), .alloc [(.int .i64 (.ofNat 0)), .nilsl, .nilsl], none⟩, ⟨none, .store 3 (.t 11) (.t 68), none⟩, ⟨(some 12), .mv (.t 69), none⟩, ⟨(some 7), .mv (.t 70), none⟩]
noncomputable def g4_15 : List MOper := [⟨(some 71), .mv (.t 7), none⟩, ⟨(some 72), .bin false .neq (.t 71) (.c (.int .i64 (.ofNat 0))), none⟩, ⟨(some 73), .mv (.t 72), none⟩, ⟨(some 74), .mv (.t 12), (some (73, false))⟩, ⟨(some 75), .pick (.t 73) (.c (.bool true)) (.t 74), none⟩]
noncomputable def g4_16 : List MOper := [⟨(some 4), .mv (.c (.bool false)), none⟩]
noncomputable def g4_17 : List MOper := [⟨(some 76), .mv (.t 6), none⟩, ⟨(some 77), .un .not (.t 76), none⟩]
noncomputable def g4_18 : List MOper := [⟨(some 78), .faddr 0 (.t 5), none⟩, ⟨(some 79), .load false 1 (.t 78), none⟩, ⟨(some 80), .bin false .eql (.t 79) (.c (.int .i64 (.ofNat 0))), none⟩, ⟨(some 81), .mv (.t 80), none⟩, ⟨(some 82), .faddr 0 (.t 8), (some (81, true))⟩, ⟨(some 83), .load false 1 (.t 82), (some (81, true))⟩, ⟨(some 84), .bin false .eql (.t 83) (.c (.int .i64 (.ofNat 0))), (some (81, true))⟩, ⟨(some 85), .pick (.t 81) (.t 84) (.c (.bool false)), none⟩, ⟨(some 4), .mv (.t 85), none⟩]
noncomputable def g4_19 : List MOper := [⟨(some 86), .load true 3 (.t 5), none⟩, ⟨(some 87), .load true 3 (.t 3), none⟩, ⟨(some 88), .build [(.int .i64 (.ofNat 0)), .nilsl, .nilsl, (.int .i64 (.ofNat 0)), .nilsl, .nilsl] [(0, 3, (.t 86)), (3, 3, (.t 87))], none⟩, ⟨(some 89), .load true 3 (.t 8), none⟩, ⟨(some 90), .load true 3 (.t 2), none⟩, ⟨(some 91), .build [(.int .i64 (.ofNat 0)), .nilsl, .nilsl, (.int .i64 (.ofNat 0)), .nilsl, .nilsl] [(0, 3, (.t 89)), (3, 3, (.t 90))], none⟩, ⟨(some 92), .bslice 2 [(.int .i64 (.ofNat 0)), .nilsl, .nilsl, (.int .i64 (.ofNat 0)), .nilsl, .nilsl, (.int .i64 (.ofNat 0)), .nilsl, .nilsl, (.int .i64 (.ofNat 0)), .nilsl, .nilsl] [(0, 6, (.t 88)), (6, 6, (.t 91))], none⟩, ⟨(some 93), .len 0 (.t 92), none⟩, ⟨(some 94), .mv (.c (.int .i64 (.ofNat 0))), none⟩]
noncomputable def g4_20 : List MOper := [⟨(some 4), .mv (.c (.bool true)), none⟩]
noncomputable def bf4_0 : MCode := (.seq (.region g4_0)
 (.seq (.region g4_1)
 (.seq (.region g4_2)
 (.seq (.region g4_3)
 (.cond (.t 122)
 (.seq (.region g4_4)
 .ret)
 .skip)))))
noncomputable def kf4 : MFunc := ⟨124, (.seq (.region g4_5)
 (.seq (.seq (.region g4_6)
 (.cond (.t 20)
 (.seq (.region g4_7)
 .ret)
 .skip))
 (.seq (.seq (.region g4_8)
 (.cond (.t 25)
 (.seq (.region g4_9)
 .ret)
 .skip))
 (.seq (.region g4_10)
 (.seq (.region g4_11)
 (.seq (.seq (.region g4_12)
 (.cond (.t 51)
 (.seq (.region g4_13)
 .ret)
 .skip))
 (.seq (.region g4_14)
 (.seq (.seq (.region g4_15)
 (.cond (.t 75)
 (.seq (.region g4_16)
 .ret)
 .skip))
 (.seq (.seq (.region g4_17)
 (.cond (.t 77)
 (.seq (.region g4_18)
 .ret)
 .skip))
 (.seq (.seq (.region g4_19)
 (.block 0 (.loop (lb 95 94 93 123 bf4_0))))
 (.seq (.region g4_20)
 .ret))))))))))), [.t 4]⟩
theorem m4_eq : m4 = kf4 := by kernel_rfl
theorem t4 : tbl 4 = some m4 := by kernel_rfl
theorem Bh.fz {d e x : Dv} {a : Bool} (h : Bh d e x a) : a = true → x.fz ≤ e.fz := by
  induction h with
  | apart => intro _; exact Nat.le_refl _
  | keep _ _ ih => intro ha; have := ih ha; simp only [Dv.fz, Dv.fzL, List.length_cons, List.length_nil]; omega
  | loseNo => intro ha; cases ha
  | lose _ _ _ ih => intro ha; have := ih ha; simp only [Dv.fz, Dv.fzL]; omega
  | sync _ _ _ ih ih' =>
    intro ha
    simp only [Bool.and_eq_true] at ha
    have := ih ha.1; have := ih' ha.2
    simp only [Dv.fz, Dv.fzL, Tm.fzL, List.length_cons, List.length_nil]; omega
  | syncL0 _ _ _ ih => intro ha; have := ih ha; simp only [Dv.fz, Dv.fzL, Tm.fzL, List.length_cons, List.length_nil]; omega
  | syncL1 _ _ _ ih => intro ha; have := ih ha; simp only [Dv.fz, Dv.fzL, Tm.fzL, List.length_cons, List.length_nil]; omega
  | syncR0 _ _ _ ih => intro ha; have := ih ha; simp only [Dv.fz, Dv.fzL, Tm.fzL, List.length_cons, List.length_nil]; omega
  | syncR1 _ _ _ ih => intro ha; have := ih ha; simp only [Dv.fz, Dv.fzL, Tm.fzL, List.length_cons, List.length_nil]; omega
  | no => intro ha; cases ha
def BehindR (n : Nat) (Y : Yenv) (d e : Dv) (st : St) : Prop := ∃ cs b er st', R n Y 11 [.agg d.cells, .agg e.cells] st = .ret (.tuple [.agg cs, .bool b, .int .i64 er]) st' ∧ Keeps st st' ∧ (cs.length = 3 ∧ cs.all AV.one = true) ∧
  (((isDv d && isDv e) = false ∧ b = false ∧ er = .ofNat 160) ∨ (isDv d = true ∧ isDv e = true ∧ er = .ofNat 0 ∧ ∃ x, Bh d e x b ∧ (b = false → cs = [.int .i64 (.ofNat 0), .nilsl, .nilsl]) ∧ (b = true → RepD (fun i => st.next ≤ i ∧ i < st'.next) st' x cs)))
theorem Behind_run (d e : Dv) (n : Nat) (Y : Yenv) (st : St) (hd : d.ok) (he : e.ok) (hn : d.fz + 2 ≤ n) (hn' : e.fz + 2 ≤ n) : BehindR n Y d e st := by
  obtain ⟨m, rfl⟩ : ∃ m, n = m + 1 := ⟨n - 1, by omega⟩
  have b00 : Nat.beq 0 0 = true := rfl
  have hz3 : ([AV.int .i64 (.ofNat 0), .nilsl, .nilsl] : List AV).length = 3 ∧ ([AV.int .i64 (.ofNat 0), .nilsl, .nilsl] : List AV).all AV.one = true := ⟨rfl, rfl⟩
  have hcd := d.cells3
  have hce := e.cells3
  obtain ⟨s1, hs1⟩ : ∃ s1, s1 = st.new (.row [.int .i64 (.ofNat 0), .nilsl, .nilsl]) := ⟨_, rfl⟩
  have n1 : s1.next = st.next + 1 := by rw [hs1]; rfl
  have k1 : Keeps st s1 := by rw [hs1]; exact Keeps.new _ _
  have g1 : s1.get st.next = some (.row [.int .i64 (.ofNat 0), .nilsl, .nilsl]) := by rw [hs1, St.get_new, if_pos rfl]
  obtain ⟨s2, c2, k2⟩ := isDeriv_run d m Y (fun _ => False) s1 d.cells (RepD.line _ _ d hd) (fun _ h => h.elim) (by omega)
  obtain ⟨s3, c3, k3⟩ := isDeriv_run e m Y (fun _ => False) s2 e.cells (RepD.line _ _ e he) (fun _ h => h.elim) (by omega)
  have c2' : ((gamT tbl (handX exts) m).cg Y).fn 41 [.agg d.cells] s1 = .ret (.bool (isDv d)) s2 := c2
  have c3' : ((gamT tbl (handX exts) m).cg Y).fn 41 [.agg e.cells] s2 = .ret (.bool (isDv e)) s3 := c3
  have g2 := k2.get (i := st.next) (by omega) g1
  have g3 := k3.get (i := st.next) (by have := k2.1; omega) g2
  have fz0 : fillA [.int .i64 (.ofNat 0), .nilsl, .nilsl] [] = some [.int .i64 (.ofNat 0), .nilsl, .nilsl] := rfl
  have hbeh : isDv d = true → isDv e = true → BhR m Y d e s3 := fun h h' => behind_run d e m Y s3 hd he ((isDv_iff d).1 h).1 ((isDv_iff e).1 h').1 (by omega)
  have hge : isDv e = true → e.good gr = true := fun h => ((isDv_iff e).1 h).1
  have exA : ∀ (a b : AV), extractA 0 (.tuple [a, b]) = some a := fun _ _ => rfl
  have exB : ∀ (a b : AV), extractA 1 (.tuple [a, b]) = some b := fun _ _ => rfl
  have hfzx : ∀ x, Bh d e x true → x.fz ≤ m := fun x h => by have := h.fz rfl; omega
  unfold BehindR
  unfold BhR at hbeh
  generalize isDv d = D1 at *
  generalize isDv e = D2 at *
  have hout : ∀ er (b : Bool) cs s (fr : Fr), acode (gamT tbl (handX exts) m) Y m kf11.code none (frOf 0 [.agg d.cells, .agg e.cells] Fr.nil) st = .ret fr s → fr.ds = [] → fr.get 4 = some (.ptr st.next 0) → fr.get 5 = some (.bool b) → fr.get 6 = some (.int .i64 er) → s.get st.next = some (.row cs) → cs.length = 3 →
      R (m + 1) Y 11 [.agg d.cells, .agg e.cells] st = .ret (.tuple [.agg cs, .bool b, .int .i64 er]) s := fun er b cs s fr h hd g4 g5 g6 hg hl =>
    fun_of (mf := kf11) (by rw [t11, m11_eq]) rfl (.inl h) hd (by simp only [kf11, resultA, ressA, resA, g4, g5, g6, load_row hg hl, Option.bind_some, Option.map_some])
  obtain ⟨dc, hdc⟩ : ∃ dc, dc = d.cells := ⟨_, rfl⟩
  obtain ⟨ec, hec⟩ : ∃ ec, ec = e.cells := ⟨_, rfl⟩
  have hkeepd := hdc
  rw [← hdc] at hcd c2' hbeh hout ⊢
  rw [← hec] at hce c3' hbeh hout ⊢
  clear c2 c3
  obtain ⟨a, b, c, rfl⟩ : ∃ a b c, dc = [a, b, c] := by
    match dc, hcd.1 with
    | [a, b, c], _ => exact ⟨a, b, c, rfl⟩
  obtain ⟨a', b', c', rfl⟩ : ∃ a b c, ec = [a, b, c] := by
    match ec, hce.1 with
    | [a, b, c], _ => exact ⟨a, b, c, rfl⟩
  obtain ⟨fA1, hA1⟩ : ∃ fA, fA = frOf 0 [.agg [a, b, c], .agg [a', b', c']] Fr.nil := ⟨_, rfl⟩
  have gA1_0 : fA1.get 0 = some (.agg [a, b, c]) := by rw [hA1]; simp only [frOf, Fr.get_set, Nat.reduceAdd, Nat.reduceEqDiff, ↓reduceIte]
  have gA1_1 : fA1.get 1 = some (.agg [a', b', c']) := by rw [hA1]; simp only [frOf, Fr.get_set, Nat.reduceAdd, Nat.reduceEqDiff, ↓reduceIte]
  have dA1 : fA1.ds = [] := by rw [hA1]; rfl
  obtain ⟨fR2, hR2, kR2, oR2_2, oR2_3, oR2_4, oR2_5, oR2_6⟩ : ∃ fr', arun ((gamT tbl (handX exts) m).cg Y) g11_0 fA1 st = .ok fr' s1 ∧ Kp [] fA1 fr' ∧ fr'.get 2 = some (.fptr [a, b, c] 0) ∧ fr'.get 3 = some (.fptr [a', b', c'] 0) ∧ fr'.get 4 = some (.ptr st.next 0) ∧ fr'.get 5 = some (.bool false) ∧ fr'.get 6 = some (.int .i64 (.ofNat 0)) := by
    refine ⟨?r20, ?r21, ?r22, ?r2o2, ?r2o3, ?r2o4, ?r2o5, ?r2o6⟩
    case r21 =>
      simp only [amE, Nat.reduceEqDiff, ↓reduceIte, reduceCtorEq, Nat.reduceAdd, gA1_0, gA1_1, g11_0, ← hs1]
      rfl
    case r22 => repeat (first | exact Kp.refl | refine Kp.set (by decide) ?_)
    case r2o2 => simp only [Fr.get_set, Nat.reduceEqDiff, ↓reduceIte]
    case r2o3 => simp only [Fr.get_set, Nat.reduceEqDiff, ↓reduceIte]
    case r2o4 => simp only [Fr.get_set, Nat.reduceEqDiff, ↓reduceIte]
    case r2o5 => simp only [Fr.get_set, Nat.reduceEqDiff, ↓reduceIte]
    case r2o6 => simp only [Fr.get_set, Nat.reduceEqDiff, ↓reduceIte]
  have dR2 := kR2.1.trans dA1
  cases D1 with
  | true =>
    cases D2 with
    | true =>
      obtain ⟨fR3, hR3, kR3, oR3_16⟩ : ∃ fr', arun ((gamT tbl (handX exts) m).cg Y) g11_1 fR2 s1 = .ok fr' s3 ∧ Kp [2, 3, 4, 5, 6] fR2 fr' ∧ fr'.get 16 = some (.bool false) := by
        refine ⟨?r30, ?r31, ?r32, ?r3o16⟩
        case r31 =>
          simp only [amE, Nat.reduceEqDiff, ↓reduceIte, reduceCtorEq, Nat.reduceAdd, oR2_2, oR2_3, g11_1, ld3f, c2', c3', unN, Bool.not_true, Bool.not_false]
          rfl
        case r32 => repeat (first | exact Kp.refl | refine Kp.set (by decide) ?_)
        case r3o16 => simp only [Fr.get_set, Nat.reduceEqDiff, ↓reduceIte]
      have gR3_2 := kR3.at (k := 2) (by decide) oR2_2
      have gR3_3 := kR3.at (k := 3) (by decide) oR2_3
      have gR3_4 := kR3.at (k := 4) (by decide) oR2_4
      have dR3 := kR3.1.trans dR2
      obtain ⟨x, bx, cx, s4, hcx, hbh, hrep, k4⟩ := hbeh rfl rfl
      have hcx' : ((gamT tbl (handX exts) m).cg Y).fn 42 [.agg [a, b, c], .agg [a', b', c']] s3 = .ret (.tuple [.agg cx, .bool bx]) s4 := hcx
      have cx3 := hrep.cells3
      obtain ⟨s5, sto5, k5, g5, n5⟩ := next_el s4 (x := cx) (zs := [.int .i64 (.ofNat 0), .nilsl, .nilsl]) rfl cx3
      have l5 := load_row g5 cx3.1
      have gz5 := k5.get (i := st.next) (by have := k2.1; have := k3.1; have := k4.1; omega) (k4.get (by have := k2.1; have := k3.1; omega) g3)
      have K5 := (((k1.trans k2).trans k3).trans k4).trans k5
      obtain ⟨fR4, hR4, kR4, oR4_7, oR4_8⟩ : ∃ fr', arun ((gamT tbl (handX exts) m).cg Y) g11_3 fR3 s3 = .ok fr' s5 ∧ Kp [4, 5, 6] fR3 fr' ∧ fr'.get 7 = some (.ptr s4.next 0) ∧ fr'.get 8 = some (.bool bx) := by
        refine ⟨?r40, ?r41, ?r42, ?r4o7, ?r4o8⟩
        case r41 =>
          simp only [amE, Nat.reduceEqDiff, ↓reduceIte, reduceCtorEq, Nat.reduceAdd, gR3_2, gR3_3, g11_3, ld3f, hcx', exA, exB, sto5]
          rfl
        case r42 => repeat (first | exact Kp.refl | refine Kp.set (by decide) ?_)
        case r4o7 => simp only [Fr.get_set, Nat.reduceEqDiff, ↓reduceIte]
        case r4o8 => simp only [Fr.get_set, Nat.reduceEqDiff, ↓reduceIte]
      have gR4_4 := kR4.at (k := 4) (by decide) gR3_4
      have dR4 := kR4.1.trans dR3
      obtain ⟨fR5, hR5, kR5, oR5_25⟩ : ∃ fr', arun ((gamT tbl (handX exts) m).cg Y) g11_4 fR4 s5 = .ok fr' s5 ∧ Kp [4, 5, 6, 7] fR4 fr' ∧ fr'.get 25 = some (.bool (!bx)) := by
        refine ⟨?r50, ?r51, ?r52, ?r5o25⟩
        case r51 =>
          simp only [amE, Nat.reduceEqDiff, ↓reduceIte, reduceCtorEq, Nat.reduceAdd, oR4_8, g11_4, unN, Bool.not_true, Bool.not_false]
          rfl
        case r52 => repeat (first | exact Kp.refl | refine Kp.set (by decide) ?_)
        case r5o25 => simp only [Fr.get_set, Nat.reduceEqDiff, ↓reduceIte]
      have gR5_4 := kR5.at (k := 4) (by decide) gR4_4
      have gR5_7 := kR5.at (k := 7) (by decide) oR4_7
      have dR5 := kR5.1.trans dR4
      cases bx with
      | true =>
        have hgx : x.good gr = true := (hbh.good gr rfl (hge rfl)).1
        obtain ⟨cy, s6, hcy, k6, hry⟩ := ownDeriv_run x m Y (hfzx x hbh) hgx (fun i => s3.next ≤ i ∧ i < s4.next) s5 cx (hrep.mono (Same.of k5 fun i hi => hi.2) fun _ h => h) (fun i hi => by have := k5.1; omega)
        have hcy' : ((gamT tbl (handX exts) m).cg Y).fn 43 [.agg cx] s5 = .ret (.agg cy) s6 := hcy
        have cy3 := hry.cells3
        have gz6 := k6.get (i := st.next) (by have := k2.1; have := k3.1; have := k4.1; omega) gz5
        have sto9 := st3 gz6 rfl cy3
        obtain ⟨s9, hs9⟩ : ∃ s, s = s6.put st.next (.row cy) := ⟨_, rfl⟩
        rw [← hs9] at sto9
        have n9 : s9.next = s6.next := by rw [hs9]; rfl
        have g9 : s9.get st.next = some (.row cy) := by rw [hs9, St.get_put, if_pos rfl]
        obtain ⟨fR6, hR6, kR6, oR6_5, oR6_6⟩ : ∃ fr', arun ((gamT tbl (handX exts) m).cg Y) g11_6 fR5 s5 = .ok fr' s9 ∧ Kp [4] fR5 fr' ∧ fr'.get 5 = some (.bool true) ∧ fr'.get 6 = some (.int .i64 (.ofNat 0)) := by
          refine ⟨?r60, ?r61, ?r62, ?r6o5, ?r6o6⟩
          case r61 =>
            simp only [amE, Nat.reduceEqDiff, ↓reduceIte, reduceCtorEq, Nat.reduceAdd, gR5_4, gR5_7, g11_6, l5, hcy', sto9]
            rfl
          case r62 => repeat (first | exact Kp.refl | refine Kp.set (by decide) ?_)
          case r6o5 => simp only [Fr.get_set, Nat.reduceEqDiff, ↓reduceIte]
          case r6o6 => simp only [Fr.get_set, Nat.reduceEqDiff, ↓reduceIte]
        have gR6_4 := kR6.at (k := 4) (by decide) gR5_4
        have dR6 := kR6.1.trans dR5
        refine ⟨cy, true, _, s9, hout _ _ _ _ fR6 ?q6 dR6 gR6_4 oR6_5 oR6_6 g9 cy3.1, by rw [hs9]; exact (K5.trans k6).put' _ _ (Nat.le_refl _), cy3, .inr ⟨rfl, rfl, rfl, x, hbh, fun h => (by cases h), fun _ => ?z6⟩⟩
        case q6 =>
          rw [← hA1]
          simp only [amE, Nat.reduceEqDiff, ↓reduceIte, reduceCtorEq, Nat.reduceAdd, kf11, hR2, hR3, hR4, hR5, hR6, oR3_16, oR5_25, Bool.not_true]
        case z6 =>
          have := k2.1; have := k3.1; have := k4.1; have := k5.1
          exact hry.mono (fun i hi => by rw [hs9, St.get_put, if_neg (by omega)]) fun i hi => ⟨by omega, by omega⟩
      | false =>
        have sto9 := st3 gz5 rfl hz3
        obtain ⟨s9, hs9⟩ : ∃ s, s = s5.put st.next (.row [.int .i64 (.ofNat 0), .nilsl, .nilsl]) := ⟨_, rfl⟩
        rw [← hs9] at sto9
        have g9 : s9.get st.next = some (.row [.int .i64 (.ofNat 0), .nilsl, .nilsl]) := by rw [hs9, St.get_put, if_pos rfl]
        obtain ⟨fR7, hR7, kR7, oR7_5, oR7_6⟩ : ∃ fr', arun ((gamT tbl (handX exts) m).cg Y) g11_5 fR5 s5 = .ok fr' s9 ∧ Kp [4, 7] fR5 fr' ∧ fr'.get 5 = some (.bool false) ∧ fr'.get 6 = some (.int .i64 (.ofNat 0)) := by
          refine ⟨?r70, ?r71, ?r72, ?r7o5, ?r7o6⟩
          case r71 =>
            simp only [amE, Nat.reduceEqDiff, ↓reduceIte, reduceCtorEq, Nat.reduceAdd, gR5_4, g11_5, fz0, sto9]
            rfl
          case r72 => repeat (first | exact Kp.refl | refine Kp.set (by decide) ?_)
          case r7o5 => simp only [Fr.get_set, Nat.reduceEqDiff, ↓reduceIte]
          case r7o6 => simp only [Fr.get_set, Nat.reduceEqDiff, ↓reduceIte]
        have gR7_4 := kR7.at (k := 4) (by decide) gR5_4
        have dR7 := kR7.1.trans dR5
        refine ⟨[.int .i64 (.ofNat 0), .nilsl, .nilsl], false, _, s9, hout _ _ _ _ fR7 ?q7 dR7 gR7_4 oR7_5 oR7_6 g9 rfl, by rw [hs9]; exact K5.put' _ _ (Nat.le_refl _), hz3, .inr ⟨rfl, rfl, rfl, x, hbh, fun _ => rfl, fun h => by cases h⟩⟩
        case q7 =>
          rw [← hA1]
          simp only [amE, Nat.reduceEqDiff, ↓reduceIte, reduceCtorEq, Nat.reduceAdd, kf11, hR2, hR3, hR4, hR5, hR7, oR3_16, oR5_25, Bool.not_false]
    | false =>
      obtain ⟨fR8, hR8, kR8, oR8_16⟩ : ∃ fr', arun ((gamT tbl (handX exts) m).cg Y) g11_1 fR2 s1 = .ok fr' s3 ∧ Kp [2, 3, 4, 5, 6] fR2 fr' ∧ fr'.get 16 = some (.bool true) := by
        refine ⟨?r80, ?r81, ?r82, ?r8o16⟩
        case r81 =>
          simp only [amE, Nat.reduceEqDiff, ↓reduceIte, reduceCtorEq, Nat.reduceAdd, oR2_2, oR2_3, g11_1, ld3f, c2', c3', unN, Bool.not_true, Bool.not_false]
          rfl
        case r82 => repeat (first | exact Kp.refl | refine Kp.set (by decide) ?_)
        case r8o16 => simp only [Fr.get_set, Nat.reduceEqDiff, ↓reduceIte]
      have gR8_4 := kR8.at (k := 4) (by decide) oR2_4
      have dR8 := kR8.1.trans dR2
      have sto9 := st3 g3 rfl hz3
      obtain ⟨s9, hs9⟩ : ∃ s, s = s3.put st.next (.row [.int .i64 (.ofNat 0), .nilsl, .nilsl]) := ⟨_, rfl⟩
      rw [← hs9] at sto9
      have g9 : s9.get st.next = some (.row [.int .i64 (.ofNat 0), .nilsl, .nilsl]) := by rw [hs9, St.get_put, if_pos rfl]
      obtain ⟨fR9, hR9, kR9, oR9_5, oR9_6⟩ : ∃ fr', arun ((gamT tbl (handX exts) m).cg Y) g11_2 fR8 s3 = .ok fr' s9 ∧ Kp [2, 3, 4] fR8 fr' ∧ fr'.get 5 = some (.bool false) ∧ fr'.get 6 = some (.int .i64 (.ofNat 160)) := by
        refine ⟨?r90, ?r91, ?r92, ?r9o5, ?r9o6⟩
        case r91 =>
          simp only [amE, Nat.reduceEqDiff, ↓reduceIte, reduceCtorEq, Nat.reduceAdd, gR8_4, g11_2, fz0, sto9]
          rfl
        case r92 => repeat (first | exact Kp.refl | refine Kp.set (by decide) ?_)
        case r9o5 => simp only [Fr.get_set, Nat.reduceEqDiff, ↓reduceIte]
        case r9o6 => simp only [Fr.get_set, Nat.reduceEqDiff, ↓reduceIte]
      have gR9_4 := kR9.at (k := 4) (by decide) gR8_4
      have dR9 := kR9.1.trans dR8
      refine ⟨[.int .i64 (.ofNat 0), .nilsl, .nilsl], false, _, s9, hout _ _ _ _ fR9 ?q9 dR9 gR9_4 oR9_5 oR9_6 g9 rfl, by rw [hs9]; exact ((k1.trans k2).trans k3).put' _ _ (Nat.le_refl _), hz3, .inl ⟨by simp, rfl, rfl⟩⟩
      case q9 =>
        rw [← hA1]
        simp only [amE, Nat.reduceEqDiff, ↓reduceIte, reduceCtorEq, Nat.reduceAdd, kf11, hR2, hR8, hR9, oR8_16]
  | false =>
    obtain ⟨fR10, hR10, kR10, oR10_16⟩ : ∃ fr', arun ((gamT tbl (handX exts) m).cg Y) g11_1 fR2 s1 = .ok fr' s2 ∧ Kp [2, 3, 4, 5, 6] fR2 fr' ∧ fr'.get 16 = some (.bool true) := by
      refine ⟨?r100, ?r101, ?r102, ?r10o16⟩
      case r101 =>
        simp only [amE, Nat.reduceEqDiff, ↓reduceIte, reduceCtorEq, Nat.reduceAdd, oR2_2, oR2_3, g11_1, ld3f, c2', unN, Bool.not_true, Bool.not_false]
        rfl
      case r102 => repeat (first | exact Kp.refl | refine Kp.set (by decide) ?_)
      case r10o16 => simp only [Fr.get_set, Nat.reduceEqDiff, ↓reduceIte]
    have gR10_4 := kR10.at (k := 4) (by decide) oR2_4
    have dR10 := kR10.1.trans dR2
    have sto9 := st3 g2 rfl hz3
    obtain ⟨s9, hs9⟩ : ∃ s, s = s2.put st.next (.row [.int .i64 (.ofNat 0), .nilsl, .nilsl]) := ⟨_, rfl⟩
    rw [← hs9] at sto9
    have g9 : s9.get st.next = some (.row [.int .i64 (.ofNat 0), .nilsl, .nilsl]) := by rw [hs9, St.get_put, if_pos rfl]
    obtain ⟨fR11, hR11, kR11, oR11_5, oR11_6⟩ : ∃ fr', arun ((gamT tbl (handX exts) m).cg Y) g11_2 fR10 s2 = .ok fr' s9 ∧ Kp [2, 3, 4] fR10 fr' ∧ fr'.get 5 = some (.bool false) ∧ fr'.get 6 = some (.int .i64 (.ofNat 160)) := by
      refine ⟨?r110, ?r111, ?r112, ?r11o5, ?r11o6⟩
      case r111 =>
        simp only [amE, Nat.reduceEqDiff, ↓reduceIte, reduceCtorEq, Nat.reduceAdd, gR10_4, g11_2, fz0, sto9]
        rfl
      case r112 => repeat (first | exact Kp.refl | refine Kp.set (by decide) ?_)
      case r11o5 => simp only [Fr.get_set, Nat.reduceEqDiff, ↓reduceIte]
      case r11o6 => simp only [Fr.get_set, Nat.reduceEqDiff, ↓reduceIte]
    have gR11_4 := kR11.at (k := 4) (by decide) gR10_4
    have dR11 := kR11.1.trans dR10
    refine ⟨[.int .i64 (.ofNat 0), .nilsl, .nilsl], false, _, s9, hout _ _ _ _ fR11 ?q11 dR11 gR11_4 oR11_5 oR11_6 g9 rfl, by rw [hs9]; exact (k1.trans k2).put' _ _ (Nat.le_refl _), hz3, .inl ⟨by simp, rfl, rfl⟩⟩
    case q11 =>
      rw [← hA1]
      simp only [amE, Nat.reduceEqDiff, ↓reduceIte, reduceCtorEq, Nat.reduceAdd, kf11, hR2, hR10, hR11, oR10_16]
theorem store_newN {st : St} {zs x : List AV} {n : Nat} (hz : zs.length = n) (hx : x.length = n) (h1 : x.all AV.one = true) : storeA n (st.new (.row zs)) (.ptr st.next 0) (.agg x) = some ((st.new (.row zs)).put st.next (.row x)) := by
  simp only [storeA, St.get_new, if_true, AV.cells, hx, hz, h1]
  have : setCells zs 0 x = x := by
    simp only [setCells, List.take_zero, List.nil_append, Nat.zero_add]
    rw [List.drop_of_length_le (by omega)]; simp
  rw [this]
  have h2 : (0 + n).ble n = true := Nat.ble_eq_true_of_le (by omega)
  rw [h2, Nat.beq_refl]; rfl
theorem neqB (a b : Bool) : binB true .neq (.bool a) (.bool b) = some (.bool (a != b)) := by cases a <;> cases b <;> rfl
theorem eqlB (a b : Bool) : binB true .eql (.bool a) (.bool b) = some (.bool (a == b)) := by cases a <;> cases b <;> rfl
theorem touch_run {Γ : Gam} {n : Nat} {DF : Nat → List AV → St → DM → Option (DM × St)} {st stS : St} {d e : Dv} (hd : d.ok) (he : e.ok) (h7 : (Γ.cg Y0).fn 7 [] st = .ret (.bool true) stS) (hfn : ∀ f args s, f ≠ 7 → (Γ.cg Y0).fn f args s = R n Y0 f args s) (hn : d.fz + e.fz + 10 ≤ n) :
    ∃ st', abody Γ Y0 n DF m4 [.agg d.cells, .agg e.cells] st = .ret (.bool true) st' := by
  have b00 : Nat.beq 0 0 = true := rfl
  have hcd := d.cells3
  have hce := e.cells3
  have hsl8 : slAV false true (Dv.cellsL [d, e]) = .lst 2 (d.cells ++ e.cells) true := by simp only [Dv.cellsL]; simp [slAV]
  obtain ⟨b8, s1, c8⟩ := brief [d, e] false true n Y0 stS (by simp only [Dv.fzL, List.length_cons, List.length_nil]; omega) ⟨hd, he, trivial⟩ (fun h => by cases h) (by simp)
  rw [hsl8] at c8
  have c8' : (Γ.cg Y0).fn 8 [.lst 2 (d.cells ++ e.cells) true] stS = .ret (.bool b8) s1 := by rw [hfn _ _ _ (by decide)]; exact c8
  obtain ⟨cx, is, er1, s2, cb1, k2, cx3, hx⟩ := Behind_run d e n Y0 s1 hd he (by omega) (by omega)
  have cb1' : (Γ.cg Y0).fn 11 [.agg d.cells, .agg e.cells] s1 = .ret (.tuple [.agg cx, .bool is, .int .i64 er1]) s2 := by rw [hfn _ _ _ (by decide)]; exact cb1
  obtain ⟨s3, sto3, k3, g3, n3⟩ := next_el s2 (x := cx) (zs := [.int .i64 (.ofNat 0), .nilsl, .nilsl]) rfl cx3
  obtain ⟨cy, was, er2, s4, cb2, k4, cy3, hy⟩ := Behind_run e d n Y0 s3 he hd (by omega) (by omega)
  have cb2' : (Γ.cg Y0).fn 11 [.agg e.cells, .agg d.cells] s3 = .ret (.tuple [.agg cy, .bool was, .int .i64 er2]) s4 := by rw [hfn _ _ _ (by decide)]; exact cb2
  obtain ⟨s5, sto5, k5, g5, n5⟩ := next_el s4 (x := cy) (zs := [.int .i64 (.ofNat 0), .nilsl, .nilsl]) rfl cy3
  obtain ⟨cz, self, er3, s6, cb3, k6, cz3, hz⟩ := Behind_run d d n Y0 s5 hd hd (by omega) (by omega)
  have cb3' : (Γ.cg Y0).fn 11 [.agg d.cells, .agg d.cells] s5 = .ret (.tuple [.agg cz, .bool self, .int .i64 er3]) s6 := by rw [hfn _ _ _ (by decide)]; exact cb3
  obtain ⟨s7, sto7, k7, g7, n7⟩ := next_el s6 (x := cz) (zs := [.int .i64 (.ofNat 0), .nilsl, .nilsl]) rfl cz3
  have nk3 := k3.1
  have nk4 := k4.1
  have nk5 := k5.1
  have nk6 := k6.1
  have nk7 := k7.1
  have gx7 : s7.get s2.next = some (.row cx) := (((k4.trans k5).trans k6).trans k7).get (by omega) g3
  have gy7 : s7.get s4.next = some (.row cy) := (k6.trans k7).get (by omega) g5
  have lx7 := load_row gx7 cx3.1
  have ly7 := load_row gy7 cy3.1
  have exA : ∀ (a b c : AV), extractA 0 (.tuple [a, b, c]) = some a := fun _ _ _ => rfl
  have exB : ∀ (a b c : AV), extractA 1 (.tuple [a, b, c]) = some b := fun _ _ _ => rfl
  have exC : ∀ (a b c : AV), extractA 2 (.tuple [a, b, c]) = some c := fun _ _ _ => rfl
  have exD : ∀ (a b : AV), extractA 0 (.tuple [a, b]) = some a := fun _ _ => rfl
  have exE : ∀ (a b : AV), extractA 1 (.tuple [a, b]) = some b := fun _ _ => rfl
  have hRd : ∀ F s, RepD F s d d.cells := fun F s => RepD.line F s d hd
  have hRe : ∀ F s, RepD F s e e.cells := fun F s => RepD.line F s e he
  have hfx : ∀ {a b x : Dv}, Bh a b x true → x.fz ≤ b.fz := fun h => h.fz rfl
  have hL : ∀ (u : Dv) (F : Nat → Prop) (s : St) (cu : List AV), RepD F s u cu → (∀ i, F i → i < s.next) → isDv u = true → u.fz + 2 ≤ n → ∃ v s', (Γ.cg Y0).fn 12 [.agg cu] s = .ret (.tuple [v, .int .i64 (.ofNat 0)]) s' ∧ Keeps s s' ∧ ∀ s, (bif lenFits 0 v then lenA s v else none) = some (.int .i64 (.ofNat u.leaves)) := fun u F s cu hr hF hi hn => by
    obtain ⟨v, s', h1, h2, h3⟩ := leaves_run u n Y0 F s cu hr hF hn
    rw [if_pos hi] at h1
    simp only [if_pos hi] at h3
    exact ⟨v, s', by rw [hfn _ _ _ (by decide)]; exact h1, h2, h3⟩
  generalize hdc : d.cells = dc at *
  generalize hec : e.cells = ec at *
  have hdfz : d.fz + 10 ≤ n := by omega
  have hefz : e.fz + 10 ≤ n := by omega
  obtain ⟨a, b, c, rfl⟩ : ∃ a b c, dc = [a, b, c] := by
    match dc, hcd.1 with
    | [a, b, c], _ => exact ⟨a, b, c, rfl⟩
  obtain ⟨a', b', c', rfl⟩ : ∃ a b c, ec = [a, b, c] := by
    match ec, hce.1 with
    | [a, b, c], _ => exact ⟨a, b, c, rfl⟩
  obtain ⟨x1, x2, x3, rfl⟩ : ∃ a b c, cx = [a, b, c] := by
    match cx, cx3.1 with
    | [a, b, c], _ => exact ⟨a, b, c, rfl⟩
  obtain ⟨y1, y2, y3, rfl⟩ : ∃ a b c, cy = [a, b, c] := by
    match cy, cy3.1 with
    | [a, b, c], _ => exact ⟨a, b, c, rfl⟩
  have fl8 : fillA [.int .i64 (.ofNat 0), .nilsl, .nilsl, .int .i64 (.ofNat 0), .nilsl, .nilsl] [(0, 3, .agg [a, b, c]), (3, 3, .agg [a', b', c'])] = some [a, b, c, a', b', c'] := rfl
  have c8'' : (Γ.cg Y0).fn 8 [.lst 2 [a, b, c, a', b', c'] true] stS = .ret (.bool b8) s1 := c8'
  have hfin : ∀ (fr : Fr) (s : St), acode Γ Y0 n kf4.code none (frOf 0 [.agg [a, b, c], .agg [a', b', c']] Fr.nil) st = .ret fr s → fr.ds = [] → fr.get 4 = some (.bool true) → abody Γ Y0 n DF m4 [.agg [a, b, c], .agg [a', b', c']] st = .ret (.bool true) s := fun fr s h hd g => by
    rw [m4_eq]
    exact body_ret (Nat.le_of_ble_eq_true rfl) h hd (by simp only [kf4, ressA, resA, g, Option.bind_some, Option.map_some])
  obtain ⟨fA12, hA12⟩ : ∃ fA, fA = frOf 0 [.agg [a, b, c], .agg [a', b', c']] Fr.nil := ⟨_, rfl⟩
  have gA12_0 : fA12.get 0 = some (.agg [a, b, c]) := by rw [hA12]; simp only [frOf, Fr.get_set, Nat.reduceAdd, Nat.reduceEqDiff, ↓reduceIte]
  have gA12_1 : fA12.get 1 = some (.agg [a', b', c']) := by rw [hA12]; simp only [frOf, Fr.get_set, Nat.reduceAdd, Nat.reduceEqDiff, ↓reduceIte]
  have dA12 : fA12.ds = [] := by rw [hA12]; rfl
  obtain ⟨fR13, hR13, kR13, oR13_2, oR13_3, oR13_4⟩ : ∃ fr', arun (Γ.cg Y0) g4_5 fA12 st = .ok fr' st ∧ Kp [] fA12 fr' ∧ fr'.get 2 = some (.fptr [a, b, c] 0) ∧ fr'.get 3 = some (.fptr [a', b', c'] 0) ∧ fr'.get 4 = some (.bool false) := by
    refine ⟨?r130, ?r131, ?r132, ?r13o2, ?r13o3, ?r13o4⟩
    case r131 =>
      simp only [amE, Nat.reduceEqDiff, ↓reduceIte, reduceCtorEq, Nat.reduceAdd, gA12_0, gA12_1, g4_5]
      rfl
    case r132 => repeat (first | exact Kp.refl | refine Kp.set (by decide) ?_)
    case r13o2 => simp only [Fr.get_set, Nat.reduceEqDiff, ↓reduceIte]
    case r13o3 => simp only [Fr.get_set, Nat.reduceEqDiff, ↓reduceIte]
    case r13o4 => simp only [Fr.get_set, Nat.reduceEqDiff, ↓reduceIte]
  have dR13 := kR13.1.trans dA12
  obtain ⟨fR14, hR14, kR14, oR14_20⟩ : ∃ fr', arun (Γ.cg Y0) g4_6 fR13 st = .ok fr' stS ∧ Kp [2, 3, 4] fR13 fr' ∧ fr'.get 20 = some (.bool false) := by
    refine ⟨?r140, ?r141, ?r142, ?r14o20⟩
    case r141 =>
      simp only [amE, Nat.reduceEqDiff, ↓reduceIte, reduceCtorEq, Nat.reduceAdd, g4_6, h7, unN, Bool.not_true, Bool.not_false]
      rfl
    case r142 => repeat (first | exact Kp.refl | refine Kp.set (by decide) ?_)
    case r14o20 => simp only [Fr.get_set, Nat.reduceEqDiff, ↓reduceIte, Bool.true_and, Bool.false_and, Bool.true_or, Bool.false_or, Bool.and_true, Bool.and_false, Bool.or_true, Bool.or_false]
  have gR14_2 := kR14.at (k := 2) (by decide) oR13_2
  have gR14_3 := kR14.at (k := 3) (by decide) oR13_3
  have dR14 := kR14.1.trans dR13
  obtain ⟨fR15, hR15, kR15, oR15_25⟩ : ∃ fr', arun (Γ.cg Y0) g4_8 fR14 stS = .ok fr' s1 ∧ Kp [2, 3, 4] fR14 fr' ∧ fr'.get 25 = some (.bool (!b8)) := by
    refine ⟨?r150, ?r151, ?r152, ?r15o25⟩
    case r151 =>
      simp only [amE, Nat.reduceEqDiff, ↓reduceIte, reduceCtorEq, Nat.reduceAdd, gR14_2, gR14_3, g4_8, ld3f, fl8, c8'', unN, Bool.not_true, Bool.not_false]
      rfl
    case r152 => repeat (first | exact Kp.refl | refine Kp.set (by decide) ?_)
    case r15o25 => simp only [Fr.get_set, Nat.reduceEqDiff, ↓reduceIte]
  have gR15_2 := kR15.at (k := 2) (by decide) gR14_2
  have gR15_3 := kR15.at (k := 3) (by decide) gR14_3
  have dR15 := kR15.1.trans dR14
  cases b8 with
  | false =>
    obtain ⟨fR16, hR16, kR16, oR16_4⟩ : ∃ fr', arun (Γ.cg Y0) g4_9 fR15 s1 = .ok fr' s1 ∧ Kp [2, 3] fR15 fr' ∧ fr'.get 4 = some (.bool true) := by
      refine ⟨?r160, ?r161, ?r162, ?r16o4⟩
      case r161 =>
        simp only [amE, Nat.reduceEqDiff, ↓reduceIte, reduceCtorEq, Nat.reduceAdd, g4_9]
        rfl
      case r162 => repeat (first | exact Kp.refl | refine Kp.set (by decide) ?_)
      case r16o4 => simp only [Fr.get_set, Nat.reduceEqDiff, ↓reduceIte]
    have dR16 := kR16.1.trans dR15
    refine ⟨s1, hfin fR16 s1 ?q16 dR16 oR16_4⟩
    case q16 =>
      rw [← hA12]
      simp only [amE, Nat.reduceEqDiff, ↓reduceIte, reduceCtorEq, Nat.reduceAdd, kf4, b00, Bool.not_true, Bool.not_false, hR13, hR14, hR15, hR16, oR14_20, oR15_25]
  | true =>
    obtain ⟨fR17, hR17, kR17, oR17_5, oR17_6, oR17_7⟩ : ∃ fr', arun (Γ.cg Y0) g4_10 fR15 s1 = .ok fr' s3 ∧ Kp [2, 3, 4] fR15 fr' ∧ fr'.get 5 = some (.ptr s2.next 0) ∧ fr'.get 6 = some (.bool is) ∧ fr'.get 7 = some (.int .i64 er1) := by
      refine ⟨?r170, ?r171, ?r172, ?r17o5, ?r17o6, ?r17o7⟩
      case r171 =>
        simp only [amE, Nat.reduceEqDiff, ↓reduceIte, reduceCtorEq, Nat.reduceAdd, gR15_2, gR15_3, g4_10, ld3f, cb1', exA, exB, exC, sto3]
        rfl
      case r172 => repeat (first | exact Kp.refl | refine Kp.set (by decide) ?_)
      case r17o5 => simp only [Fr.get_set, Nat.reduceEqDiff, ↓reduceIte]
      case r17o6 => simp only [Fr.get_set, Nat.reduceEqDiff, ↓reduceIte]
      case r17o7 => simp only [Fr.get_set, Nat.reduceEqDiff, ↓reduceIte]
    have gR17_2 := kR17.at (k := 2) (by decide) gR15_2
    have gR17_3 := kR17.at (k := 3) (by decide) gR15_3
    have dR17 := kR17.1.trans dR15
    obtain ⟨fR18, hR18, kR18, oR18_8, oR18_9, oR18_10⟩ : ∃ fr', arun (Γ.cg Y0) g4_11 fR17 s3 = .ok fr' s5 ∧ Kp [2, 3, 4, 5, 6, 7] fR17 fr' ∧ fr'.get 8 = some (.ptr s4.next 0) ∧ fr'.get 9 = some (.bool was) ∧ fr'.get 10 = some (.int .i64 er2) := by
      refine ⟨?r180, ?r181, ?r182, ?r18o8, ?r18o9, ?r18o10⟩
      case r181 =>
        simp only [amE, Nat.reduceEqDiff, ↓reduceIte, reduceCtorEq, Nat.reduceAdd, gR17_2, gR17_3, g4_11, ld3f, cb2', exA, exB, exC, sto5]
        rfl
      case r182 => repeat (first | exact Kp.refl | refine Kp.set (by decide) ?_)
      case r18o8 => simp only [Fr.get_set, Nat.reduceEqDiff, ↓reduceIte]
      case r18o9 => simp only [Fr.get_set, Nat.reduceEqDiff, ↓reduceIte]
      case r18o10 => simp only [Fr.get_set, Nat.reduceEqDiff, ↓reduceIte]
    have gR18_2 := kR18.at (k := 2) (by decide) gR17_2
    have gR18_3 := kR18.at (k := 3) (by decide) gR17_3
    have gR18_5 := kR18.at (k := 5) (by decide) oR17_5
    have gR18_6 := kR18.at (k := 6) (by decide) oR17_6
    have gR18_7 := kR18.at (k := 7) (by decide) oR17_7
    have dR18 := kR18.1.trans dR17
    rcases hx with ⟨hW, rfl, rfl⟩ | ⟨hWd, hWe, rfl, x, hbx, hx0, hx1⟩
    · have hW' : (isDv e && isDv d) = false := by rw [Bool.and_comm]; exact hW
      obtain ⟨rfl, rfl⟩ : was = false ∧ er2 = .ofNat 160 := by
        rcases hy with ⟨_, h1, h2⟩ | ⟨h1, h2, _⟩
        · exact ⟨h1, h2⟩
        · rw [h1, h2] at hW'; cases hW'
      have n1 : binB false .neq (.int .i64 (.ofNat 160)) (.int .i64 (.ofNat 160)) = some (.bool false) := rfl
      have n2 : binB false .neq (.int .i64 (.ofNat 160)) (.int .i64 (.ofNat 0)) = some (.bool true) := rfl
      have n3 : binB false .eql (.int .i64 (.ofNat 160)) (.int .i64 (.ofNat 160)) = some (.bool true) := rfl
      have n4 : binB true .neq (.bool false) (.bool false) = some (.bool false) := rfl
      have n5 : binB true .eql (.bool false) (.bool false) = some (.bool true) := rfl
      obtain ⟨fR19, hR19, kR19, oR19_51⟩ : ∃ fr', arun (Γ.cg Y0) g4_12 fR18 s5 = .ok fr' s5 ∧ Kp [2, 3, 4, 5, 6, 7, 8, 9, 10] fR18 fr' ∧ fr'.get 51 = some (.bool true) := by
        refine ⟨?r190, ?r191, ?r192, ?r19o51⟩
        case r191 =>
          simp only [amE, Nat.reduceEqDiff, ↓reduceIte, reduceCtorEq, Nat.reduceAdd, gR18_6, gR18_7, oR18_9, oR18_10, g4_12, n1, n2, n4, Bool.not_true, Bool.not_false]
          rfl
        case r192 => repeat (first | exact Kp.refl | refine Kp.set (by decide) ?_)
        case r19o51 => simp only [Fr.get_set, Nat.reduceEqDiff, ↓reduceIte]
      have gR19_6 := kR19.at (k := 6) (by decide) gR18_6
      have gR19_7 := kR19.at (k := 7) (by decide) gR18_7
      have gR19_9 := kR19.at (k := 9) (by decide) oR18_9
      have gR19_10 := kR19.at (k := 10) (by decide) oR18_10
      have dR19 := kR19.1.trans dR18
      obtain ⟨fR20, hR20, kR20, oR20_4⟩ : ∃ fr', arun (Γ.cg Y0) g4_13 fR19 s5 = .ok fr' s5 ∧ Kp [2, 3, 5, 6, 7, 8] fR19 fr' ∧ fr'.get 4 = some (.bool true) := by
        refine ⟨?r200, ?r201, ?r202, ?r20o4⟩
        case r201 =>
          simp only [amE, Nat.reduceEqDiff, ↓reduceIte, reduceCtorEq, Nat.reduceAdd, gR19_6, gR19_7, gR19_9, gR19_10, g4_13, n3, n5, Bool.not_true, Bool.not_false]
          rfl
        case r202 => repeat (first | exact Kp.refl | refine Kp.set (by decide) ?_)
        case r20o4 => simp only [Fr.get_set, Nat.reduceEqDiff, ↓reduceIte]
      have dR20 := kR20.1.trans dR19
      refine ⟨s5, hfin fR20 s5 ?q20 dR20 oR20_4⟩
      case q20 =>
        rw [← hA12]
        simp only [amE, Nat.reduceEqDiff, ↓reduceIte, reduceCtorEq, Nat.reduceAdd, kf4, b00, Bool.not_true, Bool.not_false, hR13, hR14, hR15, hR17, hR18, hR19, hR20, oR14_20, oR15_25, oR19_51]
    · obtain ⟨y, hby, hy0, hy1, rfl⟩ : ∃ y, Bh e d y was ∧ (was = false → [y1, y2, y3] = [AV.int .i64 (.ofNat 0), .nilsl, .nilsl]) ∧ (was = true → RepD (fun i => s3.next ≤ i ∧ i < s4.next) s4 y [y1, y2, y3]) ∧ er2 = .ofNat 0 := by
        rcases hy with ⟨h1, _⟩ | ⟨_, _, h3, y, h4, h5, h6⟩
        · rw [hWd, hWe] at h1; cases h1
        · exact ⟨y, h4, h5, h6, h3⟩
      obtain rfl : is = was := hbx.sym hby
      obtain ⟨rfl, rfl⟩ : self = false ∧ er3 = .ofNat 0 := by
        rcases hz with ⟨h1, _⟩ | ⟨_, _, h3, z, h4, _⟩
        · rw [hWd] at h1; cases h1
        · exact ⟨h4.self rfl, h3⟩
      have n1 : binB false .neq (.int .i64 (.ofNat 0)) (.int .i64 (.ofNat 0)) = some (.bool false) := rfl
      have n4 : binB true .neq (.bool is) (.bool is) = some (.bool false) := by rw [neqB]; cases is <;> rfl
      obtain ⟨fR21, hR21, kR21, oR21_51⟩ : ∃ fr', arun (Γ.cg Y0) g4_12 fR18 s5 = .ok fr' s5 ∧ Kp [2, 3, 4, 5, 6, 7, 8, 9, 10] fR18 fr' ∧ fr'.get 51 = some (.bool false) := by
        refine ⟨?r210, ?r211, ?r212, ?r21o51⟩
        case r211 =>
          simp only [amE, Nat.reduceEqDiff, ↓reduceIte, reduceCtorEq, Nat.reduceAdd, gR18_6, gR18_7, oR18_9, oR18_10, g4_12, n1, n4, Bool.not_true, Bool.not_false]
          rfl
        case r212 => repeat (first | exact Kp.refl | refine Kp.set (by decide) ?_)
        case r21o51 => simp only [Fr.get_set, Nat.reduceEqDiff, ↓reduceIte]
      have gR21_2 := kR21.at (k := 2) (by decide) gR18_2
      have gR21_3 := kR21.at (k := 3) (by decide) gR18_3
      have gR21_5 := kR21.at (k := 5) (by decide) gR18_5
      have gR21_6 := kR21.at (k := 6) (by decide) gR18_6
      have gR21_8 := kR21.at (k := 8) (by decide) oR18_8
      have dR21 := kR21.1.trans dR18
      obtain ⟨fR22, hR22, kR22, oR22_11, oR22_12, oR22_7⟩ : ∃ fr', arun (Γ.cg Y0) g4_14 fR21 s5 = .ok fr' s7 ∧ Kp [2, 3, 4, 5, 6, 8] fR21 fr' ∧ fr'.get 11 = some (.ptr s6.next 0) ∧ fr'.get 12 = some (.bool false) ∧ fr'.get 7 = some (.int .i64 (.ofNat 0)) := by
        refine ⟨?r220, ?r221, ?r222, ?r22o11, ?r22o12, ?r22o7⟩
        case r221 =>
          simp only [amE, Nat.reduceEqDiff, ↓reduceIte, reduceCtorEq, Nat.reduceAdd, gR21_2, g4_14, ld3f, cb3', exA, exB, exC, sto7]
          rfl
        case r222 => repeat (first | exact Kp.refl | refine Kp.set (by decide) ?_)
        case r22o11 => simp only [Fr.get_set, Nat.reduceEqDiff, ↓reduceIte]
        case r22o12 => simp only [Fr.get_set, Nat.reduceEqDiff, ↓reduceIte]
        case r22o7 => simp only [Fr.get_set, Nat.reduceEqDiff, ↓reduceIte]
      have gR22_2 := kR22.at (k := 2) (by decide) gR21_2
      have gR22_3 := kR22.at (k := 3) (by decide) gR21_3
      have gR22_5 := kR22.at (k := 5) (by decide) gR21_5
      have gR22_6 := kR22.at (k := 6) (by decide) gR21_6
      have gR22_8 := kR22.at (k := 8) (by decide) gR21_8
      have dR22 := kR22.1.trans dR21
      obtain ⟨fR23, hR23, kR23, oR23_75⟩ : ∃ fr', arun (Γ.cg Y0) g4_15 fR22 s7 = .ok fr' s7 ∧ Kp [2, 3, 4, 5, 6, 8] fR22 fr' ∧ fr'.get 75 = some (.bool false) := by
        refine ⟨?r230, ?r231, ?r232, ?r23o75⟩
        case r231 =>
          simp only [amE, Nat.reduceEqDiff, ↓reduceIte, reduceCtorEq, Nat.reduceAdd, oR22_12, oR22_7, g4_15, n1, Bool.not_true, Bool.not_false]
          rfl
        case r232 => repeat (first | exact Kp.refl | refine Kp.set (by decide) ?_)
        case r23o75 => simp only [Fr.get_set, Nat.reduceEqDiff, ↓reduceIte]
      have gR23_2 := kR23.at (k := 2) (by decide) gR22_2
      have gR23_3 := kR23.at (k := 3) (by decide) gR22_3
      have gR23_5 := kR23.at (k := 5) (by decide) gR22_5
      have gR23_6 := kR23.at (k := 6) (by decide) gR22_6
      have gR23_8 := kR23.at (k := 8) (by decide) gR22_8
      have dR23 := kR23.1.trans dR22
      obtain ⟨fR24, hR24, kR24, oR24_77⟩ : ∃ fr', arun (Γ.cg Y0) g4_17 fR23 s7 = .ok fr' s7 ∧ Kp [2, 3, 4, 5, 8] fR23 fr' ∧ fr'.get 77 = some (.bool (!is)) := by
        refine ⟨?r240, ?r241, ?r242, ?r24o77⟩
        case r241 =>
          simp only [amE, Nat.reduceEqDiff, ↓reduceIte, reduceCtorEq, Nat.reduceAdd, gR23_6, g4_17, unN, Bool.not_true, Bool.not_false]
          rfl
        case r242 => repeat (first | exact Kp.refl | refine Kp.set (by decide) ?_)
        case r24o77 => simp only [Fr.get_set, Nat.reduceEqDiff, ↓reduceIte]
      have gR24_2 := kR24.at (k := 2) (by decide) gR23_2
      have gR24_3 := kR24.at (k := 3) (by decide) gR23_3
      have gR24_5 := kR24.at (k := 5) (by decide) gR23_5
      have gR24_8 := kR24.at (k := 8) (by decide) gR23_8
      have dR24 := kR24.1.trans dR23
      cases is with
      | true =>
        have hx1 := (hx1 rfl).mono (a := s7) (G := fun i => i < s7.next) (fun i hi => ((((k3.trans k4).trans k5).trans k6).trans k7).2 i hi.2) (fun i hi => by omega)
        have hy1 := (hy1 rfl).mono (a := s7) (G := fun i => i < s7.next) (fun i hi => ((k5.trans k6).trans k7).2 i hi.2) (fun i hi => by omega)
        obtain ⟨ixx, lvx⟩ := hbx.isDv hWe
        obtain ⟨ixy, lvy⟩ := hby.isDv hWd
        have fx := hfx hbx
        have fy := hfx hby
        have f1 : fillA [.int .i64 (.ofNat 0), .nilsl, .nilsl, .int .i64 (.ofNat 0), .nilsl, .nilsl] [(0, 3, .agg [x1, x2, x3]), (3, 3, .agg [a', b', c'])] = some [x1, x2, x3, a', b', c'] := rfl
        have f2 : fillA [.int .i64 (.ofNat 0), .nilsl, .nilsl, .int .i64 (.ofNat 0), .nilsl, .nilsl] [(0, 3, .agg [y1, y2, y3]), (3, 3, .agg [a, b, c])] = some [y1, y2, y3, a, b, c] := rfl
        have f3 : fillA [.int .i64 (.ofNat 0), .nilsl, .nilsl, .int .i64 (.ofNat 0), .nilsl, .nilsl, .int .i64 (.ofNat 0), .nilsl, .nilsl, .int .i64 (.ofNat 0), .nilsl, .nilsl] [(0, 6, .agg [x1, x2, x3, a', b', c']), (6, 6, .agg [y1, y2, y3, a, b, c])] = some [x1, x2, x3, a', b', c', y1, y2, y3, a, b, c] := rfl
        have len2 : (bif lenFits 0 (.lst 2 [x1, x2, x3, a', b', c', y1, y2, y3, a, b, c] true) then lenA s7 (.lst 2 [x1, x2, x3, a', b', c', y1, y2, y3, a, b, c] true) else none) = some (.int .i64 (.ofNat 2)) := rfl
        obtain ⟨fR25, hR25, kR25, oR25_92, oR25_93, oR25_94⟩ : ∃ fr', arun (Γ.cg Y0) g4_19 fR24 s7 = .ok fr' s7 ∧ Kp [2, 3, 4] fR24 fr' ∧ fr'.get 92 = some ((.lst 2 [x1, x2, x3, a', b', c', y1, y2, y3, a, b, c] true)) ∧ fr'.get 93 = some (.int .i64 (.ofNat 2)) ∧ fr'.get 94 = some (.int .i64 (.ofNat 0)) := by
          refine ⟨?r250, ?r251, ?r252, ?r25o92, ?r25o93, ?r25o94⟩
          case r251 =>
            simp only [amE, Nat.reduceEqDiff, ↓reduceIte, reduceCtorEq, Nat.reduceAdd, gR24_2, gR24_3, gR24_5, gR24_8, g4_19, lx7, ly7, ld3f, f1, f2, f3, len2]
            rfl
          case r252 => repeat (first | exact Kp.refl | refine Kp.set (by decide) ?_)
          case r25o92 => simp only [Fr.get_set, Nat.reduceEqDiff, ↓reduceIte]
          case r25o93 => simp only [Fr.get_set, Nat.reduceEqDiff, ↓reduceIte]
          case r25o94 => simp only [Fr.get_set, Nat.reduceEqDiff, ↓reduceIte]
        have dR25 := kR25.1.trans dR24
        have hB : ∀ k fr s, k < 2 → Kp [92, 93] fR25 fr → fr.get 94 = some (.int .i64 (.ofNat k)) → Keeps s7 s →
            (∃ FR s', acode Γ Y0 n bf4_0 none fr s = .norm FR s' ∧ Kp [94, 92, 93] fr FR ∧ Keeps s7 s') ∨ (∃ FR s', acode Γ Y0 n bf4_0 none fr s = .ret FR s' ∧ False) := by
          intro k fr s hk hkp g94 hks
          obtain ⟨u1, u2, u3, v1, v2, v3, du, dv, pp, ia, ld, hru, hrv, hiu, hiv, hle, hfu, hfv⟩ : ∃ u1 u2 u3 v1 v2 v3 du dv pp, iaddrA 6 (.lst 2 [x1, x2, x3, a', b', c', y1, y2, y3, a, b, c] true) (.int .i64 (.ofNat k)) = some pp ∧ (∀ s, loadA true 6 s pp = some (.agg [u1, u2, u3, v1, v2, v3])) ∧
              RepD (fun i => i < s7.next) s7 du [u1, u2, u3] ∧ RepD (fun i => i < s7.next) s7 dv [v1, v2, v3] ∧ isDv du = true ∧ isDv dv = true ∧ du.leaves = dv.leaves ∧ du.fz + 2 ≤ n ∧ dv.fz + 2 ≤ n := by
            rcases (show k = 0 ∨ k = 1 by omega) with rfl | rfl
            · exact ⟨x1, x2, x3, a', b', c', x, e, _, rfl, fun _ => rfl, hx1, hRe _ _, ixx, hWe, lvx, by omega, by omega⟩
            · exact ⟨y1, y2, y3, a, b, c, y, d, _, rfl, fun _ => rfl, hy1, hRd _ _, ixy, hWd, lvy, by omega, by omega⟩
          have h6 : [u1, u2, u3, v1, v2, v3].all AV.one = true := by
            have h1 := hru.cells3.2
            have h2 := hrv.cells3.2
            simp only [List.all_cons, List.all_nil, Bool.and_true, Bool.and_eq_true] at h1 h2 ⊢
            exact ⟨h1.1, h1.2.1, h1.2.2, h2.1, h2.2.1, h2.2.2⟩
          have sto := store_newN (st := s) (zs := [.int .i64 (.ofNat 0), .nilsl, .nilsl, .int .i64 (.ofNat 0), .nilsl, .nilsl]) (x := [u1, u2, u3, v1, v2, v3]) (n := 6) rfl rfl h6
          obtain ⟨t1, ht1⟩ : ∃ t1, t1 = (s.new (.row [.int .i64 (.ofNat 0), .nilsl, .nilsl, .int .i64 (.ofNat 0), .nilsl, .nilsl])).put s.next (.row [u1, u2, u3, v1, v2, v3]) := ⟨_, rfl⟩
          rw [← ht1] at sto
          have kt1 : Keeps s t1 := by rw [ht1]; exact (Keeps.refl s).newput _ _
          have gt1 : t1.get s.next = some (.row [u1, u2, u3, v1, v2, v3]) := by rw [ht1, St.get_put, if_pos rfl]
          have nt1 : t1.next = s.next + 1 := by rw [ht1]; rfl
          have ld := ld s
          have aa0 : aaddrA 2 3 (.ptr s.next 0) (.int .i64 (.ofNat 0)) = some (.ptr s.next 0) := rfl
          have aa1 : aaddrA 2 3 (.ptr s.next 0) (.int .i64 (.ofNat 1)) = some (.ptr s.next 3) := rfl
          have la0 : ∀ t : St, t.get s.next = some (.row [u1, u2, u3, v1, v2, v3]) → loadA true 3 t (.ptr s.next 0) = some (.agg [u1, u2, u3]) := fun t h => by simp only [loadA, cellsAt, h, Option.bind_some]; rfl
          have la1 : ∀ t : St, t.get s.next = some (.row [u1, u2, u3, v1, v2, v3]) → loadA true 3 t (.ptr s.next 3) = some (.agg [v1, v2, v3]) := fun t h => by simp only [loadA, cellsAt, h, Option.bind_some]; rfl
          have kst : Keeps s7 t1 := hks.trans kt1
          obtain ⟨l1, t2, cl1, kt2, ln1⟩ := hL du (fun i => i < s7.next) t1 [u1, u2, u3] (hru.mono (fun i hi => kst.2 i hi) fun _ h => h) (fun i hi => Nat.lt_of_lt_of_le hi kst.1) hiu hfu
          have kst2 := kst.trans kt2
          obtain ⟨l2, t3, cl2, kt3, ln2⟩ := hL dv (fun i => i < s7.next) t2 [v1, v2, v3] (hrv.mono (fun i hi => kst2.2 i hi) fun _ h => h) (fun i hi => Nat.lt_of_lt_of_le hi kst2.1) hiv hfv
          have la0' := la0 t1 gt1
          have la1' := la1 t2 (kt2.get (by omega) gt1)
          have ln1' := ln1 t3
          have ln2' := ln2 t3
          have n1 : binB false .neq (.int .i64 (.ofNat 0)) (.int .i64 (.ofNat 0)) = some (.bool false) := rfl
          have n2 : binB false .neq (.int .i64 (.ofNat du.leaves)) (.int .i64 (.ofNat dv.leaves)) = some (.bool false) := by
            rw [hle]
            show some (AV.bool (Int.ofNat dv.leaves != Int.ofNat dv.leaves)) = _
            simp
          have q92 := hkp.at (k := 92) (by decide) oR25_92
          obtain ⟨fR26, hR26, kR26, oR26_14⟩ : ∃ fr', arun (Γ.cg Y0) g4_0 fr s = .ok fr' t1 ∧ Kp [92, 93, 94] fr fr' ∧ fr'.get 14 = some (.ptr s.next 0) := by
            refine ⟨?r260, ?r261, ?r262, ?r26o14⟩
            case r261 =>
              simp only [amE, Nat.reduceEqDiff, ↓reduceIte, reduceCtorEq, Nat.reduceAdd, q92, g94, g4_0, ia, ld, sto]
              rfl
            case r262 => repeat (first | exact Kp.refl | refine Kp.set (by decide) ?_)
            case r26o14 => simp only [Fr.get_set, Nat.reduceEqDiff, ↓reduceIte]
          obtain ⟨fR27, hR27, kR27, oR27_15, oR27_16⟩ : ∃ fr', arun (Γ.cg Y0) g4_1 fR26 t1 = .ok fr' t2 ∧ Kp [14, 92, 93, 94] fR26 fr' ∧ fr'.get 15 = some (l1) ∧ fr'.get 16 = some (.int .i64 (.ofNat 0)) := by
            refine ⟨?r270, ?r271, ?r272, ?r27o15, ?r27o16⟩
            case r271 =>
              simp only [amE, Nat.reduceEqDiff, ↓reduceIte, reduceCtorEq, Nat.reduceAdd, oR26_14, g4_1, nd_aaddr, aa0, la0', cl1, exD, exE]
              rfl
            case r272 => repeat (first | exact Kp.refl | refine Kp.set (by decide) ?_)
            case r27o15 => simp only [Fr.get_set, Nat.reduceEqDiff, ↓reduceIte]
            case r27o16 => simp only [Fr.get_set, Nat.reduceEqDiff, ↓reduceIte]
          have gR27_14 := kR27.at (k := 14) (by decide) oR26_14
          obtain ⟨fR28, hR28, kR28, oR28_17, oR28_18⟩ : ∃ fr', arun (Γ.cg Y0) g4_2 fR27 t2 = .ok fr' t3 ∧ Kp [15, 16, 92, 93, 94] fR27 fr' ∧ fr'.get 17 = some (l2) ∧ fr'.get 18 = some (.int .i64 (.ofNat 0)) := by
            refine ⟨?r280, ?r281, ?r282, ?r28o17, ?r28o18⟩
            case r281 =>
              simp only [amE, Nat.reduceEqDiff, ↓reduceIte, reduceCtorEq, Nat.reduceAdd, gR27_14, g4_2, nd_aaddr, aa1, la1', cl2, exD, exE]
              rfl
            case r282 => repeat (first | exact Kp.refl | refine Kp.set (by decide) ?_)
            case r28o17 => simp only [Fr.get_set, Nat.reduceEqDiff, ↓reduceIte]
            case r28o18 => simp only [Fr.get_set, Nat.reduceEqDiff, ↓reduceIte]
          have gR28_15 := kR28.at (k := 15) (by decide) oR27_15
          have gR28_16 := kR28.at (k := 16) (by decide) oR27_16
          obtain ⟨fR29, hR29, kR29, oR29_122⟩ : ∃ fr', arun (Γ.cg Y0) g4_3 fR28 t3 = .ok fr' t3 ∧ Kp [92, 93, 94] fR28 fr' ∧ fr'.get 122 = some (.bool false) := by
            refine ⟨?r290, ?r291, ?r292, ?r29o122⟩
            case r291 =>
              simp only [amE, Nat.reduceEqDiff, ↓reduceIte, reduceCtorEq, Nat.reduceAdd, gR28_15, gR28_16, oR28_17, oR28_18, g4_3, n1, ln1', ln2', n2, Bool.not_true, Bool.not_false]
              rfl
            case r292 => repeat (first | exact Kp.refl | refine Kp.set (by decide) ?_)
            case r29o122 => simp only [Fr.get_set, Nat.reduceEqDiff, ↓reduceIte]
          refine .inl ⟨fR29, t3, ?q29, ((((kR26.sub (by decide)).trans (kR27.sub (by decide))).trans (kR28.sub (by decide))).trans (kR29.sub (by decide))), kst2.trans kt3⟩
          case q29 => simp only [amE, Nat.reduceEqDiff, ↓reduceIte, reduceCtorEq, Nat.reduceAdd, bf4_0, hR26, hR27, hR28, hR29, oR29_122]
        rcases kloop (Γ := Γ) (Y := Y0) (m := n) (N := 2) (c := 95) (i := 94) (n := 93) (i2 := 123) (ro := none) (L := [92, 93]) (fr0 := fR25) (by decide) (by decide) (by decide) (by decide) oR25_93 (by decide)
          (Q := fun _ _ s => Keeps s7 s) (fun _ _ _ _ _ _ h => h) hB 2 0 fR25 s7 n (by omega) (by omega) Kp.refl oR25_94 (Keeps.refl _) with ⟨FR, s', h1, h2, h3⟩ | ⟨FR, s', h1, h2⟩
        · refine ⟨s', hfin (FR.set 4 (some (.bool true))) s' ?w1 (h2.1.trans dR25) (by simp only [Fr.get_set, ↓reduceIte])⟩
          case w1 =>
            rw [← hA12]
            simp only [amE, Nat.reduceEqDiff, ↓reduceIte, reduceCtorEq, Nat.reduceAdd, kf4, b00, Bool.not_true, Bool.not_false, h1, g4_20, hR13, hR14, hR15, hR17, hR18, hR21, hR22, hR23, hR24, hR25, oR14_20, oR15_25, oR21_51, oR23_75, oR24_77]
        · exact absurd h2 id
      | false =>
        have hx0 := hx0 rfl
        have hy0 := hy0 rfl
        simp only [List.cons.injEq, and_true] at hx0 hy0
        obtain ⟨rfl, rfl, rfl⟩ := hx0
        obtain ⟨rfl, rfl, rfl⟩ := hy0
        have l1 := ld0 gx7
        have l2 := ld0 gy7
        have fa : ∀ i o, faddrA o (.ptr i 0) = some (.ptr i (0 + o)) := fun _ _ => rfl
        have n3 : binB false .eql (.int .i64 (.ofNat 0)) (.int .i64 (.ofNat 0)) = some (.bool true) := rfl
        obtain ⟨fR30, hR30, kR30, oR30_4⟩ : ∃ fr', arun (Γ.cg Y0) g4_18 fR24 s7 = .ok fr' s7 ∧ Kp [2, 3, 5, 8] fR24 fr' ∧ fr'.get 4 = some (.bool true) := by
          refine ⟨?r300, ?r301, ?r302, ?r30o4⟩
          case r301 =>
            simp only [amE, Nat.reduceEqDiff, ↓reduceIte, reduceCtorEq, Nat.reduceAdd, gR24_5, gR24_8, g4_18, fa, l1, l2, n3, Bool.not_true, Bool.not_false]
            rfl
          case r302 => repeat (first | exact Kp.refl | refine Kp.set (by decide) ?_)
          case r30o4 => simp only [Fr.get_set, Nat.reduceEqDiff, ↓reduceIte]
        have dR30 := kR30.1.trans dR24
        refine ⟨s7, hfin fR30 s7 ?q30 dR30 oR30_4⟩
        case q30 =>
          rw [← hA12]
          simp only [amE, Nat.reduceEqDiff, ↓reduceIte, reduceCtorEq, Nat.reduceAdd, kf4, b00, Bool.not_true, Bool.not_false, hR13, hR14, hR15, hR17, hR18, hR21, hR22, hR23, hR24, hR30, oR14_20, oR15_25, oR21_51, oR23_75, oR24_77]
end Go.AM.D16
