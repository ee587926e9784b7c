import Derived.Test.YtphmjdnljmhipaaGreatDoorAmSh7
set_option linter.unusedSimpArgs false
set_option linter.unusedVariables false
set_option maxRecDepth 100000
namespace Go.AM.D16
open Go Go.AM
noncomputable section
open Nat (reduceEqDiff reduceAdd)
def g11_0 : List MOper := [⟨(some 2), .box true (.t 0), none⟩, ⟨(some 3), .box true (.t 1), none⟩, ⟨(some 4), .alloc [(.int .i64 (.ofNat 0)), .nilsl, .nilsl], none⟩, ⟨(some 5), .mv (.c (.bool false)), none⟩, ⟨(some 6), .mv (.c (.int .i64 (.ofNat 0))), none⟩]
def g11_1 : List MOper := [⟨(some 9), .load true 3 (.t 2), none⟩, ⟨(some 10), .call (.c (.func (.func 41) [] [])) [(.t 9)], none⟩, ⟨(some 11), .un .not (.t 10), none⟩, ⟨(some 12), .mv (.t 11), none⟩, ⟨(some 13), .load true 3 (.t 3), (some (12, false))⟩, ⟨(some 14), .call (.c (.func (.func 41) [] [])) [(.t 13)], (some (12, false))⟩, ⟨(some 15), .un .not (.t 14), (some (12, false))⟩, ⟨(some 16), .pick (.t 12) (.c (.bool true)) (.t 15), none⟩]
def g11_2 : List MOper := [⟨(some 17), .build [(.int .i64 (.ofNat 0)), .nilsl, .nilsl] [], none⟩, ⟨none, .store 3 (.t 4) (.t 17), none⟩, ⟨(some 5), .mv (.c (.bool false)), none⟩, ⟨(some 6), .mv (.c (.int .i64 (.ofNat 160))), none⟩]
def g11_3 : List MOper := [⟨(some 19), .load true 3 (.t 2), none⟩, ⟨(some 20), .load true 3 (.t 3), none⟩, ⟨(some 21), .call (.c (.func (.func 42) [] [])) [(.t 19), (.t 20)], none⟩, ⟨(some 18), .mv (.t 21), none⟩, ⟨(some 22), .extract 0 (.t 18), none⟩, ⟨(some 23), .extract 1 (.t 18), none⟩, ⟨(some 7), .alloc [(.int .i64 (.ofNat 0)), .nilsl, .nilsl], none⟩, ⟨none, .store 3 (.t 7) (.t 22), none⟩, ⟨(some 8), .mv (.t 23), none⟩]
def g11_4 : List MOper := [⟨(some 24), .mv (.t 8), none⟩, ⟨(some 25), .un .not (.t 24), none⟩]
def g11_5 : List MOper := [⟨(some 26), .build [(.int .i64 (.ofNat 0)), .nilsl, .nilsl] [], none⟩, ⟨none, .store 3 (.t 4) (.t 26), none⟩, ⟨(some 5), .mv (.c (.bool false)), none⟩, ⟨(some 6), .mv (.c (.int .i64 (.ofNat 0))), none⟩]
def g11_6 : List MOper := [⟨(some 27), .load true 3 (.t 7), none⟩, ⟨(some 28), .call (.c (.func (.func 43) [] [])) [(.t 27)], none⟩, ⟨none, .store 3 (.t 4) (.t 28), none⟩, ⟨(some 5), .mv (.c (.bool true)), none⟩, ⟨(some 6), .mv (.c (.int .i64 (.ofNat 0))), none⟩]
def kf11 : MFunc := ⟨29, (.seq (.region g11_0)
 (.seq (.seq (.region g11_1)
 (.cond (.t 16)
 (.seq (.region g11_2)
 .ret)
 .skip))
 (.seq (.region g11_3)
 (.seq (.seq (.region g11_4)
 (.cond (.t 25)
 (.seq (.region g11_5)
 .ret)
 .skip))
 (.seq (.region g11_6)
 .ret))))), [.cell 4 true 3, .t 5, .t 6]⟩
theorem t11 : tbl 11 = some kf11 := by kernel_rfl
def g4_0 : List MOper := [⟨(some 96), .iaddr 6 (.t 92) (.t 94), none⟩, ⟨(some 97), .load true 6 (.t 96), none⟩, ⟨(some 14), .alloc [(.int .i64 (.ofNat 0)), .nilsl, .nilsl, (.int .i64 (.ofNat 0)), .nilsl, .nilsl], none⟩, ⟨none, .store 6 (.t 14) (.t 97), none⟩]
def g4_1 : List MOper := [⟨(some 99), .aaddr 2 3 (.t 14) (.c (.int .i64 (.ofNat 0))), none⟩, ⟨(some 100), .load true 3 (.t 99), none⟩, ⟨(some 101), .call (.c (.func (.func 12) [] [])) [(.t 100)], none⟩, ⟨(some 98), .mv (.t 101), none⟩, ⟨(some 102), .extract 0 (.t 98), none⟩, ⟨(some 103), .extract 1 (.t 98), none⟩, ⟨(some 15), .mv (.t 102), none⟩, ⟨(some 16), .mv (.t 103), none⟩]
def g4_2 : List MOper := [⟨(some 105), .aaddr 2 3 (.t 14) (.c (.int .i64 (.ofNat 1))), none⟩, ⟨(some 106), .load true 3 (.t 105), none⟩, ⟨(some 107), .call (.c (.func (.func 12) [] [])) [(.t 106)], none⟩, ⟨(some 104), .mv (.t 107), none⟩, ⟨(some 108), .extract 0 (.t 104), none⟩, ⟨(some 109), .extract 1 (.t 104), none⟩, ⟨(some 17), .mv (.t 108), none⟩, ⟨(some 18), .mv (.t 109), none⟩]
def g4_3 : List MOper := [⟨(some 110), .mv (.t 16), none⟩, ⟨(some 111), .bin false .neq (.t 110) (.c (.int .i64 (.ofNat 0))), none⟩, ⟨(some 112), .mv (.t 111), none⟩, ⟨(some 113), .mv (.t 18), (some (112, false))⟩, ⟨(some 114), .bin false .neq (.t 113) (.c (.int .i64 (.ofNat 0))), (some (112, false))⟩, ⟨(some 115), .pick (.t 112) (.c (.bool true)) (.t 114), none⟩, ⟨(some 116), .mv (.t 115), none⟩, ⟨(some 117), .mv (.t 15), (some (116, false))⟩, ⟨(some 118), .len 0 (.t 117), (some (116, false))⟩, ⟨(some 119), .mv (.t 17), (some (116, false))⟩, ⟨(some 120), .len 0 (.t 119), (some (116, false))⟩, ⟨(some 121), .bin false .neq (.t 118) (.t 120), (some (116, false))⟩, ⟨(some 122), .pick (.t 116) (.c (.bool true)) (.t 121), none⟩]
def g4_4 : List MOper := [⟨(some 4), .mv (.c (.bool false)), none⟩]
def g4_5 : List MOper := [⟨(some 2), .box true (.t 0), none⟩, ⟨(some 3), .box true (.t 1), none⟩, ⟨(some 4), .mv (.c (.bool false)), none⟩]
def g4_6 : List MOper := [⟨(some 19), .call (.c (.func (.func 7) [] [])) [], none⟩, ⟨(some 20), .un .not (.t 19), none⟩]
def g4_7 : List MOper := [⟨(some 4), .mv (.c (.bool false)), none⟩]
def g4_8 : List MOper := [⟨(some 21), .load true 3 (.t 2), none⟩, ⟨(some 22), .load true 3 (.t 3), none⟩, ⟨(some 23), .bslice 2 [(.int .i64 (.ofNat 0)), .nilsl, .nilsl, (.int .i64 (.ofNat 0)), .nilsl, .nilsl] [(0, 3, (.t 21)), (3, 3, (.t 22))], none⟩, ⟨(some 24), .call (.c (.func (.func 8) [] [])) [(.t 23)], none⟩, ⟨(some 25), .un .not (.t 24), none⟩]
def g4_9 : List MOper := [⟨(some 4), .mv (.c (.bool true)), none⟩]
def g4_10 : List MOper := [⟨(some 27), .load true 3 (.t 2), none⟩, ⟨(some 28), .load true 3 (.t 3), none⟩, ⟨(some 29), .call (.c (.func (.func 11) [] [])) [(.t 27), (.t 28)], none⟩, ⟨(some 26), .mv (.t 29), none⟩, ⟨(some 30), .extract 0 (.t 26), none⟩, ⟨(some 31), .extract 1 (.t 26), none⟩, ⟨(some 32), .extract 2 (.t 26), none⟩, ⟨(some 5), .alloc [(.int .i64 (.ofNat 0)), .nilsl, .nilsl], none⟩, ⟨none, .store 3 (.t 5) (.t 30), none⟩, ⟨(some 6), .mv (.t 31), none⟩, ⟨(some 7), .mv (.t 32), none⟩]
def g4_11 : List MOper := [⟨(some 34), .load true 3 (.t 3), none⟩, ⟨(some 35), .load true 3 (.t 2), none⟩, ⟨(some 36), .call (.c (.func (.func 11) [] [])) [(.t 34), (.t 35)], none⟩, ⟨(some 33), .mv (.t 36), none⟩, ⟨(some 37), .extract 0 (.t 33), none⟩, ⟨(some 38), .extract 1 (.t 33), none⟩, ⟨(some 39), .extract 2 (.t 33), none⟩, ⟨(some 8), .alloc [(.int .i64 (.ofNat 0)), .nilsl, .nilsl], none⟩, ⟨none, .store 3 (.t 8) (.t 37), none⟩, ⟨(some 9), .mv (.t 38), none⟩, ⟨(some 10), .mv (.t 39), none⟩]
def g4_12 : List MOper := [⟨(some 40), .mv (.t 7), none⟩, ⟨(some 41), .mv (.t 10), none⟩, ⟨(some 42), .bin false .neq (.t 40) (.t 41), none⟩, ⟨(some 43), .mv (.t 42), none⟩, ⟨(some 44), .mv (.t 6), (some (43, false))⟩, ⟨(some 45), .mv (.t 9), (some (43, false))⟩, ⟨(some 46), .bin true .neq (.t 44) (.t 45), (some (43, false))⟩, ⟨(some 47), .pick (.t 43) (.c (.bool true)) (.t 46), none⟩, ⟨(some 48), .mv (.t 47), none⟩, ⟨(some 49), .mv (.t 7), (some (48, false))⟩, ⟨(some 50), .bin false .neq (.t 49) (.c (.int .i64 (.ofNat 0))), (some (48, false))⟩, ⟨(some 51), .pick (.t 48) (.c (.bool true)) (.t 50), none⟩]
def g4_13 : List MOper := [⟨(some 52), .mv (.t 7), none⟩, ⟨(some 53), .mv (.t 10), none⟩, ⟨(some 54), .bin false .eql (.t 52) (.t 53), none⟩, ⟨(some 55), .mv (.t 54), none⟩, ⟨(some 56), .mv (.t 6), (some (55, true))⟩, ⟨(some 57), .mv (.t 9), (some (55, true))⟩, ⟨(some 58), .bin true .eql (.t 56) (.t 57), (some (55, true))⟩, ⟨(some 59), .pick (.t 55) (.t 58) (.c (.bool false)), none⟩, ⟨(some 60), .mv (.t 59), none⟩, ⟨(some 61), .mv (.t 7), (some (60, true))⟩, ⟨(some 62), .bin false .eql (.t 61) (.c (.int .i64 (.ofNat 160))), (some (60, true))⟩, ⟨(some 63), .pick (.t 60) (.t 62) (.c (.bool false)), none⟩, ⟨(some 4), .mv (.t 63), none⟩]
def g4_14 : List MOper := [⟨(some 65), .load true 3 (.t 2), none⟩, ⟨(some 66), .load true 3 (.t 2), none⟩, ⟨(some 67), .call (.c (.func (.func 11) [] [])) [(.t 65), (.t 66)], none⟩, ⟨(some 64), .mv (.t 67), none⟩, ⟨(some 68), .extract 0 (.t 64), none⟩, ⟨(some 69), .extract 1 (.t 64), none⟩, ⟨(some 70), .extract 2 (.t 64), none⟩, ⟨(some 11), .alloc [(.int .i64 (.ofNat 0)), .nilsl, .nilsl], none⟩, ⟨none, .store 3 (.t 11) (.t 68), none⟩, ⟨(some 12), .mv (.t 69), none⟩, ⟨(some 7), .mv (.t 70), none⟩]
def g4_15 : List MOper := [⟨(some 71), .mv (.t 7), none⟩, ⟨(some 72), .bin false .neq (.t 71) (.c (.int .i64 (.ofNat 0))), none⟩, ⟨(some 73), .mv (.t 72), none⟩, ⟨(some 74), .mv (.t 12), (some (73, false))⟩, ⟨(some 75), .pick (.t 73) (.c (.bool true)) (.t 74), none⟩]
def g4_16 : List MOper := [⟨(some 4), .mv (.c (.bool false)), none⟩]
def g4_17 : List MOper := [⟨(some 76), .mv (.t 6), none⟩, ⟨(some 77), .un .not (.t 76), none⟩]
def g4_18 : List MOper := [⟨(some 78), .faddr 0 (.t 5), none⟩, ⟨(some 79), .load false 1 (.t 78), none⟩, ⟨(some 80), .bin false .eql (.t 79) (.c (.int .i64 (.ofNat 0))), none⟩, ⟨(some 81), .mv (.t 80), none⟩, ⟨(some 82), .faddr 0 (.t 8), (some (81, true))⟩, ⟨(some 83), .load false 1 (.t 82), (some (81, true))⟩, ⟨(some 84), .bin false .eql (.t 83) (.c (.int .i64 (.ofNat 0))), (some (81, true))⟩, ⟨(some 85), .pick (.t 81) (.t 84) (.c (.bool false)), none⟩, ⟨(some 4), .mv (.t 85), none⟩]
def g4_19 : List MOper := [⟨(some 86), .load true 3 (.t 5), none⟩, ⟨(some 87), .load true 3 (.t 3), none⟩, ⟨(some 88), .build [(.int .i64 (.ofNat 0)), .nilsl, .nilsl, (.int .i64 (.ofNat 0)), .nilsl, .nilsl] [(0, 3, (.t 86)), (3, 3, (.t 87))], none⟩, ⟨(some 89), .load true 3 (.t 8), none⟩, ⟨(some 90), .load true 3 (.t 2), none⟩, ⟨(some 91), .build [(.int .i64 (.ofNat 0)), .nilsl, .nilsl, (.int .i64 (.ofNat 0)), .nilsl, .nilsl] [(0, 3, (.t 89)), (3, 3, (.t 90))], none⟩, ⟨(some 92), .bslice 2 [(.int .i64 (.ofNat 0)), .nilsl, .nilsl, (.int .i64 (.ofNat 0)), .nilsl, .nilsl, (.int .i64 (.ofNat 0)), .nilsl, .nilsl, (.int .i64 (.ofNat 0)), .nilsl, .nilsl] [(0, 6, (.t 88)), (6, 6, (.t 91))], none⟩, ⟨(some 93), .len 0 (.t 92), none⟩, ⟨(some 94), .mv (.c (.int .i64 (.ofNat 0))), none⟩]
def g4_20 : List MOper := [⟨(some 4), .mv (.c (.bool true)), none⟩]
def bf4_0 : MCode := (.seq (.region g4_0)
 (.seq (.region g4_1)
 (.seq (.region g4_2)
 (.seq (.region g4_3)
 (.cond (.t 122)
 (.seq (.region g4_4)
 .ret)
 .skip)))))
def kf4 : MFunc := ⟨124, (.seq (.region g4_5)
 (.seq (.seq (.region g4_6)
 (.cond (.t 20)
 (.seq (.region g4_7)
 .ret)
 .skip))
 (.seq (.seq (.region g4_8)
 (.cond (.t 25)
 (.seq (.region g4_9)
 .ret)
 .skip))
 (.seq (.region g4_10)
 (.seq (.region g4_11)
 (.seq (.seq (.region g4_12)
 (.cond (.t 51)
 (.seq (.region g4_13)
 .ret)
 .skip))
 (.seq (.region g4_14)
 (.seq (.seq (.region g4_15)
 (.cond (.t 75)
 (.seq (.region g4_16)
 .ret)
 .skip))
 (.seq (.seq (.region g4_17)
 (.cond (.t 77)
 (.seq (.region g4_18)
 .ret)
 .skip))
 (.seq (.seq (.region g4_19)
 (.block 0 (.loop (lb 95 94 93 123 bf4_0))))
 (.seq (.region g4_20)
 .ret))))))))))), [.t 4]⟩
theorem t4 : tbl 4 = some kf4 := by kernel_rfl
theorem Bh.fz {d e x : Dv} {a : Bool} (h : Bh d e x a) : a = true -> x.fz <= e.fz := by
 induction h with
 | apart => intro _; exact Nat.le_refl _
 | keep _ _ ih => intro ha; have := ih ha; simp only [Dv.fz, Dv.fzL, List.length_cons, List.length_nil]; omega
 | loseNo => intro ha; cases ha
 | lose _ _ _ ih => intro ha; have := ih ha; simp only [Dv.fz, Dv.fzL]; omega
 | sync _ _ _ ih ih' =>
  intro ha
  simp only [Bool.and_eq_true] at ha
  have := ih ha.1; have := ih' ha.2
  simp only [Dv.fz, Dv.fzL, Tm.fzL, List.length_cons, List.length_nil]; omega
 | syncL0 _ _ _ ih => intro ha; have := ih ha; simp only [Dv.fz, Dv.fzL, Tm.fzL, List.length_cons, List.length_nil]; omega
 | syncL1 _ _ _ ih => intro ha; have := ih ha; simp only [Dv.fz, Dv.fzL, Tm.fzL, List.length_cons, List.length_nil]; omega
 | syncR0 _ _ _ ih => intro ha; have := ih ha; simp only [Dv.fz, Dv.fzL, Tm.fzL, List.length_cons, List.length_nil]; omega
 | syncR1 _ _ _ ih => intro ha; have := ih ha; simp only [Dv.fz, Dv.fzL, Tm.fzL, List.length_cons, List.length_nil]; omega
 | no => intro ha; cases ha
def BehindR (n : Nat) (Y : Yenv) (d e : Dv) (st : St) : Prop := ∃ cs b er st', R n Y 11 [.agg d.cells, .agg e.cells] st = .ret (.tuple [.agg cs, .bool b, .int .i64 er]) st' /\ Keeps st st' /\ (cs.length = 3 /\ cs.all AV.one = true) ∧
 (((isDv d && isDv e) = false /\ b = false /\ er = .ofNat 160 /\ cs = [.int .i64 (.ofNat 0), .nilsl, .nilsl]) \/ (isDv d = true /\ isDv e = true /\ er = .ofNat 0 /\ ∃ x, Bh d e x b /\ (b = false -> cs = [.int .i64 (.ofNat 0), .nilsl, .nilsl]) /\ (b = true -> RepD (fun i => st.next <= i /\ i < st'.next) st' x cs)))
theorem Behind_run (d e : Dv) (n : Nat) (Y : Yenv) (st : St) (hd : d.ok) (he : e.ok) (hn : d.fz + 2 <= n) (hn' : e.fz + 2 <= n) : BehindR n Y d e st := by
 obtain ⟨m, rfl⟩ : ∃ m, n = m + 1 := ⟨n - 1, by omega⟩
 have b00 : Nat.beq 0 0 = true := rfl
 have hz3 : ([AV.int .i64 (.ofNat 0), .nilsl, .nilsl] : List AV).length = 3 /\ ([AV.int .i64 (.ofNat 0), .nilsl, .nilsl] : List AV).all AV.one = true := ⟨rfl, rfl⟩
 have hcd := d.cells3
 have hce := e.cells3
 obtain ⟨s1, hs1⟩ : ∃ s1, s1 = st.new (.row [.int .i64 (.ofNat 0), .nilsl, .nilsl]) := ⟨_, rfl⟩
 have n1 : s1.next = st.next + 1 := by rw [hs1]; rfl
 have k1 : Keeps st s1 := by rw [hs1]; exact Keeps.new _ _
 have g1 : s1.get st.next = some (.row [.int .i64 (.ofNat 0), .nilsl, .nilsl]) := by rw [hs1, St.get_new, if_pos rfl]
 obtain ⟨s2, c2, k2⟩ := isDeriv_run d m Y (fun _ => False) s1 d.cells (RepD.line _ _ d hd) (fun _ h => h.elim) (by omega)
 obtain ⟨s3, c3, k3⟩ := isDeriv_run e m Y (fun _ => False) s2 e.cells (RepD.line _ _ e he) (fun _ h => h.elim) (by omega)
 have c2' : ((gT m).cg Y).fn 41 [.agg d.cells] s1 = .ret (.bool (isDv d)) s2 := c2
 have c3' : ((gT m).cg Y).fn 41 [.agg e.cells] s2 = .ret (.bool (isDv e)) s3 := c3
 have g2 := k2.get (i := st.next) (by omega) g1
 have g3 := k3.get (i := st.next) (by have := k2.1; omega) g2
 have fz0 : fillA [.int .i64 (.ofNat 0), .nilsl, .nilsl] [] = some [.int .i64 (.ofNat 0), .nilsl, .nilsl] := rfl
 have hbeh : isDv d = true -> isDv e = true -> BhR m Y d e s3 := fun h h' => behind_run d e m Y s3 hd he ((isDv_iff d).1 h).1 ((isDv_iff e).1 h').1 (by omega)
 have hge : isDv e = true -> e.good gr = true := fun h => ((isDv_iff e).1 h).1
 have exA : ∀ (a b : AV), extractA 0 (.tuple [a, b]) = some a := fun _ _ => rfl
 have exB : ∀ (a b : AV), extractA 1 (.tuple [a, b]) = some b := fun _ _ => rfl
 have hfzx : ∀ x, Bh d e x true -> x.fz <= m := fun x h => by have := h.fz rfl; omega
 unfold BehindR
 unfold BhR at hbeh
 generalize isDv d = D1 at *
 generalize isDv e = D2 at *
 have hout : ∀ er (b : Bool) cs s (fr : Fr), acode (gT m) Y m kf11.code none (frOf 0 [.agg d.cells, .agg e.cells] Fr.nil) st = .ret fr s -> fr.ds = [] -> fr.get 4 = some (.ptr st.next 0) -> fr.get 5 = some (.bool b) -> fr.get 6 = some (.int .i64 er) -> s.get st.next = some (.row cs) -> cs.length = 3 ->
   R (m + 1) Y 11 [.agg d.cells, .agg e.cells] st = .ret (.tuple [.agg cs, .bool b, .int .i64 er]) s := fun er b cs s fr h hd g4 g5 g6 hg hl =>
  fun_of (mf := kf11) t11 rfl (.inl h) hd (by simp only [kf11, amE, g4, g5, g6, load_row hg hl])
 obtain ⟨dc, hdc⟩ : ∃ dc, dc = d.cells := ⟨_, rfl⟩
 obtain ⟨ec, hec⟩ : ∃ ec, ec = e.cells := ⟨_, rfl⟩
 have hkeepd := hdc
 rw [<- hdc] at hcd c2' hbeh hout ⊢
 rw [<- hec] at hce c3' hbeh hout ⊢
 clear c2 c3
 obtain ⟨a, b, c, rfl⟩ : ∃ a b c, dc = [a, b, c] := by
  match dc, hcd.1 with
  | [a, b, c], _ => exact ⟨a, b, c, rfl⟩
 obtain ⟨a', b', c', rfl⟩ : ∃ a b c, ec = [a, b, c] := by
  match ec, hce.1 with
  | [a, b, c], _ => exact ⟨a, b, c, rfl⟩
 obtain ⟨fA1, hA1⟩ : ∃ fA, fA = frOf 0 [.agg [a, b, c], .agg [a', b', c']] Fr.nil := ⟨_, rfl⟩
 have gA1_0 : fA1.get 0 = some (.agg [a, b, c]) := by rw [hA1]; simp only [frOf, Fr.get_set, reduceAdd, reduceEqDiff, ↓reduceIte]
 have gA1_1 : fA1.get 1 = some (.agg [a', b', c']) := by rw [hA1]; simp only [frOf, Fr.get_set, reduceAdd, reduceEqDiff, ↓reduceIte]
 have dA1 : fA1.ds = [] := by rw [hA1]; rfl
 obtain ⟨fR2, hR2, kR2, oR2_2, oR2_3, oR2_4, oR2_5, oR2_6⟩ : ∃ fr', arun ((gT m).cg Y) g11_0 fA1 st = .ok fr' s1 /\ Kp [] fA1 fr' /\ fr'.get 2 = some (.fptr [a, b, c] 0) /\ fr'.get 3 = some (.fptr [a', b', c'] 0) /\ fr'.get 4 = some (.ptr st.next 0) /\ fr'.get 5 = some (.bool false) /\ fr'.get 6 = some (.int .i64 (.ofNat 0)) := ⟨_, by simp only [amE, reduceEqDiff, ↓reduceIte, reduceCtorEq, reduceAdd, gA1_0, gA1_1, g11_0, <- hs1] <;> rfl, Kp.refl.s.s.s.s.s, gn (gn (gn (gn gh))), gn (gn (gn gh)), gn (gn gh), gn gh, gh⟩
 have dR2 := kR2.1.trans dA1
 cases D1 with
 | true =>
  cases D2 with
  | true =>
   obtain ⟨fR3, hR3, kR3, oR3_16⟩ : ∃ fr', arun ((gT m).cg Y) g11_1 fR2 s1 = .ok fr' s3 /\ Kp [2, 3, 4, 5, 6] fR2 fr' /\ fr'.get 16 = some (.bool false) := ⟨_, by simp only [amE, reduceEqDiff, ↓reduceIte, reduceCtorEq, reduceAdd, oR2_2, oR2_3, g11_1, ld3f, c2', c3', unN, Bool.not_true, Bool.not_false] <;> rfl, Kp.refl.s.s.s.s.s.s.s.s, gh⟩
   have gR3_2 := kR3.g 2 oR2_2
   have gR3_3 := kR3.g 3 oR2_3
   have gR3_4 := kR3.g 4 oR2_4
   have dR3 := kR3.1.trans dR2
   obtain ⟨x, bx, cx, s4, hcx, hbh, hrep, k4⟩ := hbeh rfl rfl
   have hcx' : ((gT m).cg Y).fn 42 [.agg [a, b, c], .agg [a', b', c']] s3 = .ret (.tuple [.agg cx, .bool bx]) s4 := hcx
   have cx3 := hrep.cells3
   obtain ⟨s5, sto5, k5, g5, n5⟩ := next_el s4 (x := cx) (zs := [.int .i64 (.ofNat 0), .nilsl, .nilsl]) rfl cx3
   have l5 := load_row g5 cx3.1
   have gz5 := k5.get (i := st.next) (by have := k2.1; have := k3.1; have := k4.1; omega) (k4.get (by have := k2.1; have := k3.1; omega) g3)
   have K5 := (((k1.trans k2).trans k3).trans k4).trans k5
   obtain ⟨fR4, hR4, kR4, oR4_7, oR4_8⟩ : ∃ fr', arun ((gT m).cg Y) g11_3 fR3 s3 = .ok fr' s5 /\ Kp [4, 5, 6] fR3 fr' /\ fr'.get 7 = some (.ptr s4.next 0) /\ fr'.get 8 = some (.bool bx) := ⟨_, by simp only [amE, reduceEqDiff, ↓reduceIte, reduceCtorEq, reduceAdd, gR3_2, gR3_3, g11_3, ld3f, hcx', exA, exB, sto5] <;> rfl, Kp.refl.s.s.s.s.s.s.s.s, gn gh, gh⟩
   have gR4_4 := kR4.g 4 gR3_4
   have dR4 := kR4.1.trans dR3
   obtain ⟨fR5, hR5, kR5, oR5_25⟩ : ∃ fr', arun ((gT m).cg Y) g11_4 fR4 s5 = .ok fr' s5 /\ Kp [4, 5, 6, 7] fR4 fr' /\ fr'.get 25 = some (.bool (!bx)) := ⟨_, by simp only [amE, reduceEqDiff, ↓reduceIte, reduceCtorEq, reduceAdd, oR4_8, g11_4, unN, Bool.not_true, Bool.not_false] <;> rfl, Kp.refl.s.s, gh⟩
   have gR5_4 := kR5.g 4 gR4_4
   have gR5_7 := kR5.g 7 oR4_7
   have dR5 := kR5.1.trans dR4
   cases bx with
   | true =>
    have hgx : x.good gr = true := (hbh.good gr rfl (hge rfl)).1
    obtain ⟨cy, s6, hcy, k6, hry⟩ := ownDeriv_run x m Y (hfzx x hbh) hgx (fun i => s3.next <= i /\ i < s4.next) s5 cx (hrep.mono (Same.of k5 fun i hi => hi.2) fun _ h => h) (fun i hi => by have := k5.1; omega)
    have hcy' : ((gT m).cg Y).fn 43 [.agg cx] s5 = .ret (.agg cy) s6 := hcy
    have cy3 := hry.cells3
    have gz6 := k6.get (i := st.next) (by have := k2.1; have := k3.1; have := k4.1; omega) gz5
    have sto9 := st3 gz6 rfl cy3
    obtain ⟨s9, hs9⟩ : ∃ s, s = s6.put st.next (.row cy) := ⟨_, rfl⟩
    rw [<- hs9] at sto9
    have n9 : s9.next = s6.next := by rw [hs9]; rfl
    have g9 : s9.get st.next = some (.row cy) := by rw [hs9, St.get_put, if_pos rfl]
    obtain ⟨fR6, hR6, kR6, oR6_5, oR6_6⟩ : ∃ fr', arun ((gT m).cg Y) g11_6 fR5 s5 = .ok fr' s9 /\ Kp [4] fR5 fr' /\ fr'.get 5 = some (.bool true) /\ fr'.get 6 = some (.int .i64 (.ofNat 0)) := ⟨_, by simp only [amE, reduceEqDiff, ↓reduceIte, reduceCtorEq, reduceAdd, gR5_4, gR5_7, g11_6, l5, hcy', sto9] <;> rfl, Kp.refl.s.s.s.s, gn gh, gh⟩
    have gR6_4 := kR6.g 4 gR5_4
    have dR6 := kR6.1.trans dR5
    refine ⟨cy, true, _, s9, hout _ _ _ _ fR6 ?q6 dR6 gR6_4 oR6_5 oR6_6 g9 cy3.1, by rw [hs9]; exact (K5.trans k6).put' _ _ (Nat.le_refl _), cy3, .inr ⟨rfl, rfl, rfl, x, hbh, fun h => (by cases h), fun _ => ?z6⟩⟩
    case q6 =>
     rw [<- hA1]
     simp only [amE, reduceEqDiff, ↓reduceIte, reduceCtorEq, reduceAdd, kf11, hR2, hR3, hR4, hR5, hR6, oR3_16, oR5_25, Bool.not_true]
    case z6 =>
     have := k2.1; have := k3.1; have := k4.1; have := k5.1
     exact hry.mono (fun i hi => by rw [hs9, St.get_put, if_neg (by omega)]) fun i hi => ⟨by omega, by omega⟩
   | false =>
    have sto9 := st3 gz5 rfl hz3
    obtain ⟨s9, hs9⟩ : ∃ s, s = s5.put st.next (.row [.int .i64 (.ofNat 0), .nilsl, .nilsl]) := ⟨_, rfl⟩
    rw [<- hs9] at sto9
    have g9 : s9.get st.next = some (.row [.int .i64 (.ofNat 0), .nilsl, .nilsl]) := by rw [hs9, St.get_put, if_pos rfl]
    obtain ⟨fR7, hR7, kR7, oR7_5, oR7_6⟩ : ∃ fr', arun ((gT m).cg Y) g11_5 fR5 s5 = .ok fr' s9 /\ Kp [4, 7] fR5 fr' /\ fr'.get 5 = some (.bool false) /\ fr'.get 6 = some (.int .i64 (.ofNat 0)) := ⟨_, by simp only [amE, reduceEqDiff, ↓reduceIte, reduceCtorEq, reduceAdd, gR5_4, g11_5, fz0, sto9] <;> rfl, Kp.refl.s.s.s, gn gh, gh⟩
    have gR7_4 := kR7.g 4 gR5_4
    have dR7 := kR7.1.trans dR5
    refine ⟨[.int .i64 (.ofNat 0), .nilsl, .nilsl], false, _, s9, hout _ _ _ _ fR7 ?q7 dR7 gR7_4 oR7_5 oR7_6 g9 rfl, by rw [hs9]; exact K5.put' _ _ (Nat.le_refl _), hz3, .inr ⟨rfl, rfl, rfl, x, hbh, fun _ => rfl, fun h => by cases h⟩⟩
    case q7 =>
     rw [<- hA1]
     simp only [amE, reduceEqDiff, ↓reduceIte, reduceCtorEq, reduceAdd, kf11, hR2, hR3, hR4, hR5, hR7, oR3_16, oR5_25, Bool.not_false]
  | false =>
   obtain ⟨fR8, hR8, kR8, oR8_16⟩ : ∃ fr', arun ((gT m).cg Y) g11_1 fR2 s1 = .ok fr' s3 /\ Kp [2, 3, 4, 5, 6] fR2 fr' /\ fr'.get 16 = some (.bool true) := ⟨_, by simp only [amE, reduceEqDiff, ↓reduceIte, reduceCtorEq, reduceAdd, oR2_2, oR2_3, g11_1, ld3f, c2', c3', unN, Bool.not_true, Bool.not_false] <;> rfl, Kp.refl.s.s.s.s.s.s.s.s, gh⟩
   have gR8_4 := kR8.g 4 oR2_4
   have dR8 := kR8.1.trans dR2
   have sto9 := st3 g3 rfl hz3
   obtain ⟨s9, hs9⟩ : ∃ s, s = s3.put st.next (.row [.int .i64 (.ofNat 0), .nilsl, .nilsl]) := ⟨_, rfl⟩
   rw [<- hs9] at sto9
   have g9 : s9.get st.next = some (.row [.int .i64 (.ofNat 0), .nilsl, .nilsl]) := by rw [hs9, St.get_put, if_pos rfl]
   obtain ⟨fR9, hR9, kR9, oR9_5, oR9_6⟩ : ∃ fr', arun ((gT m).cg Y) g11_2 fR8 s3 = .ok fr' s9 /\ Kp [2, 3, 4] fR8 fr' /\ fr'.get 5 = some (.bool false) /\ fr'.get 6 = some (.int .i64 (.ofNat 160)) := ⟨_, by simp only [amE, reduceEqDiff, ↓reduceIte, reduceCtorEq, reduceAdd, gR8_4, g11_2, fz0, sto9] <;> rfl, Kp.refl.s.s.s, gn gh, gh⟩
   have gR9_4 := kR9.g 4 gR8_4
   have dR9 := kR9.1.trans dR8
   refine ⟨[.int .i64 (.ofNat 0), .nilsl, .nilsl], false, _, s9, hout _ _ _ _ fR9 ?q9 dR9 gR9_4 oR9_5 oR9_6 g9 rfl, by rw [hs9]; exact ((k1.trans k2).trans k3).put' _ _ (Nat.le_refl _), hz3, .inl ⟨by simp, rfl, rfl, rfl⟩⟩
   case q9 =>
    rw [<- hA1]
    simp only [amE, reduceEqDiff, ↓reduceIte, reduceCtorEq, reduceAdd, kf11, hR2, hR8, hR9, oR8_16]
 | false =>
  obtain ⟨fR10, hR10, kR10, oR10_16⟩ : ∃ fr', arun ((gT m).cg Y) g11_1 fR2 s1 = .ok fr' s2 /\ Kp [2, 3, 4, 5, 6] fR2 fr' /\ fr'.get 16 = some (.bool true) := ⟨_, by simp only [amE, reduceEqDiff, ↓reduceIte, reduceCtorEq, reduceAdd, oR2_2, oR2_3, g11_1, ld3f, c2', unN, Bool.not_true, Bool.not_false] <;> rfl, Kp.refl.s.s.s.s.s.s.s.s, gh⟩
  have gR10_4 := kR10.g 4 oR2_4
  have dR10 := kR10.1.trans dR2
  have sto9 := st3 g2 rfl hz3
  obtain ⟨s9, hs9⟩ : ∃ s, s = s2.put st.next (.row [.int .i64 (.ofNat 0), .nilsl, .nilsl]) := ⟨_, rfl⟩
  rw [<- hs9] at sto9
  have g9 : s9.get st.next = some (.row [.int .i64 (.ofNat 0), .nilsl, .nilsl]) := by rw [hs9, St.get_put, if_pos rfl]
  obtain ⟨fR11, hR11, kR11, oR11_5, oR11_6⟩ : ∃ fr', arun ((gT m).cg Y) g11_2 fR10 s2 = .ok fr' s9 /\ Kp [2, 3, 4] fR10 fr' /\ fr'.get 5 = some (.bool false) /\ fr'.get 6 = some (.int .i64 (.ofNat 160)) := ⟨_, by simp only [amE, reduceEqDiff, ↓reduceIte, reduceCtorEq, reduceAdd, gR10_4, g11_2, fz0, sto9] <;> rfl, Kp.refl.s.s.s, gn gh, gh⟩
  have gR11_4 := kR11.g 4 gR10_4
  have dR11 := kR11.1.trans dR10
  refine ⟨[.int .i64 (.ofNat 0), .nilsl, .nilsl], false, _, s9, hout _ _ _ _ fR11 ?q11 dR11 gR11_4 oR11_5 oR11_6 g9 rfl, by rw [hs9]; exact (k1.trans k2).put' _ _ (Nat.le_refl _), hz3, .inl ⟨by simp, rfl, rfl, rfl⟩⟩
  case q11 =>
   rw [<- hA1]
   simp only [amE, reduceEqDiff, ↓reduceIte, reduceCtorEq, reduceAdd, kf11, hR2, hR10, hR11, oR10_16]
theorem eqlB (a b : Bool) : binB true .eql (.bool a) (.bool b) = some (.bool (a == b)) := by cases a <;> cases b <;> rfl
end
end Go.AM.D16
