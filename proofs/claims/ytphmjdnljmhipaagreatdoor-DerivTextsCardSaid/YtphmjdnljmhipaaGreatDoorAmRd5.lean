import Derived.Test.YtphmjdnljmhipaaGreatDoorAmRd4
set_option linter.unusedSimpArgs false
set_option linter.unusedVariables false
set_option maxRecDepth 100000
namespace Go.AM.D16
open Go Go.AM
noncomputable section
open Nat (reduceEqDiff reduceAdd)
def rdS (s : List Nat) : Dv × Nat × Nat :=
 if 100000 < s.length then (.mk 0 false false [] false false [], 0, 2) else
 match pD s (s.length + 1) 0 with
 | .err p => (.mk 0 false false [] false false [], p, 161)
 | .ok d p => if p < s.length then (.mk 0 false false [] false false [], p, 161) else
  if isDv d then (d, 0, 0) else (.mk 0 false false [] false false [], 0, 160)
theorem zD_rep (F : Nat -> Prop) (st : St) : RepD F st (.mk 0 false false [] false false []) [(.int .i64 (.ofNat 0)), .nilsl, .nilsl] := by
 simp only [RepD]
 exact ⟨.nilsl, [], .nilsl, [], rfl, SlR.nil _ _, rfl, SlR.nil _ _, rfl⟩
theorem fun_end {f n : Nat} {mf : MFunc} {Y : Yenv} {args : List AV} {st st' st2 : St} {fr : Fr} {r : FR} {m : DM} (ht : tbl f = some mf) (hle : args.length.ble mf.N = true)
  (h : acode (gT n) Y n mf.code none (frOf 0 args Fr.nil) st = match m with | .pan v => .pan fr v st' | _ => .ret fr st')
  (hm : m ≠ .recd) (hd : aleaves (defT tbl (gT n) Y n) fr.ds st' m = some (.ret, st2)) (hr : resultA fr st2 mf.res = r) : R (n + 1) Y f args st = r := by
 unfold R
 rw [run_of ht]
 unfold abody
 rw [hle]
 cases m with
 | ret => simp only [cond_true, h, endF, hd, hr]
 | pan v => simp only [cond_true, h, endF, hd, hr]
 | recd => exact (hm rfl).elim
theorem nd_defer {Γ : Cg} {dst : Option Nat} {gd : Option (Nat × Bool)} {ms : List MOper} {fr : Fr} {st : St} {f : X} {xs : List X} : arun Γ (⟨dst, .defer f xs, gd⟩ :: ms) fr st = match wantedA fr gd with
 | some true => (match deferA fr (.defer f xs) with
  | some fr' => arun Γ ms (Fr.put fr' dst .undef) st
  | none => .stuck)
 | some false => arun Γ ms (Fr.put fr dst .undef) st
 | none => .stuck := rfl
def g58_2 : List MOper := [⟨(some 11), .mv (.t 4), none⟩, ⟨(some 12), .tassert 122 (.agg []) true (.t 11), none⟩, ⟨(some 10), .mv (.t 12), none⟩, ⟨(some 13), .extract 0 (.t 10), none⟩, ⟨(some 14), .extract 1 (.t 10), none⟩, ⟨(some 5), .alloc [], none⟩, ⟨none, .store 0 (.t 5) (.t 13), none⟩, ⟨(some 6), .mv (.t 14), none⟩]
def g58_5 : List MOper := [⟨(some 18), .build [(.int .i64 (.ofNat 0)), .nilsl, .nilsl] [], none⟩, ⟨(some 19), .load false 1 (.t 0), none⟩, ⟨(some 20), .nilchk (.t 19), none⟩, ⟨(some 21), .faddr 1 (.t 20), none⟩, ⟨(some 22), .load false 1 (.t 21), none⟩, ⟨none, .store 3 (.t 1) (.t 18), none⟩, ⟨none, .store 1 (.t 2) (.t 22), none⟩, ⟨none, .store 1 (.t 3) (.c (.int .i64 (.ofNat 161))), none⟩]
def kf58 : MFunc := ⟨23, (.seq (.region [⟨(some 7), .recov, none⟩, ⟨(some 4), .mv (.t 7), none⟩])
 (.seq (.region [⟨(some 8), .mv (.t 4), none⟩, ⟨(some 9), .eqnil 4 false .neq (.t 8) (.c .niface), none⟩])
 (.cond (.t 9)
 (.seq (.seq (.region g58_2)
 (.seq (.region [⟨(some 15), .mv (.t 6), none⟩, ⟨(some 16), .un .not (.t 15), none⟩])
 (.cond (.t 16)
 (.region [⟨(some 17), .mv (.t 4), none⟩, ⟨none, .panic (.t 17), none⟩])
 .skip)))
 (.region g58_5))
 .skip))), []⟩
theorem t58 : tbl 58 = some kf58 := by kernel_rfl
def g23_0 : List MOper := [⟨(some 2), .alloc [(.int .i64 (.ofNat 0)), .nilsl, .nilsl], none⟩, ⟨(some 3), .alloc [(.int .i64 (.ofNat 0))], none⟩, ⟨(some 4), .alloc [(.int .i64 (.ofNat 0))], none⟩]
def g23_1 : List MOper := [⟨(some 6), .mv (.t 0), none⟩, ⟨(some 7), .len 1 (.t 6), none⟩, ⟨(some 8), .bin false .gtr (.t 7) (.c (.int .i64 (.ofNat 100000))), none⟩]
def g23_2 : List MOper := [⟨(some 9), .build [(.int .i64 (.ofNat 0)), .nilsl, .nilsl] [], none⟩, ⟨none, .store 3 (.t 2) (.t 9), none⟩, ⟨none, .store 1 (.t 3) (.c (.int .i64 (.ofNat 0))), none⟩, ⟨none, .store 1 (.t 4) (.c (.int .i64 (.ofNat 2))), none⟩]
def g23_3 : List MOper := [⟨(some 10), .mv (.t 0), none⟩, ⟨(some 11), .build [(.str []), (.int .i64 (.ofNat 0))] [(0, 1, (.t 10))], none⟩, ⟨(some 12), .box false (.t 11), none⟩, ⟨(some 5), .alloc [.nilptr], none⟩, ⟨none, .store 1 (.t 5) (.t 12), none⟩]
def g23_5 : List MOper := [⟨(some 14), .load false 1 (.t 5), none⟩, ⟨(some 15), .call (.c (.func (.func 59) [] [])) [(.t 14)], none⟩, ⟨none, .store 3 (.t 2) (.t 15), none⟩]
def g23_6 : List MOper := [⟨(some 16), .load false 1 (.t 5), none⟩, ⟨(some 17), .nilchk (.t 16), none⟩, ⟨(some 18), .faddr 1 (.t 17), none⟩, ⟨(some 19), .load false 1 (.t 18), none⟩, ⟨(some 20), .mv (.t 0), none⟩, ⟨(some 21), .len 1 (.t 20), none⟩, ⟨(some 22), .bin false .lss (.t 19) (.t 21), none⟩]
def g23_8 : List MOper := [⟨(some 25), .load true 3 (.t 2), none⟩, ⟨(some 26), .call (.c (.func (.func 41) [] [])) [(.t 25)], none⟩, ⟨(some 27), .un .not (.t 26), none⟩]
def g23_9 : List MOper := [⟨(some 28), .build [(.int .i64 (.ofNat 0)), .nilsl, .nilsl] [], none⟩, ⟨none, .store 3 (.t 2) (.t 28), none⟩, ⟨none, .store 1 (.t 3) (.c (.int .i64 (.ofNat 0))), none⟩, ⟨none, .store 1 (.t 4) (.c (.int .i64 (.ofNat 160))), none⟩]
def g23_10 : List MOper := [⟨(some 29), .load true 3 (.t 2), none⟩, ⟨none, .store 3 (.t 2) (.t 29), none⟩, ⟨none, .store 1 (.t 3) (.c (.int .i64 (.ofNat 0))), none⟩, ⟨none, .store 1 (.t 4) (.c (.int .i64 (.ofNat 0))), none⟩]
def kf23 : MFunc := ⟨30, (.seq (.region g23_0)
 (.seq (.seq (.region g23_1)
 (.cond (.t 8)
 (.seq (.region g23_2)
 .ret)
 .skip))
 (.seq (.region g23_3)
 (.seq (.region [⟨(some 13), .mkfn 58 [] [(.t 5), (.t 2), (.t 3), (.t 4)], none⟩, ⟨none, .defer (.t 13) [], none⟩])
 (.seq (.region g23_5)
 (.seq (.seq (.region g23_6)
 (.cond (.t 22)
 (.region [⟨(some 23), .build [] [], none⟩, ⟨(some 24), .mkif 122 (.t 23), none⟩, ⟨none, .panic (.t 24), none⟩])
 .skip))
 (.seq (.seq (.region g23_8)
 (.cond (.t 27)
 (.seq (.region g23_9)
 .ret)
 .skip))
 (.seq (.region g23_10)
 .ret)))))))), [.cell 2 true 3, .cell 3 false 1, .cell 4 false 1]⟩
theorem t23 : tbl 23 = some kf23 := by kernel_rfl
theorem aS_reg {Γ : Gam} {Y : Yenv} {n : Nat} {ms : List MOper} {fr : Fr} {st : St} {m : DM} (h : ms.any (fun o => o.op.isRecov) = false) : acodeS Γ Y n (.region ms) fr st m = (acode Γ Y n (.region ms) none fr st, m) := by
 simp only [acodeS, h, cond_false]
theorem aS_rec {Γ : Gam} {Y : Yenv} {n : Nat} {ms : List MOper} {fr : Fr} {st : St} {m : DM} (h : ms.any (fun o => o.op.isRecov) = true) : acodeS Γ Y n (.region ms) fr st m = match arunS ms fr st m with
   | some (fr, st, m) => (.norm fr st, m)
   | none => (.stuck, m) := by
 simp only [acodeS, h, cond_true]; rfl
theorem nd_tassert {Γ : Cg} {dst : Option Nat} {gd : Option (Nat × Bool)} {ms : List MOper} {fr : Fr} {st : St} {a b c d} : arun Γ (⟨dst, (MOp.tassert a b c d), gd⟩ :: ms) fr st = match wantedA fr gd with
 | some true => (match opr Γ fr st (MOp.tassert a b c d) with
  | .val v st' => arun Γ ms (Fr.put fr dst v) st'
  | .pan v st' => .pan fr v st'
  | .stuck => .stuck)
 | some false => arun Γ ms (Fr.put fr dst .undef) st
 | none => .stuck := arun_nd rfl
theorem d58_ret (Γ : Gam) (Y : Yenv) (n : Nat) (a b c d : AV) (st : St) : defT tbl Γ Y n 58 [a, b, c, d] st .ret = some (.ret, st) := by
 have e0 : eqNilA 4 .neq .niface .niface = some (.bool false) := rfl
 unfold defT
 rw [t58]
 simp only [adefF, kf58, List.length_cons, List.length_nil, reduceAdd]
 rw [show Nat.ble 4 23 = true from rfl]
 simp only [amE, reduceEqDiff, ↓reduceIte, reduceCtorEq, reduceAdd, acodeS.eq_1, acodeS.eq_2, acodeS.eq_4, aS_reg (ms := [⟨(some 11), .mv (.t 4), none⟩, ⟨(some 12), .tassert 122 (.agg []) true (.t 11), none⟩, ⟨(some 10), .mv (.t 12), none⟩, ⟨(some 13), .extract 0 (.t 10), none⟩, ⟨(some 14), .extract 1 (.t 10), none⟩, ⟨(some 5), .alloc [], none⟩, ⟨none, .store 0 (.t 5) (.t 13), none⟩, ⟨(some 6), .mv (.t 14), none⟩]) rfl, aS_reg (ms := [⟨(some 18), .build [(.int .i64 (.ofNat 0)), .nilsl, .nilsl] [], none⟩, ⟨(some 19), .load false 1 (.t 0), none⟩, ⟨(some 20), .nilchk (.t 19), none⟩, ⟨(some 21), .faddr 1 (.t 20), none⟩, ⟨(some 22), .load false 1 (.t 21), none⟩, ⟨none, .store 3 (.t 1) (.t 18), none⟩, ⟨none, .store 1 (.t 2) (.t 22), none⟩, ⟨none, .store 1 (.t 3) (.c (.int .i64 (.ofNat 161))), none⟩]) rfl, aS_reg (ms := [⟨some 8, .mv (.t 4), none⟩, ⟨some 9, .eqnil 4 false .neq (.t 8) (.c .niface), none⟩]) rfl, aS_rec (ms := [⟨some 7, .recov, none⟩, ⟨some 4, .mv (.t 7), none⟩]) rfl, arunS, MOp.isRecov, endD, settleA, e0, nd_eqnil]
theorem d58_pan (Γ : Gam) (Y : Yenv) (n : Nat) {s : List Nat} {q a b c e p : Nat} {zs : List AV} {st : St} (hr : Rdr q st s p) (he : st.get e = some (.row [.ptr q 0])) (ha : st.get a = some (.row zs)) (hz : zs.length = 3)
  (hb : st.get b = some (.row [.int .i64 0])) (hc : st.get c = some (.row [.int .i64 0])) (hlt : q < st.next /\ a < st.next /\ b < st.next /\ c < st.next /\ e < st.next) (hne : a ≠ b /\ a ≠ c /\ b ≠ c /\ a ≠ q /\ a ≠ e) : 
  ∃ st2, defT tbl Γ Y n 58 [.ptr e 0, .ptr a 0, .ptr b 0, .ptr c 0] st (.pan wrong) = some (.ret, st2) /\ st.next <= st2.next /\ (∀ i, i < st.next -> i ≠ a -> i ≠ b -> i ≠ c -> st2.get i = st.get i) /\ st2.get a = some (.row [(.int .i64 (.ofNat 0)), .nilsl, .nilsl]) /\ st2.get b = some (.row [.int .i64 (.ofNat p)]) /\ st2.get c = some (.row [.int .i64 161]) := by
 have e0 : eqNilA 4 .neq wrong .niface = some (.bool true) := rfl
 have e1 : tassertA 122 (.agg []) true wrong = some (.tuple [.agg [], .bool true]) := rfl
 have x0 : ∀ (u v : AV), extractA 0 (.tuple [u, v]) = some u := fun _ _ => rfl
 have x1 : ∀ (u v : AV), extractA 1 (.tuple [u, v]) = some v := fun _ _ => rfl
 have s0 : storeA 0 (st.new (.row [])) (.ptr st.next 0) (.agg []) = some ((st.new (.row [])).put st.next (.row [])) := by
  simp only [storeA, St.get_new, if_true]; rfl
 obtain ⟨s1, hs1⟩ : ∃ s1, s1 = (st.new (.row [])).put st.next (.row []) := ⟨_, rfl⟩
 rw [<- hs1] at s0
 have g1 : ∀ i, i < st.next -> s1.get i = st.get i := fun i hi => by rw [hs1, St.get_put, if_neg (by omega), St.get_new, if_neg (by omega)]
 have l1 := ld0 ((g1 e hlt.2.2.2.2).trans he)
 have l2 := ld1 ((g1 q hlt.1).trans hr)
 have t1 := st3 (x := [(.int .i64 (.ofNat 0)), .nilsl, .nilsl]) ((g1 a hlt.2.1).trans ha) hz ⟨rfl, rfl⟩
 have ga : ∀ o, (s1.put a o).get b = some (.row [.int .i64 0]) := fun o => by rw [St.get_put, if_neg (by omega)]; exact (g1 b hlt.2.2.1).trans hb
 have t2 := stb1 (k := .i64) (v := .ofNat p) (ga (.row [(.int .i64 (.ofNat 0)), .nilsl, .nilsl]))
 have gc : ∀ o o', ((s1.put a o).put b o').get c = some (.row [.int .i64 0]) := fun o o' => by rw [St.get_put, if_neg (by omega), St.get_put, if_neg (by omega)]; exact (g1 c hlt.2.2.2.1).trans hc
 have t3 := stb1 (k := .i64) (v := .ofNat 161) (gc (.row [(.int .i64 (.ofNat 0)), .nilsl, .nilsl]) (.row [.int .i64 (.ofNat p)]))
 have fi : fillA [(.int .i64 (.ofNat 0)), .nilsl, .nilsl] [] = some [(.int .i64 (.ofNat 0)), .nilsl, .nilsl] := rfl
 refine ⟨((s1.put a (.row [(.int .i64 (.ofNat 0)), .nilsl, .nilsl])).put b (.row [.int .i64 (.ofNat p)])).put c (.row [.int .i64 161]), ?_, by rw [hs1]; exact Nat.le_succ _, ?_, ?_, ?_, ?_⟩
 ·unfold defT
  rw [t58]
  simp only [adefF, kf58, List.length_cons, List.length_nil, reduceAdd]
  rw [show Nat.ble 4 23 = true from rfl]
  simp only [amE, reduceEqDiff, ↓reduceIte, reduceCtorEq, reduceAdd, acodeS.eq_1, acodeS.eq_2, acodeS.eq_4, aS_reg (ms := [⟨(some 11), .mv (.t 4), none⟩, ⟨(some 12), .tassert 122 (.agg []) true (.t 11), none⟩, ⟨(some 10), .mv (.t 12), none⟩, ⟨(some 13), .extract 0 (.t 10), none⟩, ⟨(some 14), .extract 1 (.t 10), none⟩, ⟨(some 5), .alloc [], none⟩, ⟨none, .store 0 (.t 5) (.t 13), none⟩, ⟨(some 6), .mv (.t 14), none⟩]) rfl, aS_reg (ms := [⟨(some 18), .build [(.int .i64 (.ofNat 0)), .nilsl, .nilsl] [], none⟩, ⟨(some 19), .load false 1 (.t 0), none⟩, ⟨(some 20), .nilchk (.t 19), none⟩, ⟨(some 21), .faddr 1 (.t 20), none⟩, ⟨(some 22), .load false 1 (.t 21), none⟩, ⟨none, .store 3 (.t 1) (.t 18), none⟩, ⟨none, .store 1 (.t 2) (.t 22), none⟩, ⟨none, .store 1 (.t 3) (.c (.int .i64 (.ofNat 161))), none⟩]) rfl, aS_reg (ms := [⟨some 8, .mv (.t 4), none⟩, ⟨some 9, .eqnil 4 false .neq (.t 8) (.c .niface), none⟩]) rfl, aS_reg (ms := [⟨some 15, .mv (.t 6), none⟩, ⟨some 16, .un .not (.t 15), none⟩]) rfl, aS_reg (ms := [⟨some 17, .mv (.t 4), none⟩, ⟨none, .panic (.t 17), none⟩]) rfl, aS_rec (ms := [⟨some 7, .recov, none⟩, ⟨some 4, .mv (.t 7), none⟩]) rfl, arunS, MOp.isRecov, endD, settleA, e0, nd_eqnil, g58_2, g58_5, e1, x0, x1, s0, unN, Bool.not_true, l1, l2, ncp, fa1, t1, t2, t3, fi, nd_tassert]
  rfl
 ·intro i hi h1 h2 h3
  rw [St.get_put, if_neg h3, St.get_put, if_neg h2, St.get_put, if_neg h1, g1 i hi]
 ·rw [St.get_put, if_neg (by omega), St.get_put, if_neg (by omega), St.get_put, if_pos rfl]
 ·rw [St.get_put, if_neg (by omega), St.get_put, if_pos rfl]
 ·rw [St.get_put, if_pos rfl]
theorem pre23 (s : List Nat) (m : Nat) (Y : Yenv) (st : St) (hl : s.length <= 100000) : ∃ fr1 s5, (∀ L, acode (gT m) Y m (.seq (.region g23_0) (.seq (.seq (.region g23_1) (.cond (.t 8) (.seq (.region g23_2) .ret) .skip)) (.seq (.region g23_3) (.seq (.region [⟨(some 13), .mkfn 58 [] [(.t 5), (.t 2), (.t 3), (.t 4)], none⟩, ⟨none, .defer (.t 13) [], none⟩]) L)))) none (frOf 0 [.str s] Fr.nil) st = acode (gT m) Y m L none fr1 s5) ∧
  fr1.get 0 = some (.str s) /\ fr1.get 2 = some (.ptr st.next 0) /\ fr1.get 3 = some (.ptr (st.next + 1) 0) /\ fr1.get 4 = some (.ptr (st.next + 2) 0) /\ fr1.get 5 = some (.ptr (st.next + 4) 0) /\ fr1.ds = [.call 58 [.ptr (st.next + 4) 0, .ptr st.next 0, .ptr (st.next + 1) 0, .ptr (st.next + 2) 0]] ∧
  Keeps st s5 /\ s5.next = st.next + 5 /\ s5.get st.next = some (.row [(.int .i64 (.ofNat 0)), .nilsl, .nilsl]) /\ s5.get (st.next + 1) = some (.row [.int .i64 0]) /\ s5.get (st.next + 2) = some (.row [.int .i64 0]) /\ Rdr (st.next + 3) s5 s 0 /\ s5.get (st.next + 4) = some (.row [.ptr (st.next + 3) 0]) := by
 have e1 : fillA [(.str []), (.int .i64 (.ofNat 0))] [(0, 1, .str s)] = some [.str s, .int .i64 (.ofNat 0)] := rfl
 obtain ⟨s4, hs4⟩ : ∃ s4, s4 = (((st.new (.row [(.int .i64 (.ofNat 0)), .nilsl, .nilsl])).new (.row [.int .i64 (.ofNat 0)])).new (.row [.int .i64 (.ofNat 0)])).new (.row [.str s, .int .i64 (.ofNat 0)]) := ⟨_, rfl⟩
 have n4 : s4.next = st.next + 4 := by rw [hs4]; rfl
 have gn : (s4.new (.row [.nilptr])).get s4.next = some (.row [.nilptr]) := by rw [St.get_new, if_pos rfl]
 have sw := stw1 (v := .ptr (st.next + 1 + 1 + 1) 0) gn rfl
 rw [hs4] at sw
 simp only [St.next_new] at sw
 have hg : decide (100000 < s.length) = false := decide_eq_false (by omega)
 refine ⟨?fr1, ?s5, fun L => ?x, ?a, ?b, ?c, ?d, ?e, ?ds, ?k, ?n, ?g0, ?g1, ?g2, ?g3, ?g4⟩
 case s5 => exact (s4.new (.row [.nilptr])).put s4.next (.row [.ptr (st.next + 1 + 1 + 1) 0])
 case x =>
  rw [hs4]
  simp only [amE, reduceEqDiff, ↓reduceIte, reduceCtorEq, reduceAdd, g23_0, g23_1, g23_2, g23_3, lnS, gtrN, hg, e1, sw, nd_mkfn, nd_defer, deferA, St.next_new]
  rfl
 case a => rfl
 case b => rfl
 case c => rfl
 case d => rfl
 case e => rfl
 case ds => rfl
 case k => rw [hs4]; exact Keeps.put (((((Keeps.new st _).new' _).new' _).new' _).new' _) _ _ (by simp only [St.next_new]; omega)
 case n => show s4.next + 1 = _; omega
 all_goals rw [hs4]
 all_goals simp only [Rdr, St.get_put, St.get_new, St.next_new]
 all_goals simp (disch := omega) only [if_pos, if_neg, ↓reduceIte]
 all_goals rfl
theorem Read_run (s : List Nat) (m : Nat) (Y : Yenv) (st : St) (hm : 3 * s.length + 60 <= m) (hz : ∀ d p, pD s (s.length + 1) 0 = .ok d p -> d.fz < m) :
  ∃ cs st2, R (m + 1) Y 23 [.str s] st = .ret (.tuple [.agg cs, .int .i64 (.ofNat (rdS s).2.1), .int .i64 (.ofNat (rdS s).2.2)]) st2 /\ Keeps st st2 /\ RepD (fun i => st.next <= i /\ i < st2.next) st2 (rdS s).1 cs := by
 have fi : fillA [(.int .i64 (.ofNat 0)), .nilsl, .nilsl] [] = some [(.int .i64 (.ofNat 0)), .nilsl, .nilsl] := rfl
 by_cases hl : 100000 < s.length
 ·have hr : rdS s = (.mk 0 false false [] false false [], 0, 2) := by unfold rdS; rw [if_pos hl]
  rw [hr]
  obtain ⟨s3, hs3⟩ : ∃ s3, s3 = ((st.new (.row [(.int .i64 (.ofNat 0)), .nilsl, .nilsl])).new (.row [.int .i64 (.ofNat 0)])).new (.row [.int .i64 (.ofNat 0)]) := ⟨_, rfl⟩
  have g0 : s3.get st.next = some (.row [(.int .i64 (.ofNat 0)), .nilsl, .nilsl]) := by
   rw [hs3]; simp only [St.get_new, St.next_new]
   simp (disch := omega) only [if_pos, if_neg, ↓reduceIte]
  have t1 := st3 (x := [(.int .i64 (.ofNat 0)), .nilsl, .nilsl]) g0 rfl ⟨rfl, rfl⟩
  have g1 : (s3.put st.next (.row [(.int .i64 (.ofNat 0)), .nilsl, .nilsl])).get (st.next + 1) = some (.row [.int .i64 (.ofNat 0)]) := by
   rw [hs3]; simp only [St.get_put, St.get_new, St.next_new]
   simp (disch := omega) only [if_pos, if_neg, ↓reduceIte]
  have t2 := stb1 (k := .i64) (v := .ofNat 0) g1
  have g2 : ((s3.put st.next (.row [(.int .i64 (.ofNat 0)), .nilsl, .nilsl])).put (st.next + 1) (.row [.int .i64 (.ofNat 0)])).get (st.next + 1 + 1) = some (.row [.int .i64 (.ofNat 0)]) := by
   rw [hs3]; simp only [St.get_put, St.get_new, St.next_new]
   simp (disch := omega) only [if_pos, if_neg, ↓reduceIte]
  have t3 := stb1 (k := .i64) (v := .ofNat 2) g2
  obtain ⟨s6, hs6⟩ : ∃ s6, s6 = ((s3.put st.next (.row [(.int .i64 (.ofNat 0)), .nilsl, .nilsl])).put (st.next + 1) (.row [.int .i64 (.ofNat 0)])).put (st.next + 1 + 1) (.row [.int .i64 (.ofNat 2)]) := ⟨_, rfl⟩
  have l0 : loadA true 3 s6 (.ptr st.next 0) = some (.agg [(.int .i64 (.ofNat 0)), .nilsl, .nilsl]) := load_row (by rw [hs6]; simp only [St.get_put]; simp (disch := omega) only [if_pos, if_neg, ↓reduceIte]) rfl
  have l1 : loadA false 1 s6 (.ptr (st.next + 1) 0) = some (.int .i64 (.ofNat 0)) := ld0 (l := []) (by rw [hs6]; simp only [St.get_put]; simp (disch := omega) only [if_pos, if_neg, ↓reduceIte])
  have l2 : loadA false 1 s6 (.ptr (st.next + 1 + 1) 0) = some (.int .i64 (.ofNat 2)) := ld0 (l := []) (by rw [hs6]; simp only [St.get_put]; simp (disch := omega) only [if_pos, if_neg, ↓reduceIte])
  have kk : Keeps st s6 := by rw [hs6, hs3]; exact ((((((Keeps.new st _).new' _).new' _).put _ _ (by omega)).put _ _ (by omega)).put _ _ (by omega))
  rw [<- hs6] at t3
  rw [hs3] at t1 t2 t3
  have hg : decide (100000 < s.length) = true := decide_eq_true hl
  refine ⟨[(.int .i64 (.ofNat 0)), .nilsl, .nilsl], s6, fun_of (mf := kf23) (fr := ?f) t23 rfl (.inl ?x) ?d ?r, kk, zD_rep _ _⟩
  case x =>
   simp only [amE, reduceEqDiff, ↓reduceIte, reduceCtorEq, reduceAdd, kf23, g23_0, g23_1, g23_2, lnS, gtrN, hg, fi, St.next_new, t1, t2, t3]
   rfl
  case d => rfl
  case r => simp only [kf23, amE, reduceEqDiff, ↓reduceIte, l0, l1, l2]
 obtain ⟨fr1, s5, hpre, q0, q2, q3, q4, q5, qd, k5, n5, ga, gb, gc, hr, ge⟩ := pre23 s m Y st (by omega)
 have hone := pder_run (by omega) Y (s.length + 1) m 0 s5 (by omega) hr (by omega) (by omega) (by omega)
 have le := ld0 ge
 have hne : st.next ≠ st.next + 1 /\ st.next ≠ st.next + 2 /\ st.next + 1 ≠ st.next + 2 /\ st.next ≠ st.next + 3 /\ st.next ≠ st.next + 4 := by omega
 have k0 : ∀ {s6 : St}, Keep1 (st.next + 3) s5 s6 -> Keeps st s6 := fun h => k5.then1 h (by omega)
 cases hp : pD s (s.length + 1) 0 with
 | err p =>
  have hrd : rdS s = (.mk 0 false false [] false false [], p, 161) := by unfold rdS; rw [if_neg hl, hp]
  rw [hrd]
  rw [hp] at hone
  obtain ⟨s6, hc, hr6, k6⟩ := hone
  have k6n := k6.1
  have gg : ∀ i, i < s5.next -> i ≠ st.next + 3 -> s6.get i = s5.get i := fun i h1 h2 => k6.2 i h1 h2
  obtain ⟨s7, hdef, n7, g7, g7a, g7b, g7c⟩ := d58_pan (gT m) Y m (q := st.next + 3) (e := st.next + 4) (a := st.next) (b := st.next + 1) (c := st.next + 2) hr6 ((gg _ (by omega) (by omega)).trans ge) ((gg _ (by omega) (by omega)).trans ga) rfl ((gg _ (by omega) (by omega)).trans gb) ((gg _ (by omega) (by omega)).trans gc) (by omega) hne
  have l0 := load_row g7a rfl
  have l1 := ld0 g7b
  have l2 := ld0 g7c
  have kk : Keeps st s7 := ⟨by have := (k0 k6).1; omega, fun i hi => (g7 i (by omega) (by omega) (by omega) (by omega)).trans ((k0 k6).2 i hi)⟩
  refine ⟨[(.int .i64 (.ofNat 0)), .nilsl, .nilsl], s7, fun_end (mf := kf23) (fr := ?f2) (st' := s6) (st2 := s7) (m := .pan wrong) t23 rfl ?x2 (by simp) ?d2 ?r2, kk, zD_rep _ _⟩
  case x2 =>
   show acode _ _ _ (.seq (.region g23_0) (.seq (.seq (.region g23_1) (.cond (.t 8) (.seq (.region g23_2) .ret) .skip)) (.seq (.region g23_3) (.seq (.region [⟨(some 13), .mkfn 58 [] [(.t 5), (.t 2), (.t 3), (.t 4)], none⟩, ⟨none, .defer (.t 13) [], none⟩]) (.seq (.region g23_5) (.seq (.seq (.region g23_6) (.cond (.t 22) (.region [⟨(some 23), .build [] [], none⟩, ⟨(some 24), .mkif 122 (.t 23), none⟩, ⟨none, .panic (.t 24), none⟩]) .skip)) (.seq (.seq (.region g23_8) (.cond (.t 27) (.seq (.region g23_9) .ret) .skip)) (.seq (.region g23_10) .ret)))))))) none _ _ = _
   rw [hpre]
   simp only [amE, reduceEqDiff, ↓reduceIte, reduceCtorEq, reduceAdd, g23_5, q5, le, cg_fn, hc]
   rfl
  case d2 =>
   show aleaves _ fr1.ds _ _ = _
   rw [qd]
   simp only [aleaves, hdef]
  case r2 => simp only [kf23, amE, reduceEqDiff, ↓reduceIte, q2, q3, q4, l0, l1, l2]; rfl
 | ok d p =>
  rw [hp] at hone
  obtain ⟨cs, s6, hc, hr6, k6, hrep⟩ := hone
  have k6n := k6.1
  have gg : ∀ i, i < s5.next -> i ≠ st.next + 3 -> s6.get i = s5.get i := fun i h1 h2 => k6.2 i h1 h2
  have c3 := hrep.cells3
  have t1 := st3 (x := cs) ((gg _ (by omega) (by omega)).trans ga) rfl c3
  obtain ⟨s8, hs8⟩ : ∃ s8, s8 = s6.put st.next (.row cs) := ⟨_, rfl⟩
  rw [<- hs8] at t1
  have n8 : s8.next = s6.next := by rw [hs8]; rfl
  have g8 : ∀ i, i < s5.next -> i ≠ st.next + 3 -> i ≠ st.next -> s8.get i = s5.get i := fun i h1 h2 h3 => by rw [hs8, St.get_put, if_neg h3]; exact gg i h1 h2
  have g8a : s8.get st.next = some (.row cs) := by rw [hs8, St.get_put, if_pos rfl]
  have hr8 : Rdr (st.next + 3) s8 s p := by rw [hs8]; exact rdrPut hr6 (by omega)
  have k8 : Keeps st s8 := by rw [hs8]; exact (k0 k6).put _ _ (by omega)
  have le8 := ld0 ((g8 (st.next + 4) (by omega) (by omega) (by omega)).trans ge)
  have lr8 := ld1 hr8
  by_cases hlt : p < s.length
  ·have hrd : rdS s = (.mk 0 false false [] false false [], p, 161) := by unfold rdS; rw [if_neg hl, hp]; exact if_pos hlt
   rw [hrd]
   have hd : decide (p < s.length) = true := decide_eq_true hlt
   obtain ⟨s7, hdef, n7, g7, g7a, g7b, g7c⟩ := d58_pan (gT m) Y m (q := st.next + 3) (e := st.next + 4) (a := st.next) (b := st.next + 1) (c := st.next + 2) hr8 ((g8 _ (by omega) (by omega) (by omega)).trans ge) g8a c3.1 ((g8 _ (by omega) (by omega) (by omega)).trans gb) ((g8 _ (by omega) (by omega) (by omega)).trans gc) (by omega) hne
   have l0 := load_row g7a rfl
   have l1 := ld0 g7b
   have l2 := ld0 g7c
   have kk : Keeps st s7 := ⟨by have := k8.1; omega, fun i hi => (g7 i (by omega) (by omega) (by omega) (by omega)).trans (k8.2 i hi)⟩
   refine ⟨[(.int .i64 (.ofNat 0)), .nilsl, .nilsl], s7, fun_end (mf := kf23) (fr := ?f3) (st' := s8) (st2 := s7) (m := .pan wrong) t23 rfl ?x3 (by simp) ?d3 ?r3, kk, zD_rep _ _⟩
   case x3 =>
    show acode _ _ _ (.seq (.region g23_0) (.seq (.seq (.region g23_1) (.cond (.t 8) (.seq (.region g23_2) .ret) .skip)) (.seq (.region g23_3) (.seq (.region [⟨(some 13), .mkfn 58 [] [(.t 5), (.t 2), (.t 3), (.t 4)], none⟩, ⟨none, .defer (.t 13) [], none⟩]) (.seq (.region g23_5) (.seq (.seq (.region g23_6) (.cond (.t 22) (.region [⟨(some 23), .build [] [], none⟩, ⟨(some 24), .mkif 122 (.t 23), none⟩, ⟨none, .panic (.t 24), none⟩]) .skip)) (.seq (.seq (.region g23_8) (.cond (.t 27) (.seq (.region g23_9) .ret) .skip)) (.seq (.region g23_10) .ret)))))))) none _ _ = _
    rw [hpre]
    simp only [amE, reduceEqDiff, ↓reduceIte, reduceCtorEq, reduceAdd, g23_5, g23_6, q5, q2, q0, le, le8, cg_fn, hc, t1, ncp, fa1, lr8, lnS, lssN, hd, fillA, panicR]
    rfl
   case d3 =>
    show aleaves _ fr1.ds _ _ = _
    rw [qd]
    simp only [aleaves, hdef]
   case r3 => simp only [kf23, amE, reduceEqDiff, ↓reduceIte, q2, q3, q4, l0, l1, l2]; rfl
  have hd : decide (p < s.length) = false := decide_eq_false hlt
  have l8 := load_row g8a c3.1
  have hrep8 : RepD (fun i => s5.next <= i /\ i < s6.next) s8 d cs := hrep.mono (fun i hi => by rw [hs8, St.get_put, if_neg (by omega)]) (fun _ h => h)
  obtain ⟨s9, c9, k9⟩ := isDeriv_run d m Y _ s8 cs hrep8 (fun i hi => by omega) (hz d p hp)
  have k9n := k9.1
  have g9 : ∀ i, i < s5.next -> i ≠ st.next + 3 -> i ≠ st.next -> s9.get i = s5.get i := fun i h1 h2 h3 => (k9.2 i (by omega)).trans (g8 i h1 h2 h3)
  have g9a : s9.get st.next = some (.row cs) := (k9.2 _ (by omega)).trans g8a
  have g9b : s9.get (st.next + 1) = some (.row [.int .i64 0]) := (g9 _ (by omega) (by omega) (by omega)).trans gb
  have g9c : s9.get (st.next + 2) = some (.row [.int .i64 0]) := (g9 _ (by omega) (by omega) (by omega)).trans gc
  obtain ⟨X, hX⟩ : ∃ X : Dv × Nat × List AV, X = (if isDv d then (d, 0, cs) else (.mk 0 false false [] false false [], 160, [(.int .i64 (.ofNat 0)), .nilsl, .nilsl])) := ⟨_, rfl⟩
  have hrd : rdS s = (X.1, 0, X.2.1) := by
   unfold rdS; rw [if_neg hl, hp, hX]
   simp only [if_neg hlt]
   split <;> rfl
  have x3 : X.2.2.length = 3 /\ X.2.2.all AV.one = true := by
   rw [hX]; split
   ·exact c3
   ·exact ⟨rfl, rfl⟩
  have u1 := st3 (x := X.2.2) g9a c3.1 x3
  have gb' : (s9.put st.next (.row X.2.2)).get (st.next + 1) = some (.row [.int .i64 0]) := by rw [St.get_put, if_neg (by omega)]; exact g9b
  have u2 := stb1 (k := .i64) (v := .ofNat 0) gb'
  have gc' : ((s9.put st.next (.row X.2.2)).put (st.next + 1) (.row [.int .i64 (.ofNat 0)])).get (st.next + 2) = some (.row [.int .i64 0]) := by rw [St.get_put, if_neg (by omega), St.get_put, if_neg (by omega)]; exact g9c
  have u3 := stb1 (k := .i64) (v := .ofNat X.2.1) gc'
  obtain ⟨sF, hsF⟩ : ∃ sF, sF = ((s9.put st.next (.row X.2.2)).put (st.next + 1) (.row [.int .i64 (.ofNat 0)])).put (st.next + 2) (.row [.int .i64 (.ofNat X.2.1)]) := ⟨_, rfl⟩
  rw [<- hsF] at u3
  have l0 : loadA true 3 sF (.ptr st.next 0) = some (.agg X.2.2) := load_row (by rw [hsF]; simp only [St.get_put]; simp (disch := omega) only [if_neg, ↓reduceIte]) x3.1
  have l1 : loadA false 1 sF (.ptr (st.next + 1) 0) = some (.int .i64 (.ofNat 0)) := ld0 (l := []) (by rw [hsF]; simp only [St.get_put]; simp (disch := omega) only [if_neg, ↓reduceIte])
  have l2 : loadA false 1 sF (.ptr (st.next + 2) 0) = some (.int .i64 (.ofNat X.2.1)) := ld0 (l := []) (by rw [hsF]; simp only [St.get_put]; simp (disch := omega) only [if_neg, ↓reduceIte])
  have kF : Keeps st sF := by rw [hsF]; exact ((((k8.trans k9).put _ _ (by omega)).put _ _ (by omega)).put _ _ (by omega))
  have nF : sF.next = s9.next := by rw [hsF]; rfl
  have hds := d58_ret (gT m) Y m (.ptr (st.next + 4) 0) (.ptr st.next 0) (.ptr (st.next + 1) 0) (.ptr (st.next + 2) 0) sF
  have l9 := load_row g9a c3.1
  rw [hrd]
  cases hi : isDv d with
  | true =>
   rw [hi] at hX c9
   rw [if_pos rfl] at hX
   have l9' := l9
   subst hX
   refine ⟨cs, sF, fun_end (mf := kf23) (fr := ?f4) (st' := sF) (st2 := sF) (m := .ret) t23 rfl ?x4 (by simp) ?d4 ?r4, kF, ?p4⟩
   case x4 =>
    show acode _ _ _ (.seq (.region g23_0) (.seq (.seq (.region g23_1) (.cond (.t 8) (.seq (.region g23_2) .ret) .skip)) (.seq (.region g23_3) (.seq (.region [⟨(some 13), .mkfn 58 [] [(.t 5), (.t 2), (.t 3), (.t 4)], none⟩, ⟨none, .defer (.t 13) [], none⟩]) (.seq (.region g23_5) (.seq (.seq (.region g23_6) (.cond (.t 22) (.region [⟨(some 23), .build [] [], none⟩, ⟨(some 24), .mkif 122 (.t 23), none⟩, ⟨none, .panic (.t 24), none⟩]) .skip)) (.seq (.seq (.region g23_8) (.cond (.t 27) (.seq (.region g23_9) .ret) .skip)) (.seq (.region g23_10) .ret)))))))) none _ _ = _
    rw [hpre]
    simp only [amE, reduceEqDiff, ↓reduceIte, reduceCtorEq, reduceAdd, g23_5, g23_6, g23_8, g23_10, q5, q2, q3, q4, q0, le, le8, cg_fn, hc, t1, ncp, fa1, lr8, lnS, lssN, hd, l8, c9, unN, Bool.not_true, l9, u1, u2, u3]
    rfl
   case d4 => show aleaves _ fr1.ds _ _ = _; rw [qd]; simp only [aleaves, hds]
   case r4 => simp only [kf23, amE, reduceEqDiff, ↓reduceIte, q2, q3, q4, l0, l1, l2]
   case p4 => exact hrep8.mono (fun i hi => by rw [hsF]; simp only [St.get_put]; simp (disch := omega) only [if_neg]; exact k9.2 i (by omega)) (fun i hi => by omega)
  | false =>
   rw [hi] at hX c9
   rw [if_neg (by decide)] at hX
   have l9' := l9
   subst hX
   refine ⟨[(.int .i64 (.ofNat 0)), .nilsl, .nilsl], sF, fun_end (mf := kf23) (fr := ?f5) (st' := sF) (st2 := sF) (m := .ret) t23 rfl ?x5 (by simp) ?d5 ?r5, kF, ?p5⟩
   case x5 =>
    show acode _ _ _ (.seq (.region g23_0) (.seq (.seq (.region g23_1) (.cond (.t 8) (.seq (.region g23_2) .ret) .skip)) (.seq (.region g23_3) (.seq (.region [⟨(some 13), .mkfn 58 [] [(.t 5), (.t 2), (.t 3), (.t 4)], none⟩, ⟨none, .defer (.t 13) [], none⟩]) (.seq (.region g23_5) (.seq (.seq (.region g23_6) (.cond (.t 22) (.region [⟨(some 23), .build [] [], none⟩, ⟨(some 24), .mkif 122 (.t 23), none⟩, ⟨none, .panic (.t 24), none⟩]) .skip)) (.seq (.seq (.region g23_8) (.cond (.t 27) (.seq (.region g23_9) .ret) .skip)) (.seq (.region g23_10) .ret)))))))) none _ _ = _
    rw [hpre]
    simp only [amE, reduceEqDiff, ↓reduceIte, reduceCtorEq, reduceAdd, g23_5, g23_6, g23_8, g23_9, q5, q2, q3, q4, q0, le, le8, cg_fn, hc, t1, ncp, fa1, lr8, lnS, lssN, hd, l8, c9, unN, Bool.not_false, fi, u1, u2, u3]
    rfl
   case d5 => show aleaves _ fr1.ds _ _ = _; rw [qd]; simp only [aleaves, hds]
   case r5 => simp only [kf23, amE, reduceEqDiff, ↓reduceIte, q2, q3, q4, l0, l1, l2]
   case p5 => exact zD_rep _ _
end
end Go.AM.D16
