import Derived.Test.YtphmjdnljmhipaaGreatDoorAmSh19
import Derived.Test.YtphmjdnljmhipaaGreatDoorAmSh15
set_option linter.unusedSimpArgs false
set_option linter.unusedVariables false
set_option maxRecDepth 100000
namespace Go.AM.D16
open Go Go.AM
noncomputable section
open Nat (reduceEqDiff reduceAdd)
mutual
def lvP : Dv -> List Int -> List (List Int)
 | .mk _ _ _ _ _ _ l, p => if l.length = 0 then [p] else lvL l 0 p
def lvL : List Dv -> Nat -> List Int -> List (List Int)
 | [], _, _ => []
 | d :: l, k, p => lvP d (p ++ [.ofNat k]) ++ lvL l (k + 1) p
end
theorem lvL_nil (k : Nat) (p : List Int) : lvL [] k p = [] := by unfold lvL; rfl
theorem lvL_cons (d : Dv) (l : List Dv) (k : Nat) (p : List Int) : lvL (d :: l) k p = lvP d (p ++ [.ofNat k]) ++ lvL l (k + 1) p := by conv => lhs; unfold lvL
theorem lvL_snoc : ∀ (l : List Dv) (d : Dv) (k : Nat) (p : List Int), lvL (l ++ [d]) k p = lvL l k p ++ lvP d (p ++ [.ofNat (k + l.length)])
 | [], d, k, p => by simp [lvL_cons, lvL_nil]
 | x :: l, d, k, p => by
  simp only [List.cons_append, lvL_cons, lvL_snoc l d (k + 1) p, List.append_assoc, List.length_cons]
  rw [show k + 1 + l.length = k + (l.length + 1) by omega]
mutual
theorem lvP_len : ∀ (d : Dv) (p : List Int), (lvP d p).length = d.leaves
 | .mk _ _ _ _ _ _ l, p => by
  unfold lvP Dv.leaves
  by_cases h : l.length = 0
  ·rw [if_pos h, if_pos h]; rfl
  ·rw [if_neg h, if_neg h]; exact lvL_len l 0 p
theorem lvL_len : ∀ (l : List Dv) (k : Nat) (p : List Int), (lvL l k p).length = Dv.leavesL l
 | [], k, p => by simp [lvL_nil, Dv.leavesL]
 | d :: l, k, p => by rw [lvL_cons, List.length_append, lvP_len d, lvL_len l]; simp only [Dv.leavesL]
end
mutual
theorem lvP_way : ∀ (d : Dv) (p : List Int) (n : Nat), p.length + d.depth <= n -> ∀ x ∈ lvP d p, x.length <= n
 | .mk _ _ _ _ _ _ l, p, n, h, x, hx => by
  unfold lvP at hx
  unfold Dv.depth at h
  by_cases h0 : l.length = 0
  ·rw [if_pos h0, List.mem_singleton] at hx
   subst hx; omega
  ·rw [if_neg h0] at hx
   exact lvL_way l 0 p n (by omega) x hx
theorem lvL_way : ∀ (l : List Dv) (k : Nat) (p : List Int) (n : Nat), p.length + 1 + Dv.depthL l <= n -> ∀ x ∈ lvL l k p, x.length <= n
 | [], k, p, n, h, x, hx => by rw [lvL_nil] at hx; cases hx
 | d :: l, k, p, n, h, x, hx => by
  rw [depthL_max] at h
  rw [lvL_cons, List.mem_append] at hx
  rcases hx with hx | hx
  ·exact lvP_way d _ n (by simp only [List.length_append, List.length_cons, List.length_nil]; split at h <;> omega) x hx
  ·exact lvL_way l (k + 1) p n (by split at h <;> omega) x hx
end
theorem leavesL_takeR : ∀ (l : List Dv) (k : Nat), Dv.leavesL (l.take k) <= Dv.leavesL l
 | [], k => by simp
 | x :: l, 0 => by simp [Dv.leavesL]
 | x :: l, k + 1 => by simp only [List.take_succ_cons, Dv.leavesL]; have := leavesL_takeR l k; omega
theorem leavesL_snocR : ∀ (l : List Dv) (d : Dv), Dv.leavesL (l ++ [d]) = Dv.leavesL l + d.leaves
 | [], d => by simp [Dv.leavesL]
 | x :: l, d => by simp only [List.cons_append, Dv.leavesL, leavesL_snocR l d]; omega
theorem depthL_memR : ∀ {l : List Dv} {d : Dv}, d ∈ l -> d.depth <= Dv.depthL l
 | x :: l, d, h => by
  rw [depthL_max]
  rcases List.mem_cons.1 h with rfl | h
  ·split <;> omega
  ·have := depthL_memR h; split <;> omega
def OutR (P : Nat -> Prop) (s : St) (sl : AV) (ls : List (List Int)) : Prop := (sl = .nilsl /\ ls = []) \/ ∃ id cells, sl = .own id 0 ls.length 1 none ls.length /\ id < s.next /\ ¬ P id /\ s.get id = some (.row cells) /\ ZRs P s cells ls
theorem OutR.keep {P P' : Nat -> Prop} {s s' : St} {sl : AV} {ls : List (List Int)} (h : OutR P s sl ls) (k : Keeps s s') (hb : ∀ i, P i -> i < s.next) (hP : ∀ i, P i -> P' i) (hP' : ∀ i, P' i -> P i \/ s.next <= i) : OutR P' s' sl ls := by
 rcases h with h | ⟨id, cells, h1, h2, h3, h4, h5⟩
 ·exact .inl h
 ·exact .inr ⟨id, cells, h1, Nat.lt_of_lt_of_le h2 k.1, fun hp => (hP' id hp).elim h3 (fun h => by omega), k.get h2 h4, h5.mono (Same.of k hb) hP⟩
theorem OutR.app {P : Nat -> Prop} {s : St} {sl v : AV} {ls : List (List Int)} {l : List Int} (h : OutR P s sl ls) (hv : ZR P s v l) (hP : ∀ i, P i -> i < s.next) (hc : ls.length <= 100000) :
  ∃ sl' s', appendA 24 1 s sl 1 [v] = some (sl', s') /\ s'.next = s.next + 1 /\ Same P s s' /\ OutR P s' sl' (ls ++ [l]) := by
 have hnP : ¬ P s.next := fun h => by have := hP _ h; omega
 have hv1 := hv.one
 rcases h with ⟨rfl, rfl⟩ | ⟨id, cells, rfl, hid, hnp, hg, hz⟩
 ·have sm : Same P s (s.new (.row [v])) := fun i hi => by
   have := hP i hi
   rw [St.get_new, if_neg (by omega)]
  exact ⟨.own s.next 0 1 1 none 1, s.new (.row [v]), rfl, rfl, sm, .inr ⟨s.next, [v], rfl, by simp, hnP, by rw [St.get_new, if_pos rfl], hv.mono sm fun _ h => h, trivial⟩⟩
 ·have hcl := hz.len
  have sm : Same P s ((s.del id).new (.row (cells ++ [v]))) := fun i hi => by
   have := hP i hi
   have hne : i ≠ id := fun e => hnp (e ▸ hi)
   rw [St.get_new, if_neg (by simp only [St.next_del]; omega), St.get_del, if_neg hne]
  refine ⟨.own s.next 0 (ls.length + 1) 1 none (ls.length + 1), (s.del id).new (.row (cells ++ [v])), ?_, rfl, sm, .inr ⟨s.next, cells ++ [v], by simp, by simp [St.del, St.new], hnP, ?_, (hz.mono sm fun _ h => h).snoc (hv.mono sm fun _ h => h)⟩⟩
  ·have h0 : Nat.beq 1 0 = false := rfl
   have h1 : ((ls.length + 1) * 24).ble 140737488355328 = true := Nat.ble_eq_true_of_le (by omega)
   have h2 : (ls.length + 1).ble 140737488355328 = true := Nat.ble_eq_true_of_le (by omega)
   have h3 : (0 + ls.length * 1).ble cells.length = true := Nat.ble_eq_true_of_le (by omega)
   have h4 : fitsA (ls.length + 1) ls.length none = none := by
    have : (ls.length + 1).ble ls.length = false := by
     cases hc : (ls.length + 1).ble ls.length with
     | false => rfl
     | true => have := Nat.le_of_ble_eq_true hc; omega
    simp only [fitsA, this]; rfl
   have h5 : (ls.length * 1).beq cells.length = true := by rw [hcl, Nat.mul_one]; exact Nat.beq_refl _
   have h6 : [v].all AV.one = true := by show (AV.one v && true) = true; rw [hv1]; rfl
   unfold appendA
   simp only [h0, cond_false, hg, h1, h2, h3, h4, h5, h6]; rfl
  ·have : (s.del id).next = s.next := rfl
   rw [<- this, St.get_new, if_pos rfl]
theorem Ir.ZR {lo : Nat} {s : St} {sl : AV} {l : List Int} (h : Ir lo s sl l) : ZR (fun i => lo <= i /\ i < s.next) s sl l := by
 rcases h with ⟨h1, h2⟩ | ⟨id, h1, h2, h3, h4⟩
 ·exact .inl ⟨h2, .inr h1⟩
 ·exact .inr ⟨id, h1, ⟨h2, h3⟩, h4⟩
def g77_0 : List MOper := [⟨(some 14), .mv (.t 5), none⟩, ⟨(some 15), .mv (.t 0), none⟩, ⟨(some 16), .mv (.t 6), none⟩, ⟨(some 17), .iaddr 1 (.t 15) (.t 16), none⟩, ⟨(some 18), .load false 1 (.t 17), none⟩, ⟨(some 19), .bslice 1 [(.int .i64 (.ofNat 0))] [(0, 1, (.t 18))], none⟩, ⟨(some 20), .append 8 1 none (.t 14) (.t 19), none⟩, ⟨(some 5), .mv (.t 20), none⟩]
def g77_4 : List MOper := [⟨(some 21), .mv (.t 5), none⟩, ⟨(some 22), .mv (.t 1), none⟩, ⟨(some 23), .bslice 1 [(.int .i64 (.ofNat 0))] [(0, 1, (.t 22))], none⟩, ⟨(some 24), .append 8 1 none (.t 21) (.t 23), none⟩, ⟨(some 4), .mv (.t 24), none⟩]
def bf77_0 : MCode := (.region g77_0)
def cf77_0 : List MOper := [⟨(some 8), .mv (.t 6), none⟩, ⟨(some 9), .mv (.t 0), none⟩, ⟨(some 10), .len 0 (.t 9), none⟩, ⟨(some 11), .bin false .lss (.t 8) (.t 10), none⟩]
def kf77 : MFunc := ⟨25, (.seq (.region [⟨(some 4), .mv (.c .nilsl), none⟩])
 (.seq (.region [⟨(some 7), .bslice 0 [] [], none⟩, ⟨(some 5), .mv (.t 7), none⟩])
 (.seq (.seq (.region [⟨(some 6), .mv (.c (.int .i64 (.ofNat 0))), none⟩])
 (.block 0 (.loop (lb2 11 6 12 13 0 1 cf77_0 bf77_0))))
 (.seq (.region g77_4)
 .ret)))), [.t 4]⟩
theorem t77 : tbl 77 = some kf77 := by kernel_rfl
def g50_0 : List (MOper × Nat) := [(⟨(some 23), .faddr 2 (.t 3), none⟩, 0), (⟨(some 24), .load false 1 (.t 23), none⟩, 1), (⟨(some 25), .mv (.t 7), none⟩, 0), (⟨(some 26), .iaddr 3 (.t 24) (.t 25), none⟩, 7), (⟨(some 27), .load true 3 (.t 26), none⟩, 15), (⟨(some 28), .mv (.t 1), none⟩, 0), (⟨(some 29), .mv (.t 7), none⟩, 0), (⟨(some 30), .call (.c (.func (.func 77) [] [])) [(.t 28), (.t 29)], none⟩, 96), (⟨(some 31), .mv (.t 2), none⟩, 0), (⟨(some 32), .call (.c (.func (.func 50) [] [])) [(.t 27), (.t 30), (.t 31)], none⟩, 511), (⟨(some 2), .mv (.t 32), none⟩, 1023)]
def g50_2 : List MOper := [⟨(some 8), .faddr 2 (.t 3), none⟩, ⟨(some 9), .load false 1 (.t 8), none⟩, ⟨(some 10), .len 0 (.t 9), none⟩, ⟨(some 11), .bin false .eql (.t 10) (.c (.int .i64 (.ofNat 0))), none⟩]
def g50_3 : List MOper := [⟨(some 12), .mv (.t 2), none⟩, ⟨(some 13), .mv (.t 1), none⟩, ⟨(some 14), .bslice 1 [.nilsl] [(0, 1, (.t 13))], none⟩, ⟨(some 15), .append 24 1 none (.t 12) (.t 14), none⟩, ⟨(some 6), .mv (.t 15), none⟩]
def bf50_0 : MCode := (.draw g50_0 [(1, some 7), (1, some 9), (4, some 7), (4, some 9)])
def cf50_0 : List MOper := [⟨(some 16), .mv (.t 7), none⟩, ⟨(some 17), .faddr 2 (.t 3), none⟩, ⟨(some 18), .load false 1 (.t 17), none⟩, ⟨(some 19), .len 0 (.t 18), none⟩, ⟨(some 20), .bin false .lss (.t 16) (.t 19), none⟩]
def kf50 : MFunc := ⟨34, (.seq (.region [⟨(some 3), .box true (.t 0), none⟩, ⟨(some 6), .mv (.c .nilsl), none⟩])
 (.seq (.seq (.region g50_2)
 (.cond (.t 11)
 (.seq (.region g50_3)
 .ret)
 .skip))
 (.seq (.seq (.region [⟨(some 7), .mv (.c (.int .i64 (.ofNat 0))), none⟩])
 (.block 0 (.loop (lb2 20 7 21 22 0 1 cf50_0 bf50_0))))
 (.seq (.region [⟨(some 33), .mv (.t 2), none⟩, ⟨(some 6), .mv (.t 33), none⟩])
 .ret)))), [.t 6]⟩
theorem t50 : tbl 50 = some kf50 := by kernel_rfl
def g15_1 : List MOper := [⟨(some 4), .load true 3 (.t 1), none⟩, ⟨(some 5), .call (.c (.func (.func 49) [] [])) [(.t 4)], none⟩, ⟨(some 6), .un .not (.t 5), none⟩]
def g15_3 : List MOper := [⟨(some 7), .load true 3 (.t 1), none⟩, ⟨(some 8), .bslice 0 [] [], none⟩, ⟨(some 9), .call (.c (.func (.func 50) [] [])) [(.t 7), (.t 8), (.c .nilsl)], none⟩, ⟨(some 2), .mv (.t 9), none⟩, ⟨(some 3), .mv (.c (.int .i64 (.ofNat 0))), none⟩]
def kf15 : MFunc := ⟨10, (.seq (.region [⟨(some 1), .box true (.t 0), none⟩, ⟨(some 2), .mv (.c .nilsl), none⟩, ⟨(some 3), .mv (.c (.int .i64 (.ofNat 0))), none⟩])
 (.seq (.seq (.region g15_1)
 (.cond (.t 6)
 (.seq (.region [⟨(some 2), .mv (.c .nilsl), none⟩, ⟨(some 3), .mv (.c (.int .i64 (.ofNat 160))), none⟩])
 .ret)
 .skip))
 (.seq (.region g15_3)
 .ret))), [.t 2, .t 3]⟩
theorem t15 : tbl 15 = some kf15 := by kernel_rfl
theorem longer_run {F : Nat -> Prop} {st : St} {a : AV} {l : List Int} (ha : ZR F st a l) (hF : ∀ i, F i -> i < st.next) (x : Int) (n : Nat) (Y : Yenv) (hn : l.length + 1 < n) (hl : l.length <= 100000) :
  ∃ v st', R n Y 77 [a, .int .i64 x] st = .ret v st' /\ Keeps st st' /\ ZR (fun i => st.next <= i /\ i < st'.next) st' v (l ++ [x]) := by
 obtain ⟨m, rfl⟩ : ∃ m, n = m + 1 := ⟨n - 1, by omega⟩
 have b00 : Nat.beq 0 0 = true := rfl
 have f0 : fillA [] [] = some [] := rfl
 obtain ⟨fA1, hA1⟩ : ∃ fA, fA = frOf 0 [a, .int .i64 x] Fr.nil := ⟨_, rfl⟩
 have gA1_0 : fA1.get 0 = some (a) := by rw [hA1]; simp only [frOf, Fr.get_set, reduceAdd, reduceEqDiff, ↓reduceIte]
 have gA1_1 : fA1.get 1 = some (.int .i64 x) := by rw [hA1]; simp only [frOf, Fr.get_set, reduceAdd, reduceEqDiff, ↓reduceIte]
 have dA1 : fA1.ds = [] := by rw [hA1]; rfl
 obtain ⟨fR2, hR2, kR2⟩ : ∃ fr', arun ((gT m).cg Y) [⟨(some 4), .mv (.c .nilsl), none⟩] fA1 st = .ok fr' st /\ Kp [0, 1] fA1 fr' := ⟨_, by simp only [amE, reduceEqDiff, ↓reduceIte, reduceCtorEq, reduceAdd] <;> rfl, Kp.refl.s⟩
 have gR2_0 := kR2.g 0 gA1_0
 have gR2_1 := kR2.g 1 gA1_1
 have dR2 := kR2.1.trans dA1
 obtain ⟨fR3, hR3, kR3, oR3_5⟩ : ∃ fr', arun ((gT m).cg Y) [⟨(some 7), .bslice 0 [] [], none⟩, ⟨(some 5), .mv (.t 7), none⟩] fR2 st = .ok fr' st /\ Kp [0, 1] fR2 fr' /\ fr'.get 5 = some (.lst 0 [] true) := ⟨_, by simp only [amE, reduceEqDiff, ↓reduceIte, reduceCtorEq, reduceAdd, f0] <;> rfl, Kp.refl.s.s, gh⟩
 have gR3_0 := kR3.g 0 gR2_0
 have gR3_1 := kR3.g 1 gR2_1
 have dR3 := kR3.1.trans dR2
 obtain ⟨fR4, hR4, kR4, oR4_6⟩ : ∃ fr', arun ((gT m).cg Y) [⟨(some 6), .mv (.c (.int .i64 (.ofNat 0))), none⟩] fR3 st = .ok fr' st /\ Kp [0, 1, 5] fR3 fr' /\ fr'.get 6 = some (.int .i64 (.ofNat 0)) := ⟨_, by simp only [amE, reduceEqDiff, ↓reduceIte, reduceCtorEq, reduceAdd] <;> rfl, Kp.refl.s, gh⟩
 have gR4_0 := kR4.g 0 gR3_0
 have gR4_1 := kR4.g 1 gR3_1
 have gR4_5 := kR4.g 5 oR3_5
 have dR4 := kR4.1.trans dR3
 have hC : ∀ k fr s, k <= l.length -> Kp [0, 1] fR4 fr -> fr.get 6 = some (.int .i64 (.ofNat k)) -> (st.next <= s.next /\ (∀ i, i < st.next -> s.get i = st.get i) /\ ∃ sk, fr.get 5 = some sk /\ Ir st.next s sk (l.take k)) ->
   ∃ fr', arun ((gT m).cg Y) cf77_0 fr s = .ok fr' s /\ Kp [6, 0, 1] fr fr' /\ fr'.get 11 = some (.bool (decide (k < l.length))) /\ (st.next <= s.next /\ (∀ i, i < st.next -> s.get i = st.get i) /\ ∃ sk, fr'.get 5 = some sk /\ Ir st.next s sk (l.take k)) := by
  intro k fr s hk hkp gi ⟨hnx, hsm, sq, q5, hq⟩
  have q0 := hkp.at (k := 0) (by decide) gR4_0
  have hlen := ha.len s
  refine ⟨?c0, ?c1, ?c2, ?c3, hnx, hsm, sq, ?c4, hq⟩
  case c1 =>
   simp only [amE, reduceEqDiff, ↓reduceIte, reduceCtorEq, reduceAdd, cf77_0, q0, gi, hlen, lssD]
   rfl
  case c2 => repeat (first | exact Kp.refl | refine Kp.set (by decide) ?_)
  case c3 => simp only [Fr.get_set, reduceEqDiff, ↓reduceIte]
  case c4 => simp only [Fr.get_set, reduceEqDiff, ↓reduceIte, q5]
 have hB : ∀ k fr s, k < l.length -> Kp [0, 1] fR4 fr -> fr.get 6 = some (.int .i64 (.ofNat k)) -> (st.next <= s.next /\ (∀ i, i < st.next -> s.get i = st.get i) /\ ∃ sk, fr.get 5 = some sk /\ Ir st.next s sk (l.take k)) ->
   (∃ FR s', acode (gT m) Y m bf77_0 none fr s = .norm FR s' /\ Kp [6, 0, 1] fr FR /\ (st.next <= s'.next /\ (∀ i, i < st.next -> s'.get i = st.get i) /\ ∃ sk, FR.get 5 = some sk /\ Ir st.next s' sk (l.take (k + 1)))) ∨
   (∃ FR s', acode (gT m) Y m bf77_0 none fr s = .ret FR s' /\ False) := by
  intro k fr s hk hkp gi ⟨hnx, hsm, sq, q5, hq⟩
  obtain ⟨y, hy, -⟩ := drop_at (l := l) (k := k) hk
  have hsame : Same F st s := fun i hi => hsm i (hF i hi)
  obtain ⟨p, ia, ld⟩ := (ha.mono hsame fun _ h => h).at hy
  obtain ⟨s1, s', happ, hnx', hsm', hir'⟩ := hq.app y hnx (by rw [List.length_take]; omega)
  have fl : fillA [.int .i64 (.ofNat 0)] [(0, 1, .int .i64 y)] = some [.int .i64 y] := rfl
  have ct : contentA 1 s (.lst 1 [.int .i64 y] true) = some (1, [.int .i64 y]) := rfl
  have htake : l.take (k + 1) = l.take k ++ [y] := by rw [List.take_add_one, hy]; rfl
  have q0 := hkp.at (k := 0) (by decide) gR4_0
  have q1 := hkp.at (k := 1) (by decide) gR4_1
  obtain ⟨fR5, hR5, kR5, oR5_5⟩ : ∃ fr', arun ((gT m).cg Y) g77_0 fr s = .ok fr' s' /\ Kp [0, 1, 6] fr fr' /\ fr'.get 5 = some (s1) := ⟨_, by simp only [amE, reduceEqDiff, ↓reduceIte, reduceCtorEq, reduceAdd, q0, q5, gi, g77_0, ia, ld, fl, ct, happ, tag0] <;> rfl, Kp.refl.s.s.s.s.s.s.s.s, gh⟩
  refine .inl ⟨fR5, s', ?q5, ?k5, by omega, fun i hi => (hsm' i hi).trans (hsm i hi), s1, oR5_5, by rw [htake]; exact hir'⟩
  case q5 => simp only [amE, reduceEqDiff, ↓reduceIte, reduceCtorEq, reduceAdd, bf77_0, hR5]
  case k5 => exact kR5.sub (by decide)
 rcases floop (Γ := (gT m)) (Y := Y) (m := m) (N := l.length) (c := 11) (i := 6) (j1 := 12) (j2 := 13) (b := 0) (b1 := 1) (ro := none) (C := cf77_0) (B := bf77_0) (L := [0, 1]) (fr0 := fR4) (by decide) (by decide) (by decide) (by omega)
  (Q := fun k fr s => (st.next <= s.next /\ (∀ i, i < st.next -> s.get i = st.get i) /\ ∃ sk, fr.get 5 = some sk /\ Ir st.next s sk (l.take k))) (fun k fr s x v hx ⟨h1, h2, sk, h3, h4⟩ => ⟨h1, h2, sk, by rw [Fr.get_set, if_neg (by omega)]; exact h3, h4⟩) hC hB l.length 0 fR4 st m (by omega) (by omega) Kp.refl oR4_6 ⟨Nat.le_refl _, fun _ _ => rfl, _, gR4_5, .inl ⟨rfl, by simp⟩⟩
  with ⟨FR, s', h1, h2, h3, h4, sk', h5, h6⟩ | ⟨FR, s', h1, h2⟩
 rotate_left
 ·exact h2.elim
 rw [List.take_length] at h6
 obtain ⟨s1, s2, happ, hnx', hsm', hir'⟩ := h6.app x h3 (by omega)
 have fl : fillA [.int .i64 (.ofNat 0)] [(0, 1, .int .i64 x)] = some [.int .i64 x] := rfl
 have ct : contentA 1 s' (.lst 1 [.int .i64 x] true) = some (1, [.int .i64 x]) := rfl
 have z1 := h2.at (k := 1) (by decide) gR4_1
 have dF := h2.1.trans dR4
 obtain ⟨fR6, hR6, kR6, oR6_4⟩ : ∃ fr', arun ((gT m).cg Y) g77_4 FR s' = .ok fr' s2 /\ Kp [] FR fr' /\ fr'.get 4 = some (s1) := ⟨_, by simp only [amE, reduceEqDiff, ↓reduceIte, reduceCtorEq, reduceAdd, z1, h5, g77_4, fl, ct, happ, tag0] <;> rfl, Kp.refl.s.s.s.s.s, gh⟩
 have dR6 := kR6.1.trans dF
 refine ⟨s1, s2, fun_of (mf := kf77) (fr := fR6) t77 rfl (.inl ?q) dR6 (by simp only [kf77, amE, oR6_4]), ⟨by omega, fun i hi => (hsm' i hi).trans (h4 i hi)⟩, hir'.ZR⟩
 case q =>
  rw [<- hA1]
  simp only [amE, reduceEqDiff, ↓reduceIte, reduceCtorEq, reduceAdd, kf77, b00, hR2, hR3, hR4, h1, hR6]
theorem rleaves_run (d : Dv) : ∀ (n : Nat) (Y : Yenv) (F P : Nat -> Prop) (st : St) (cs : List AV) (way so : AV) (p : List Int) (ls : List (List Int)), RepD F st d cs -> (∀ i, F i -> P i) -> (∀ i, P i -> i < st.next) -> ZR P st way p -> OutR P st so ls ->
  ls.length + d.leaves <= 90000 -> p.length + d.depth <= 90000 -> d.fz + 100000 <= n ->
  ∃ so' st' P', R n Y 50 [.agg cs, way, so] st = .ret so' st' /\ st.next <= st'.next /\ Same P st st' /\ (∀ i, P i -> P' i) /\ (∀ i, P' i -> i < st'.next) /\ OutR P' st' so' (ls ++ lvP d p) := by
 induction hs : d.fz using Nat.strongRecOn generalizing d with
 | _ s ih =>
 intro n Y F P st cs way so p ls hr hFP hP hway hout hc hw hn
 cases d with
 | mk r nv ev vs nl ex l =>
 simp only [RepD] at hr
 obtain ⟨sv, xv, sl, xs, rfl, hsv, hrv, hsl, hrl⟩ := hr
 simp only [Dv.fz] at hs
 obtain ⟨m, rfl⟩ : ∃ m, n = m + 1 := ⟨n - 1, by omega⟩
 have hxl := hrl.len
 have b00 : Nat.beq 0 0 = true := rfl
 have hlen := hsl.len st
 have hw' : p.length + (Dv.depthL l + 1) <= 90000 := by simpa only [Dv.depth] using hw
 have hlv : Dv.leaves (.mk r nv ev vs nl ex l) = (if l.length = 0 then 1 else Dv.leavesL l) := by conv => lhs; unfold Dv.leaves
 have hlp : lvP (.mk r nv ev vs nl ex l) p = (if l.length = 0 then [p] else lvL l 0 p) := by conv => lhs; unfold lvP
 rw [hlv] at hc
 rw [hlp]
 have eq0 : binB false .eql (.int .i64 (.ofNat xs.length)) (.int .i64 (.ofNat 0)) = some (.bool (decide (l.length = 0))) := by
  rw [hxl]
  show some (AV.bool (Int.ofNat l.length == Int.ofNat 0)) = _
  congr 2
  by_cases h : l.length = 0
  ·rw [h]; rfl
  ·rw [decide_eq_false h]; simp; exact fun e => h (by rw [e]; rfl)
 obtain ⟨fA7, hA7⟩ : ∃ fA, fA = frOf 0 [.agg [.int .i64 r, sv, sl], way, so] Fr.nil := ⟨_, rfl⟩
 have gA7_0 : fA7.get 0 = some (.agg [.int .i64 r, sv, sl]) := by rw [hA7]; simp only [frOf, Fr.get_set, reduceAdd, reduceEqDiff, ↓reduceIte]
 have gA7_1 : fA7.get 1 = some (way) := by rw [hA7]; simp only [frOf, Fr.get_set, reduceAdd, reduceEqDiff, ↓reduceIte]
 have gA7_2 : fA7.get 2 = some (so) := by rw [hA7]; simp only [frOf, Fr.get_set, reduceAdd, reduceEqDiff, ↓reduceIte]
 have dA7 : fA7.ds = [] := by rw [hA7]; rfl
 obtain ⟨fR8, hR8, kR8, oR8_3⟩ : ∃ fr', arun ((gT m).cg Y) [⟨(some 3), .box true (.t 0), none⟩, ⟨(some 6), .mv (.c .nilsl), none⟩] fA7 st = .ok fr' st /\ Kp [1, 2] fA7 fr' /\ fr'.get 3 = some (.fptr [.int .i64 r, sv, sl] 0) := ⟨_, by simp only [amE, reduceEqDiff, ↓reduceIte, reduceCtorEq, reduceAdd, gA7_0] <;> rfl, Kp.refl.s.s, gn gh⟩
 have gR8_1 := kR8.g 1 gA7_1
 have gR8_2 := kR8.g 2 gA7_2
 have dR8 := kR8.1.trans dA7
 obtain ⟨fR9, hR9, kR9, oR9_11⟩ : ∃ fr', arun ((gT m).cg Y) g50_2 fR8 st = .ok fr' st /\ Kp [1, 2, 3] fR8 fr' /\ fr'.get 11 = some (.bool (decide (l.length = 0))) := ⟨_, by simp only [amE, reduceEqDiff, ↓reduceIte, reduceCtorEq, reduceAdd, oR8_3, g50_2, faf, ld2f, hlen, eq0] <;> rfl, Kp.refl.s.s.s.s, gh⟩
 have gR9_1 := kR9.g 1 gR8_1
 have gR9_2 := kR9.g 2 gR8_2
 have gR9_3 := kR9.g 3 oR8_3
 have dR9 := kR9.1.trans dR8
 by_cases h0 : l.length = 0
 ·rw [if_pos h0] at hc ⊢
  have g11 := oR9_11
  rw [decide_eq_true h0] at g11
  obtain ⟨so1, s1, happ, hn1, sm1, hout1⟩ := hout.app hway hP (by omega)
  have fl : fillA [.nilsl] [(0, 1, way)] = some [way] := by
   have h1 := hway.one
   cases way <;> first | rfl | (simp [AV.one] at h1)
  have ct : contentA 1 st (.lst 1 [way] true) = some (1, [way]) := rfl
  obtain ⟨fR10, hR10, kR10, oR10_6⟩ : ∃ fr', arun ((gT m).cg Y) g50_3 fR9 st = .ok fr' s1 /\ Kp [] fR9 fr' /\ fr'.get 6 = some (so1) := ⟨_, by simp only [amE, reduceEqDiff, ↓reduceIte, reduceCtorEq, reduceAdd, gR9_1, gR9_2, g50_3, fl, ct, happ, tag0] <;> rfl, Kp.refl.s.s.s.s.s, gh⟩
  have dR10 := kR10.1.trans dR9
  refine ⟨so1, s1, P, fun_of (mf := kf50) (fr := fR10) t50 rfl (.inl ?q10) dR10 (by simp only [kf50, amE, oR10_6]), by omega, sm1, fun _ h => h, fun i hi => by have := hP i hi; omega, hout1⟩
  case q10 =>
   rw [<- hA7]
   simp only [amE, reduceEqDiff, ↓reduceIte, reduceCtorEq, reduceAdd, kf50, b00, hR8, hR9, hR10, g11]
 rw [if_neg h0] at hc ⊢
 have g11 := oR9_11
 rw [decide_eq_false h0] at g11
 obtain ⟨fR11, hR11, kR11, oR11_7⟩ : ∃ fr', arun ((gT m).cg Y) [⟨(some 7), .mv (.c (.int .i64 (.ofNat 0))), none⟩] fR9 st = .ok fr' st /\ Kp [1, 2, 3] fR9 fr' /\ fr'.get 7 = some (.int .i64 (.ofNat 0)) := ⟨_, by simp only [amE, reduceEqDiff, ↓reduceIte, reduceCtorEq, reduceAdd] <;> rfl, Kp.refl.s, gh⟩
 have gR11_1 := kR11.g 1 gR9_1
 have gR11_2 := kR11.g 2 gR9_2
 have gR11_3 := kR11.g 3 gR9_3
 have dR11 := kR11.1.trans dR9
 have hC : ∀ k fr s, k <= xs.length -> Kp [1, 3] fR11 fr -> fr.get 7 = some (.int .i64 (.ofNat k)) -> (∃ Pk o, fr.get 2 = some o /\ st.next <= s.next /\ Same P st s /\ (∀ i, P i -> Pk i) /\ (∀ i, Pk i -> i < s.next) /\ OutR Pk s o (ls ++ lvL (l.take k) 0 p)) ->
   ∃ fr', arun ((gT m).cg Y) cf50_0 fr s = .ok fr' s /\ Kp [7, 1, 3] fr fr' /\ fr'.get 20 = some (.bool (decide (k < xs.length))) /\ (∃ Pk o, fr'.get 2 = some o /\ st.next <= s.next /\ Same P st s /\ (∀ i, P i -> Pk i) /\ (∀ i, Pk i -> i < s.next) /\ OutR Pk s o (ls ++ lvL (l.take k) 0 p)) := by
  intro k fr s hk hkp gi ⟨Pk, o, q2, hq⟩
  have q3 := hkp.at (k := 3) (by decide) gR11_3
  have hlen := hsl.len s
  refine ⟨?c0, ?c1, ?c2, ?c3, Pk, o, ?c4, hq⟩
  case c1 =>
   simp only [amE, reduceEqDiff, ↓reduceIte, reduceCtorEq, reduceAdd, cf50_0, q3, gi, faf, ld2f, hlen, lssD]
   rfl
  case c2 => repeat (first | exact Kp.refl | refine Kp.set (by decide) ?_)
  case c3 => simp only [Fr.get_set, reduceEqDiff, ↓reduceIte]
  case c4 => simp only [Fr.get_set, reduceEqDiff, ↓reduceIte, q2]
 have hB : ∀ k fr s, k < xs.length -> Kp [1, 3] fR11 fr -> fr.get 7 = some (.int .i64 (.ofNat k)) -> (∃ Pk o, fr.get 2 = some o /\ st.next <= s.next /\ Same P st s /\ (∀ i, P i -> Pk i) /\ (∀ i, Pk i -> i < s.next) /\ OutR Pk s o (ls ++ lvL (l.take k) 0 p)) ->
   (∃ FR s', acode (gT m) Y m bf50_0 none fr s = .norm FR s' /\ Kp [7, 1, 3] fr FR /\ (∃ Pk o, FR.get 2 = some o /\ st.next <= s'.next /\ Same P st s' /\ (∀ i, P i -> Pk i) /\ (∀ i, Pk i -> i < s'.next) /\ OutR Pk s' o (ls ++ lvL (l.take (k + 1)) 0 p))) ∨
   (∃ FR s', acode (gT m) Y m bf50_0 none fr s = .ret FR s' /\ False) := by
  intro k fr s hk hkp gi ⟨Pk, o, q2, hnx, hsm, hPk, hPb, hq⟩
  obtain ⟨t, ht, hdr⟩ := drop_at (l := l) (k := k) (by omega)
  obtain ⟨x, hx, hrx⟩ := hrl.at ht
  obtain ⟨pp, ia, ld⟩ := hsl.at hx
  have hF : ∀ i, F i -> i < st.next := fun i hi => hP i (hFP i hi)
  have hsame : Same F st s := fun i hi => hsm i (hFP i hi)
  have hmem := List.mem_of_getElem? ht
  have hfz := Dv.fzL_mem hmem
  have hdp := depthL_memR hmem
  have htake : l.take (k + 1) = l.take k ++ [t] := by rw [List.take_add_one, ht]; rfl
  have hlt := leavesL_takeR l (k + 1)
  rw [htake, leavesL_snocR] at hlt
  have hll := lvL_len (l.take k) 0 p
  have hPs : ∀ i, P i -> i < s.next := fun i hi => Nat.lt_of_lt_of_le (hP i hi) hnx
  obtain ⟨w1, s1, hlg, k1, hz1⟩ := longer_run (hway.mono hsm fun _ h => h) hPs (.ofNat k) m Y (by omega) (by omega)
  have hlg' : ((gT m).cg Y).fn 77 [way, .int .i64 (.ofNat k)] s = .ret w1 s1 := hlg
  have hsame1 : Same F st s1 := hsame.trans (Same.of k1 fun i hi => hPs i (hFP i hi))
  have ld1 := ld s1 hsame1
  have ld := ld s hsame
  have bx : avBeq (.agg x) (.agg x) = true := by simp only [avBeq]; exact RepD.beq t x hrx
  obtain ⟨o1, s', P1, hcall, hnx1, hsm1, hP1, hPb1, hout1⟩ := ih t.fz (by omega) t rfl m Y F (fun i => Pk i \/ (s.next <= i /\ i < s1.next)) s1 x w1 o (p ++ [.ofNat k]) (ls ++ lvL (l.take k) 0 p) (hrx.mono hsame1 fun _ h => h)
   (fun i hi => .inl (hPk i (hFP i hi))) (fun i hi => by
    have := k1.1
    rcases hi with hi | hi
    ·have := hPb i hi; omega
    ·omega) (hz1.mono (Same.refl _ _) fun i hi => .inr hi) (hq.keep k1 hPb (fun i hi => .inl hi) fun i hi => by
    rcases hi with hi | hi
    ·exact .inl hi
    ·exact .inr hi.1) (by simp only [List.length_append]; omega) (by simp only [List.length_append, List.length_cons, List.length_nil]; omega) (by omega)
  have hcall' : ((gT m).cg Y).fn 50 [.agg x, w1, o] s1 = .ret o1 s' := hcall
  have q1 := hkp.at (k := 1) (by decide) gR11_1
  have q3 := hkp.at (k := 3) (by decide) gR11_3
  obtain ⟨fR12, hR12, kR12, oR12_2⟩ : ∃ fr', adraw ((gT m).cg Y) g50_0 [(1, some 7), (1, some 9), (4, some 7), (4, some 9)] fr s = .ok fr' s' /\ Kp [1, 3, 7] fr fr' /\ fr'.get 2 = some (o1) := by
   refine ⟨?r120, ?r121, ?r122, ?r12o2⟩
   case r121 =>
    refine adraw_ok (its := ?r12i) ?r12x ?r12y ?r12z
    case r12x =>
     simp only [amE, reduceEqDiff, ↓reduceIte, reduceCtorEq, reduceAdd, drun_cons, drun_nil, DR.cons, oprD, nextId, preA, q1, q2, q3, gi, g50_0, faf, ld2f, ia, ld, ld1, hlg', hcall']
     rfl
    case r12y => rfl
    case r12z =>
     simp only [List.all_cons, List.all_nil, Bool.and_true, Bool.and_eq_true]
     refine ⟨chk_of (i := 1) (k := 7) rfl rfl rfl rfl ?r12k0, chk_of (i := 1) (k := 9) rfl rfl rfl rfl ?r12k1, chk_of (i := 4) (k := 7) rfl rfl rfl rfl ?r12k2, chk_of (i := 4) (k := 9) rfl rfl rfl rfl ?r12k3⟩
     case r12k0 =>
      left
      simp only [amE, reduceEqDiff, ↓reduceIte, reduceCtorEq, reduceAdd, frzLoad, q1, q2, q3, gi, g50_0, faf, ld2f, ia, ld, ld1, hlg', hcall']
     case r12k1 =>
      left
      simp only [amE, reduceEqDiff, ↓reduceIte, reduceCtorEq, reduceAdd, frzLoad, q1, q2, q3, gi, g50_0, faf, ld2f, ia, ld, ld1, hlg', hcall']
     case r12k2 =>
      right
      refine ⟨?r12s2, ?r12l2, bx⟩
      case r12l2 =>
       simp only [amE, reduceEqDiff, ↓reduceIte, reduceCtorEq, reduceAdd, oprD, q1, q2, q3, gi, g50_0, faf, ld2f, ia, ld, ld1, hlg', hcall']
       rfl
     case r12k3 =>
      right
      refine ⟨?r12s3, ?r12l3, bx⟩
      case r12l3 =>
       simp only [amE, reduceEqDiff, ↓reduceIte, reduceCtorEq, reduceAdd, oprD, q1, q2, q3, gi, g50_0, faf, ld2f, ia, ld, ld1, hlg', hcall']
       rfl
   case r122 => repeat (first | exact Kp.refl | refine Kp.set (by decide) ?_)
   case r12o2 => simp only [Fr.get_set, reduceEqDiff, ↓reduceIte]
  refine .inl ⟨fR12, s', ?q12, kR12.sub (by decide), P1, o1, oR12_2, by have := k1.1; omega, (hsm.trans (Same.of k1 hPs)).trans (fun i hi => hsm1 i (.inl (hPk i hi))), fun i hi => hP1 i (.inl (hPk i hi)), hPb1, ?z12⟩
  case q12 => simp only [amE, reduceEqDiff, ↓reduceIte, reduceCtorEq, reduceAdd, bf50_0, hR12]
  case z12 =>
   rw [htake, lvL_snoc, <- List.append_assoc]
   have hk2 : (l.take k).length = k := by rw [List.length_take]; omega
   rw [hk2, Nat.zero_add]
   exact hout1
 rcases floop (Γ := (gT m)) (Y := Y) (m := m) (N := xs.length) (c := 20) (i := 7) (j1 := 21) (j2 := 22) (b := 0) (b1 := 1) (ro := none) (C := cf50_0) (B := bf50_0) (L := [1, 3]) (fr0 := fR11) (by decide) (by decide) (by decide) hsl.2.1
  (Q := fun k fr s => (∃ Pk o, fr.get 2 = some o /\ st.next <= s.next /\ Same P st s /\ (∀ i, P i -> Pk i) /\ (∀ i, Pk i -> i < s.next) /\ OutR Pk s o (ls ++ lvL (l.take k) 0 p))) (fun k fr s x v hx ⟨Pk, o, h3, h4⟩ => ⟨Pk, o, by rw [Fr.get_set, if_neg (by omega)]; exact h3, h4⟩) hC hB xs.length 0 fR11 st m (by omega) (by omega) Kp.refl oR11_7 ⟨P, so, gR11_2, Nat.le_refl _, Same.refl _ _, fun _ h => h, hP, by simpa only [List.take_zero, lvL_nil, List.append_nil] using hout⟩
  with ⟨FR, s', h1, h2, P1, o1, h5, h6, h7, h8, h9, h10⟩ | ⟨FR, s', h1, h2⟩
 rotate_left
 ·exact h2.elim
 rw [hxl, List.take_length] at h10
 have dF := h2.1.trans dR11
 obtain ⟨fR13, hR13, kR13, oR13_6⟩ : ∃ fr', arun ((gT m).cg Y) [⟨(some 33), .mv (.t 2), none⟩, ⟨(some 6), .mv (.t 33), none⟩] FR s' = .ok fr' s' /\ Kp [] FR fr' /\ fr'.get 6 = some (o1) := ⟨_, by simp only [amE, reduceEqDiff, ↓reduceIte, reduceCtorEq, reduceAdd, h5] <;> rfl, Kp.refl.s.s, gh⟩
 have dR13 := kR13.1.trans dF
 refine ⟨o1, s', P1, fun_of (mf := kf50) (fr := fR13) t50 rfl (.inl ?q) dR13 (by simp only [kf50, amE, oR13_6]), h6, h7, h8, h9, h10⟩
 case q =>
  rw [<- hA7]
  simp only [amE, reduceEqDiff, ↓reduceIte, reduceCtorEq, reduceAdd, kf50, b00, hR8, hR9, hR11, h1, hR13, g11]
theorem OutR.LR {P : Nat -> Prop} {s : St} {sl : AV} {ls : List (List Int)} (h : OutR P s sl ls) (hP : ∀ i, P i -> i < s.next) : LR (fun i => i < s.next) s sl ls := by
 rcases h with h | ⟨id, cells, h1, h2, h3, h4, h5⟩
 ·exact .inl h
 ·exact .inr ⟨id, cells, h1, h2, h4, h5.mono (Same.refl _ _) hP⟩
theorem rLeaves_run (d : Dv) (n : Nat) (Y : Yenv) (F : Nat -> Prop) (st : St) (cs : List AV) (hr : RepD F st d cs) (hF : ∀ i, F i -> i < st.next) (hn : d.fz + 200000 <= n) :
  ∃ x st', R n Y 15 [.agg cs] st = .ret (.tuple [x, .int .i64 (.ofNat (if isDv d = true then 0 else 160))]) st' /\ Keeps st st' /\ LR (fun i => i < st'.next) st' x (if isDv d = true then lvP d [] else []) := by
 obtain ⟨m, rfl⟩ : ∃ m, n = m + 1 := ⟨n - 1, by omega⟩
 have b00 : Nat.beq 0 0 = true := rfl
 have f0 : fillA [] [] = some [] := rfl
 obtain ⟨st1, c1, k1⟩ := rIsD_run d m Y F st cs hr hF (by omega)
 have c1' : ((gT m).cg Y).fn 49 [.agg cs] st = .ret (.bool (isDv d)) st1 := c1
 have hr1 := hr.mono (Same.of k1 hF) fun _ h => h
 have hF1 : ∀ i, F i -> i < st1.next := fun i hi => Nat.lt_of_lt_of_le (hF i hi) k1.1
 have hc3 := hr.cells3
 generalize hB : isDv d = B at *
 obtain ⟨a, b, c, rfl⟩ : ∃ a b c, cs = [a, b, c] := by
  match cs, hc3.1 with
  | [a, b, c], _ => exact ⟨a, b, c, rfl⟩
 obtain ⟨fA14, hA14⟩ : ∃ fA, fA = frOf 0 [.agg [a, b, c]] Fr.nil := ⟨_, rfl⟩
 have gA14_0 : fA14.get 0 = some (.agg [a, b, c]) := by rw [hA14]; simp only [frOf, Fr.get_set, reduceAdd, reduceEqDiff, ↓reduceIte]
 have dA14 : fA14.ds = [] := by rw [hA14]; rfl
 obtain ⟨fR15, hR15, kR15, oR15_1⟩ : ∃ fr', arun ((gT m).cg Y) [⟨(some 1), .box true (.t 0), none⟩, ⟨(some 2), .mv (.c .nilsl), none⟩, ⟨(some 3), .mv (.c (.int .i64 (.ofNat 0))), none⟩] fA14 st = .ok fr' st /\ Kp [] fA14 fr' /\ fr'.get 1 = some (.fptr [a, b, c] 0) := ⟨_, by simp only [amE, reduceEqDiff, ↓reduceIte, reduceCtorEq, reduceAdd, gA14_0] <;> rfl, Kp.refl.s.s.s, gn (gn gh)⟩
 have dR15 := kR15.1.trans dA14
 obtain ⟨fR16, hR16, kR16, oR16_6⟩ : ∃ fr', arun ((gT m).cg Y) g15_1 fR15 st = .ok fr' st1 /\ Kp [1] fR15 fr' /\ fr'.get 6 = some (.bool (!B)) := ⟨_, by simp only [amE, reduceEqDiff, ↓reduceIte, reduceCtorEq, reduceAdd, oR15_1, g15_1, ld3f, c1', unN, Bool.not_true, Bool.not_false] <;> rfl, Kp.refl.s.s.s, gh⟩
 have gR16_1 := kR16.g 1 oR15_1
 have dR16 := kR16.1.trans dR15
 cases B with
 | false =>
  obtain ⟨fR17, hR17, kR17, oR17_2, oR17_3⟩ : ∃ fr', arun ((gT m).cg Y) [⟨(some 2), .mv (.c .nilsl), none⟩, ⟨(some 3), .mv (.c (.int .i64 (.ofNat 160))), none⟩] fR16 st1 = .ok fr' st1 /\ Kp [] fR16 fr' /\ fr'.get 2 = some (.nilsl) /\ fr'.get 3 = some (.int .i64 (.ofNat 160)) := ⟨_, by simp only [amE, reduceEqDiff, ↓reduceIte, reduceCtorEq, reduceAdd] <;> rfl, Kp.refl.s.s, gn gh, gh⟩
  have dR17 := kR17.1.trans dR16
  refine ⟨.nilsl, st1, fun_of (mf := kf15) (fr := fR17) t15 rfl (.inl ?q17) dR17 (by simp only [kf15, amE, oR17_2, oR17_3]; rfl), k1, .inl ⟨rfl, rfl⟩⟩
  case q17 =>
   rw [<- hA14]
   simp only [amE, reduceEqDiff, ↓reduceIte, reduceCtorEq, reduceAdd, kf15, hR15, hR16, hR17, oR16_6, Bool.not_false]
 | true =>
  obtain ⟨hgood, hsz, hdp⟩ := (isDv_iff d).1 hB
  have hlv := leaves_le d
  obtain ⟨so, st2, P', c2, hnx, hsm, -, hPb, hout⟩ := rleaves_run d m Y F (fun i => i < st1.next) st1 [a, b, c] (.lst 0 [] true) .nilsl [] [] hr1 hF1 (fun _ h => h) (.inl ⟨rfl, .inr rfl⟩) (.inl ⟨rfl, rfl⟩) (by simp only [List.length_nil]; omega) (by simp only [List.length_nil]; omega) (by omega)
  have c2' : ((gT m).cg Y).fn 50 [.agg [a, b, c], .lst 0 [] true, .nilsl] st1 = .ret so st2 := c2
  obtain ⟨fR18, hR18, kR18, oR18_2, oR18_3⟩ : ∃ fr', arun ((gT m).cg Y) g15_3 fR16 st1 = .ok fr' st2 /\ Kp [] fR16 fr' /\ fr'.get 2 = some (so) /\ fr'.get 3 = some (.int .i64 (.ofNat 0)) := ⟨_, by simp only [amE, reduceEqDiff, ↓reduceIte, reduceCtorEq, reduceAdd, gR16_1, g15_3, ld3f, f0, c2'] <;> rfl, Kp.refl.s.s.s.s.s, gn gh, gh⟩
  have dR18 := kR18.1.trans dR16
  refine ⟨so, st2, fun_of (mf := kf15) (fr := fR18) t15 rfl (.inl ?q18) dR18 (by simp only [kf15, amE, oR18_2, oR18_3]; rfl), k1.trans ⟨hnx, hsm⟩, hout.LR hPb⟩
  case q18 =>
   rw [<- hA14]
   simp only [amE, reduceEqDiff, ↓reduceIte, reduceCtorEq, reduceAdd, kf15, hR15, hR16, hR18, oR16_6, Bool.not_true]
end
end Go.AM.D16
