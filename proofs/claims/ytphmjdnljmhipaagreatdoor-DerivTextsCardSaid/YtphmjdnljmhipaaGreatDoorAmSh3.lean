import Derived.Test.YtphmjdnljmhipaaGreatDoorAmSh2
set_option linter.unusedSimpArgs false
set_option linter.unusedVariables false
set_option maxRecDepth 100000
namespace Go.AM.D16
open Go Go.AM
noncomputable section
open Nat (reduceEqDiff reduceAdd)
def kf107 : MFunc := ⟨12, (.seq (.region [⟨(some 2), .mv (.c (.int .i64 (.ofNat 0))), none⟩, ⟨(some 3), .mv (.c (.int .i64 (.ofNat 0))), none⟩])
 (.seq (.seq (.region [⟨(some 4), .mv (.t 0), none⟩])
 (.block 0 (.seq (.seq (.region [⟨(some 6), .bin false .eql (.t 4) (.c (.int .i64 (.ofNat 1))), none⟩, ⟨(some 5), .mv (.t 6), none⟩])
 (.cond (.t 5)
 .skip
 (.region [⟨(some 7), .bin false .eql (.t 4) (.c (.int .i64 (.ofNat 2))), none⟩, ⟨(some 5), .mv (.t 7), none⟩])))
 (.cond (.t 5)
 (.seq (.region [⟨(some 2), .mv (.c (.int .i64 (.ofNat 0))), none⟩, ⟨(some 3), .mv (.c (.int .i64 (.ofNat 8))), none⟩])
 .ret)
 (.seq (.region [⟨(some 9), .bin false .eql (.t 4) (.c (.int .i64 (.ofNat 7))), none⟩, ⟨(some 8), .mv (.t 9), none⟩])
 (.cond (.t 8)
 (.seq (.region [⟨(some 2), .mv (.c (.int .i64 (.ofNat 2))), none⟩, ⟨(some 3), .mv (.c (.int .i64 (.ofNat 0))), none⟩])
 .ret)
 (.seq (.region [⟨(some 11), .bin false .eql (.t 4) (.c (.int .i64 (.ofNat 16))), none⟩, ⟨(some 10), .mv (.t 11), none⟩])
 (.cond (.t 10)
 (.seq (.region [⟨(some 2), .mv (.c (.int .i64 (.ofNat 1))), none⟩, ⟨(some 3), .mv (.c (.int .i64 (.ofNat 64))), none⟩])
 .ret)
 .skip))))))))
 (.seq (.region [⟨(some 2), .mv (.c (.int .i64 (.ofNat 1))), none⟩, ⟨(some 3), .mv (.c (.int .i64 (.ofNat 0))), none⟩])
 .ret))), [.t 2, .t 3]⟩
theorem t107 : tbl 107 = some kf107 := by kernel_rfl
def kf109 : MFunc := ⟨6, (.seq (.region [⟨(some 1), .box true (.t 0), none⟩, ⟨(some 2), .mv (.c (.bool false)), none⟩])
 (.seq (.region [⟨(some 3), .load true 3 (.t 1), none⟩, ⟨(some 4), .call (.c (.func (.func 110) [] [])) [(.t 3)], none⟩, ⟨(some 5), .un .not (.t 4), none⟩, ⟨(some 2), .mv (.t 5), none⟩])
 .ret)), [.t 2]⟩
theorem t109 : tbl 109 = some kf109 := by kernel_rfl
def kf112 : MFunc := ⟨11, (.seq (.region [⟨(some 3), .box true (.t 0), none⟩, ⟨(some 4), .mv (.c (.bool false)), none⟩])
 (.seq (.region [⟨(some 5), .load true 3 (.t 3), none⟩, ⟨(some 6), .load false 1 (.t 1), none⟩, ⟨(some 7), .load false 1 (.t 2), none⟩, ⟨(some 8), .bin false .add (.t 7) (.c (.int .i64 (.ofNat 1))), none⟩, ⟨(some 9), .call (.c (.func (.func 70) [] [])) [(.t 5), (.t 6), (.t 8)], none⟩, ⟨(some 10), .un .not (.t 9), none⟩, ⟨(some 4), .mv (.t 10), none⟩])
 .ret)), [.t 4]⟩
theorem t112 : tbl 112 = some kf112 := by kernel_rfl
def g70_0 : List MOper := [⟨(some 3), .box true (.t 0), none⟩, ⟨(some 4), .box false (.t 1), none⟩, ⟨(some 5), .box false (.t 2), none⟩, ⟨(some 6), .mv (.c (.bool false)), none⟩]
def g70_1 : List MOper := [⟨(some 9), .load false 1 (.t 4), none⟩, ⟨(some 10), .nilchk (.t 9), none⟩, ⟨(some 11), .load false 1 (.t 10), none⟩, ⟨(some 12), .bin false .sub (.t 11) (.c (.int .i64 (.ofNat 1))), none⟩, ⟨(some 13), .nilchk (.t 9), none⟩, ⟨none, .store 1 (.t 13) (.t 12), none⟩]
def g70_2 : List MOper := [⟨(some 15), .faddr 0 (.t 3), none⟩, ⟨(some 16), .load false 1 (.t 15), none⟩, ⟨(some 17), .call (.c (.func (.func 107) [] [])) [(.t 16)], none⟩, ⟨(some 14), .mv (.t 17), none⟩, ⟨(some 18), .extract 0 (.t 14), none⟩, ⟨(some 19), .extract 1 (.t 14), none⟩, ⟨(some 7), .mv (.t 18), none⟩, ⟨(some 8), .mv (.t 19), none⟩]
def g70_3 : List MOper := [⟨(some 20), .load false 1 (.t 4), none⟩, ⟨(some 21), .nilchk (.t 20), none⟩, ⟨(some 22), .load false 1 (.t 21), none⟩, ⟨(some 23), .bin false .lss (.t 22) (.c (.int .i64 (.ofNat 0))), none⟩, ⟨(some 24), .mv (.t 23), none⟩, ⟨(some 25), .load false 1 (.t 5), (some (24, false))⟩, ⟨(some 26), .bin false .gtr (.t 25) (.c (.int .i64 (.ofNat 400))), (some (24, false))⟩, ⟨(some 27), .pick (.t 24) (.c (.bool true)) (.t 26), none⟩, ⟨(some 28), .mv (.t 27), none⟩, ⟨(some 29), .faddr 0 (.t 3), (some (28, false))⟩, ⟨(some 30), .load false 1 (.t 29), (some (28, false))⟩, ⟨(some 31), .bin false .lss (.t 30) (.c (.int .i64 (.ofNat 1))), (some (28, false))⟩, ⟨(some 32), .pick (.t 28) (.c (.bool true)) (.t 31), none⟩, ⟨(some 33), .mv (.t 32), none⟩, ⟨(some 34), .faddr 0 (.t 3), (some (33, false))⟩, ⟨(some 35), .load false 1 (.t 34), (some (33, false))⟩, ⟨(some 36), .bin false .gtr (.t 35) (.c (.int .i64 (.ofNat 19))), (some (33, false))⟩, ⟨(some 37), .pick (.t 33) (.c (.bool true)) (.t 36), none⟩, ⟨(some 38), .mv (.t 37), none⟩, ⟨(some 39), .faddr 2 (.t 3), (some (38, false))⟩, ⟨(some 40), .load false 1 (.t 39), (some (38, false))⟩, ⟨(some 41), .len 0 (.t 40), (some (38, false))⟩, ⟨(some 42), .mv (.t 7), (some (38, false))⟩, ⟨(some 43), .bin false .neq (.t 41) (.t 42), (some (38, false))⟩, ⟨(some 44), .pick (.t 38) (.c (.bool true)) (.t 43), none⟩, ⟨(some 45), .mv (.t 44), none⟩, ⟨(some 46), .faddr 1 (.t 3), (some (45, false))⟩, ⟨(some 47), .load false 1 (.t 46), (some (45, false))⟩, ⟨(some 48), .len 0 (.t 47), (some (45, false))⟩, ⟨(some 49), .mv (.t 8), (some (45, false))⟩, ⟨(some 50), .bin false .gtr (.t 48) (.t 49), (some (45, false))⟩, ⟨(some 51), .pick (.t 45) (.c (.bool true)) (.t 50), none⟩, ⟨(some 52), .mv (.t 51), none⟩, ⟨(some 53), .faddr 1 (.t 3), (some (52, false))⟩, ⟨(some 54), .load false 1 (.t 53), (some (52, false))⟩, ⟨(some 55), .call (.c (.func (.func 108) [] [])) [(.t 54), (.c (.func (.func 109) [] []))], (some (52, false))⟩, ⟨(some 56), .pick (.t 52) (.c (.bool true)) (.t 55), none⟩]
def g70_4 : List MOper := [⟨(some 6), .mv (.c (.bool false)), none⟩]
def g70_5 : List MOper := [⟨(some 57), .faddr 2 (.t 3), none⟩, ⟨(some 58), .load false 1 (.t 57), none⟩, ⟨(some 59), .mkfn 112 [] [(.t 4), (.t 5)], none⟩, ⟨(some 60), .call (.c (.func (.func 111) [] [])) [(.t 58), (.t 59)], none⟩, ⟨(some 61), .un .not (.t 60), none⟩, ⟨(some 6), .mv (.t 61), none⟩]
def kf70 : MFunc := ⟨62, (.seq (.region g70_0)
 (.seq (.region g70_1)
 (.seq (.region g70_2)
 (.seq (.seq (.region g70_3)
 (.cond (.t 56)
 (.seq (.region g70_4)
 .ret)
 .skip))
 (.seq (.region g70_5)
 .ret))))), [.t 6]⟩
theorem t70 : tbl 70 = some kf70 := by kernel_rfl
def g41_2 : List MOper := [⟨(some 4), .load true 3 (.t 1), none⟩, ⟨(some 5), .call (.c (.func (.func 70) [] [])) [(.t 4), (.t 3), (.c (.int .i64 (.ofNat 1)))], none⟩, ⟨(some 2), .mv (.t 5), none⟩]
def kf41 : MFunc := ⟨6, (.seq (.region [⟨(some 1), .box true (.t 0), none⟩, ⟨(some 2), .mv (.c (.bool false)), none⟩])
 (.seq (.region [⟨(some 3), .alloc [(.int .i64 (.ofNat 0))], none⟩, ⟨none, .store 1 (.t 3) (.c (.int .i64 (.ofNat 4000))), none⟩])
 (.seq (.region g41_2)
 .ret))), [.t 2]⟩
theorem t41 : tbl 41 = some kf41 := by kernel_rfl
theorem arity_run (n : Nat) (Y : Yenv) (r : Int) (st : St) : R (n + 1) Y 107 [.int .i64 r] st = .ret (.tuple [.int .i64 (.ofNat (arN r)), .int .i64 (.ofNat (vaN r))]) st := by
 have b00 : Nat.beq 0 0 = true := rfl
 have eq : ∀ c : Nat, binB false .eql (.int .i64 r) (.int .i64 (.ofNat c)) = some (.bool (r == .ofNat c)) := fun _ => rfl
 cases h1 : (r == Int.ofNat 1) with
 | true =>
  refine fun_of (mf := kf107) (fr := ?x1a) t107 rfl (.inl ?x1b) ?x1c ?x1d
  case x1b =>
   simp only [amE, reduceEqDiff, ↓reduceIte, reduceCtorEq, reduceAdd, kf107, b00, eq, h1]
   rfl
  case x1c => rfl
  case x1d =>
   simp only [kf107, amE, Fr.get_set, reduceEqDiff, ↓reduceIte]
   try (have x : r = 1 := by simpa using h1)
   try subst x
   try rfl
 | false =>
  cases h2 : (r == Int.ofNat 2) with
  | true =>
   refine fun_of (mf := kf107) (fr := ?x2a) t107 rfl (.inl ?x2b) ?x2c ?x2d
   case x2b =>
    simp only [amE, reduceEqDiff, ↓reduceIte, reduceCtorEq, reduceAdd, kf107, b00, eq, h1, h2]
    rfl
   case x2c => rfl
   case x2d =>
    simp only [kf107, amE, Fr.get_set, reduceEqDiff, ↓reduceIte]
    try (have x : r = 2 := by simpa using h2)
    try subst x
    try rfl
  | false =>
   cases h7 : (r == Int.ofNat 7) with
   | true =>
    refine fun_of (mf := kf107) (fr := ?x7a) t107 rfl (.inl ?x7b) ?x7c ?x7d
    case x7b =>
     simp only [amE, reduceEqDiff, ↓reduceIte, reduceCtorEq, reduceAdd, kf107, b00, eq, h1, h2, h7]
     rfl
    case x7c => rfl
    case x7d =>
     simp only [kf107, amE, Fr.get_set, reduceEqDiff, ↓reduceIte]
     try (have x : r = 7 := by simpa using h7)
     try subst x
     try rfl
   | false =>
    cases h16 : (r == Int.ofNat 16) with
    | true =>
     refine fun_of (mf := kf107) (fr := ?x16a) t107 rfl (.inl ?x16b) ?x16c ?x16d
     case x16b =>
      simp only [amE, reduceEqDiff, ↓reduceIte, reduceCtorEq, reduceAdd, kf107, b00, eq, h1, h2, h7, h16]
      rfl
     case x16c => rfl
     case x16d =>
      simp only [kf107, amE, Fr.get_set, reduceEqDiff, ↓reduceIte]
      try (have x : r = 16 := by simpa using h16)
      try subst x
      try rfl
    | false =>
     refine fun_of (mf := kf107) (fr := ?x0a) t107 rfl (.inl ?x0b) ?x0c ?x0d
     case x0b =>
      simp only [amE, reduceEqDiff, ↓reduceIte, reduceCtorEq, reduceAdd, kf107, b00, eq, h1, h2, h7, h16]
      rfl
     case x0c => rfl
     case x0d =>
      simp only [kf107, amE, Fr.get_set, reduceEqDiff, ↓reduceIte]
      try ((have x1 : r ≠ 1 := by simpa using h1); (have x2 : r ≠ 2 := by simpa using h2); (have x7 : r ≠ 7 := by simpa using h7); (have x16 : r ≠ 16 := by simpa using h16); simp only [arN, vaN, x1, x2, x7, x16, or_self, ↓reduceIte]; done)
theorem stb1 {st : St} {id : Nat} {x : AV} {k : IntKind} {v : Int} (h : st.get id = some (.row [x])) : storeA 1 st (.ptr id 0) (.int k v) = some (st.put id (.row [.int k v])) := by
 simp only [storeA, h]; rfl
theorem shaped_run (d : Dv) : ∀ (n : Nat) (Y : Yenv) (F : Nat -> Prop) (st : St) (id : Nat) (left deep : Int) (cs : List AV), RepD F st d cs -> (∀ i, F i -> i < st.next) -> ¬ F id -> id < st.next ->
  st.get id = some (.row [.int .i64 left]) -> d.fz <= n ->
  ∃ st', R n Y 70 [.agg cs, .ptr id 0, .int .i64 deep] st = .ret (.bool (shD d left deep).1) st' /\ Keep1 id st st' /\ st'.get id = some (.row [.int .i64 (shD d left deep).2]) := by
 induction hs : d.fz using Nat.strongRecOn generalizing d with
 | _ s ih =>
 intro n Y F st id left deep cs hr hF hid hlt hg hn
 cases d with
 | mk r nv ev vs nl ex l =>
 simp only [RepD] at hr
 obtain ⟨sv, xv, sl, xs, rfl, hsv, hrv, hsl, hrl⟩ := hr
 simp only [Dv.fz] at hs
 obtain ⟨m, rfl⟩ : ∃ m, n = m + 6 := ⟨n - 6, by omega⟩
 have hxv := hrv.len
 have hxl := hrl.len
 have b00 : Nat.beq 0 0 = true := rfl
 -- the variables
 obtain ⟨st1, hst1⟩ : ∃ st1, st1 = (st.new (.row [.ptr id 0])).new (.row [.int .i64 deep]) := ⟨_, rfl⟩
 have hbx : ((st.new (.row (AV.ptr id 0).cells)).new (.row (AV.int .i64 deep).cells)) = st1 := hst1.symm
 have k1 : Keeps st st1 := by rw [hst1]; exact (Keeps.new _ _).trans (Keeps.new _ _)
 have n1 : st1.next = st.next + 1 + 1 := by rw [hst1]; rfl
 have gp : st1.get st.next = some (.row [.ptr id 0]) := by rw [hst1, St.get_new, if_neg (by simp), St.get_new, if_pos rfl]
 have gd : st1.get (st.next + 1) = some (.row [.int .i64 deep]) := by rw [hst1, St.get_new, if_pos (by simp)]
 have g1 := k1.get hlt hg
 have l1 : loadA false 1 st1 (.ptr id 0) = some (.int .i64 left) := ld0 g1
 have s1 := stb1 (k := .i64) (v := sw left 1) g1
 obtain ⟨st2, hst2⟩ : ∃ st2, st2 = st1.put id (.row [.int .i64 (sw left 1)]) := ⟨_, rfl⟩
 rw [<- hst2] at s1
 have k12 : Keep1 id st1 st2 := by rw [hst2]; exact Keep1.put _ _ _
 have n2 : st2.next = st.next + 1 + 1 := by rw [hst2]; exact n1
 have g2 : st2.get id = some (.row [.int .i64 (sw left 1)]) := by rw [hst2, St.get_put, if_pos rfl]
 have gp2 : st2.get st.next = some (.row [.ptr id 0]) := (k12.2 _ (by omega) (by omega)).trans gp
 have gd2 : st2.get (st.next + 1) = some (.row [.int .i64 deep]) := (k12.2 _ (by omega) (by omega)).trans gd
 have k02 : Keep1 id st st2 := (Keep1.of k1).trans k12
 have sm2 : Same F st st2 := Same.of1 k02 hF hid
 have hF2 : ∀ i, F i -> i < st2.next := fun i hi => Nat.lt_of_lt_of_le (hF i hi) k02.1
 -- the values
 obtain ⟨b, st3, cv, hb⟩ := contains_run (n := m + 3) (Y := Y) (q := 109) (caps := []) (Inv := fun k s => Keeps st2 s /\ (vs.drop k).all gr = vs.all gr) (Fin := fun s => Keeps st2 s /\ vs.all gr = false) (.inl ⟨rfl, rfl⟩) hsv
  (fun k s h => sm2.trans (Same.of h.1 hF2)) (fun k x s hx ⟨hk, hq⟩ => by
   have hkl : k < vs.length := by have := (List.getElem?_eq_some_iff.1 hx).1; omega
   obtain ⟨t, ht, hdr⟩ := drop_at hkl
   obtain ⟨x', hx', hrx⟩ := hrv.at ht
   rw [hx] at hx'; injection hx' with hx'; subst hx'
   have hfz := Tm.fzL_mem (List.mem_of_getElem? ht)
   have hFs : ∀ i, F i -> i < s.next := fun i hi => Nat.lt_of_lt_of_le (hF2 i hi) hk.1
   obtain ⟨s', hcall, hk'⟩ := ground_run t (m + 2) Y F s x (hrx.mono (sm2.trans (Same.of hk hF2)) fun _ h => h) hFs (by omega)
   have hcall' : ((gT (m + 2)).cg Y).fn 110 [.agg x] s = .ret (.bool (gr t)) s' := hcall
   refine ⟨!gr t, s', ?_, fun h => ⟨hk.trans hk', ?_⟩, fun h => ⟨hk.trans hk', ?_⟩⟩
   ·obtain ⟨a, b, c, rfl⟩ : ∃ a b c, x = [a, b, c] := by
     match x, hrx.cells3.1 with
     | [a, b, c], _ => exact ⟨a, b, c, rfl⟩
    refine fun_of (mf := kf109) (fr := ?c0) t109 rfl (.inl ?c1) ?c2 ?c3
    case c1 =>
     simp only [amE, reduceEqDiff, ↓reduceIte, reduceCtorEq, reduceAdd, kf109, ld3f, hcall', unN]
     rfl
    case c2 => rfl
    case c3 => simp only [kf109, amE, Fr.get_set, ↓reduceIte]
   ·have h' : gr t = false := by simpa using h
    rw [<- hq, hdr, List.all_cons, h', Bool.false_and]
   ·have h' : gr t = true := by simpa using h
    rw [<- hq, hdr, List.all_cons, h', Bool.true_and]) st2 ⟨Keeps.refl st2, rfl⟩ (by omega)
 have cv' : ((gT (m + 5)).cg Y).fn 108 [sv, .func (.func 109) [] []] st2 = .ret (.bool b) st3 := cv
 have hbs : (!vs.all gr) = b /\ Keeps st2 st3 := by
  rcases hb with ⟨rfl, h1, h2⟩ | ⟨rfl, h1, h2⟩
  ·rw [hxv, List.drop_length, List.all_nil] at h2
   exact ⟨by rw [<- h2]; rfl, h1⟩
  ·exact ⟨by rw [h2]; rfl, h1⟩
 obtain ⟨hbs, k23⟩ := hbs
 have k03 : Keep1 id st st3 := k02.trans (Keep1.of k23)
 have g3 : st3.get id = some (.row [.int .i64 (sw left 1)]) := k23.get (Nat.lt_of_lt_of_le hlt k02.1) g2
 have n3 : st.next + 2 <= st3.next := by have := k23.1; omega
 have gp3 := k23.get (i := st.next) (by omega) gp2
 have gd3 := k23.get (i := st.next + 1) (by omega) gd2
 have sm3 : Same F st st3 := Same.of1 k03 hF hid
 have hF3 : ∀ i, F i -> i < st3.next := fun i hi => Nat.lt_of_lt_of_le (hF i hi) k03.1
 -- the elements
 obtain ⟨e, st4, cl, he⟩ := contains_run (n := m + 3) (Y := Y) (q := 112) (caps := [.ptr st.next 0, .ptr (st.next + 1) 0])
  (Inv := fun k s => Keep1 id st3 s /\ ∃ lf, s.get id = some (.row [.int .i64 lf]) /\ shDL (l.drop k) lf deep = shDL l (sw left 1) deep)
  (Fin := fun s => Keep1 id st3 s /\ s.get id = some (.row [.int .i64 (shDL l (sw left 1) deep).2]) /\ (shDL l (sw left 1) deep).1 = false) (.inr ⟨rfl, rfl⟩) hsl
  (fun k s h => sm3.trans (Same.of1 h.1 hF3 hid)) (fun k x s hx ⟨hk, lf, hgl, hq⟩ => by
   have hkl : k < l.length := by have := (List.getElem?_eq_some_iff.1 hx).1; omega
   obtain ⟨t, ht, hdr⟩ := drop_at hkl
   obtain ⟨x', hx', hrx⟩ := hrl.at ht
   rw [hx] at hx'; injection hx' with hx'; subst hx'
   have hfz := Dv.fzL_mem (List.mem_of_getElem? ht)
   have hFs : ∀ i, F i -> i < s.next := fun i hi => Nat.lt_of_lt_of_le (hF3 i hi) hk.1
   have gps : s.get st.next = some (.row [.ptr id 0]) := (hk.2 _ (by omega) (by omega)).trans gp3
   have gds : s.get (st.next + 1) = some (.row [.int .i64 deep]) := (hk.2 _ (by omega) (by omega)).trans gd3
   obtain ⟨s', hcall, hk', hg'⟩ := ih t.fz (by omega) t rfl (m + 2) Y F s id lf (aw deep 1) x (hrx.mono (sm3.trans (Same.of1 hk hF3 hid)) fun _ h => h) hFs hid (Nat.lt_of_lt_of_le hlt (Nat.le_trans k03.1 hk.1)) hgl (by omega)
   have hcall' : ((gT (m + 2)).cg Y).fn 70 [.agg x, .ptr id 0, .int .i64 (aw deep 1)] s = .ret (.bool (shD t lf (aw deep 1)).1) s' := hcall
   have lp := ld0 gps
   have lq := ld0 gds
   have ad : binB false .add (.int .i64 deep) (.int .i64 (.ofNat 1)) = some (.int .i64 (aw deep 1)) := rfl
   rw [hdr, shDL_cons] at hq
   refine ⟨!(shD t lf (aw deep 1)).1, s', ?_, fun h => ⟨hk.trans hk', ?_⟩, fun h => ⟨hk.trans hk', _, hg', ?_⟩⟩
   ·obtain ⟨a, b, c, rfl⟩ : ∃ a b c, x = [a, b, c] := by
     match x, hrx.cells3.1 with
     | [a, b, c], _ => exact ⟨a, b, c, rfl⟩
    refine fun_of (mf := kf112) (fr := ?e0) t112 rfl (.inl ?e1) ?e2 ?e3
    case e1 =>
     simp only [amE, reduceEqDiff, ↓reduceIte, reduceCtorEq, reduceAdd, kf112, ld3f, lp, lq, ad, hcall', unN]
     rfl
    case e2 => rfl
    case e3 => simp only [kf112, amE, Fr.get_set, ↓reduceIte]
   ·have h' : (shD t lf (aw deep 1)).1 = false := by simpa using h
    rw [if_neg (by rw [h']; decide)] at hq
    rw [<- hq]
    exact ⟨hg', rfl⟩
   ·have h' : (shD t lf (aw deep 1)).1 = true := by simpa using h
    rw [if_pos h'] at hq
    exact hq) st3 ⟨Keep1.refl id st3, _, g3, rfl⟩ (by omega)
 have cl' : ((gT (m + 5)).cg Y).fn 111 [sl, .func (.func 112) [] [.ptr st.next 0, .ptr (st.next + 1) 0]] st3 = .ret (.bool e) st4 := cl
 have hes : (!e) = (shDL l (sw left 1) deep).1 /\ Keep1 id st3 st4 /\ st4.get id = some (.row [.int .i64 (shDL l (sw left 1) deep).2]) := by
  rcases he with ⟨rfl, h1, lf, h2, h3⟩ | ⟨rfl, h1, h2, h3⟩
  ·rw [hxl, List.drop_length, shDL_nil] at h3
   rw [<- h3]; exact ⟨rfl, h1, h2⟩
  ·rw [h3]; exact ⟨rfl, h1, h2⟩
 obtain ⟨hes, k34, g4⟩ := hes
 have car : ∀ s, ((gT (m + 5)).cg Y).fn 107 [.int .i64 r] s = .ret (.tuple [.int .i64 (.ofNat (arN r)), .int .i64 (.ofNat (vaN r))]) s := fun s => arity_run (m + 4) Y r s
 have nc : ∀ x, nilchkA (.ptr id x) = some (.ptr id x) := fun _ => rfl
 have su : binB false .sub (.int .i64 left) (.int .i64 (.ofNat 1)) = some (.int .i64 (sw left 1)) := rfl
 have ex0 : extractA 0 (.tuple [.int .i64 (.ofNat (arN r)), .int .i64 (.ofNat (vaN r))]) = some (.int .i64 (.ofNat (arN r))) := rfl
 have ex1 : extractA 1 (.tuple [.int .i64 (.ofNat (arN r)), .int .i64 (.ofNat (vaN r))]) = some (.int .i64 (.ofNat (vaN r))) := rfl
 have lpq : loadA false 1 st1 (.ptr st.next 0) = some (.ptr id 0) := ld0 gp
 have lpq2 : loadA false 1 st2 (.ptr st.next 0) = some (.ptr id 0) := ld0 gp2
 have ldq2 : loadA false 1 st2 (.ptr (st.next + 1) 0) = some (.int .i64 deep) := ld0 gd2
 have l2 : loadA false 1 st2 (.ptr id 0) = some (.int .i64 (sw left 1)) := ld0 g2
 have lenl := hsl.len st2
 have lenv := hsv.len st2
 have e1 : binB false .lss (.int .i64 (sw left 1)) (.int .i64 (.ofNat 0)) = some (.bool (decide (sw left 1 < 0))) := rfl
 have e2 : binB false .gtr (.int .i64 deep) (.int .i64 (.ofNat 400)) = some (.bool (decide (deep > 400))) := rfl
 have e3 : binB false .lss (.int .i64 r) (.int .i64 (.ofNat 1)) = some (.bool (decide (r < 1))) := rfl
 have e4 : binB false .gtr (.int .i64 r) (.int .i64 (.ofNat 19)) = some (.bool (decide (r > 19))) := rfl
 have e5 : binB false .neq (.int .i64 (.ofNat xs.length)) (.int .i64 (.ofNat (arN r))) = some (.bool (Int.ofNat l.length != Int.ofNat (arN r))) := by rw [hxl]; rfl
 have e6 : binB false .gtr (.int .i64 (.ofNat xv.length)) (.int .i64 (.ofNat (vaN r))) = some (.bool (decide (Int.ofNat vs.length > Int.ofNat (vaN r)))) := by rw [hxv]; rfl
 rw [shD_eq]
 have hbad : badD r left deep l.length vs.length (vs.all gr) = (decide (sw left 1 < 0) || (decide (deep > 400) || (decide (r < 1) || (decide (r > 19) || ((Int.ofNat l.length != Int.ofNat (arN r)) || (decide (Int.ofNat vs.length > Int.ofNat (vaN r)) || !vs.all gr)))))) := rfl
 rw [hbad, hbs]
 generalize decide (sw left 1 < 0) = B1 at *
 generalize decide (deep > 400) = B2 at *
 generalize decide (r < 1) = B3 at *
 generalize decide (r > 19) = B4 at *
 generalize (Int.ofNat l.length != Int.ofNat (arN r)) = B5 at *
 generalize decide (Int.ofNat vs.length > Int.ofNat (vaN r)) = B6 at *
 obtain ⟨fA1, hA1⟩ : ∃ fA, fA = frOf 0 [.agg [.int .i64 r, sv, sl], .ptr id 0, .int .i64 deep] Fr.nil := ⟨_, rfl⟩
 have gA1_0 : fA1.get 0 = some (.agg [.int .i64 r, sv, sl]) := by rw [hA1]; simp only [frOf, Fr.get_set, reduceAdd, reduceEqDiff, ↓reduceIte]
 have gA1_1 : fA1.get 1 = some (.ptr id 0) := by rw [hA1]; simp only [frOf, Fr.get_set, reduceAdd, reduceEqDiff, ↓reduceIte]
 have gA1_2 : fA1.get 2 = some (.int .i64 deep) := by rw [hA1]; simp only [frOf, Fr.get_set, reduceAdd, reduceEqDiff, ↓reduceIte]
 have dA1 : fA1.ds = [] := by rw [hA1]; rfl
 obtain ⟨fR2, hR2, kR2, oR2_3, oR2_4, oR2_5⟩ : ∃ fr', arun ((gT (m + 5)).cg Y) g70_0 fA1 st = .ok fr' st1 /\ Kp [] fA1 fr' /\ fr'.get 3 = some (.fptr [.int .i64 r, sv, sl] 0) /\ fr'.get 4 = some (.ptr st.next 0) /\ fr'.get 5 = some (.ptr (st.next + 1) 0) := ⟨_, by simp only [amE, reduceEqDiff, ↓reduceIte, reduceCtorEq, reduceAdd, gA1_0, gA1_1, gA1_2, g70_0, <- hst1, St.next_new] <;> rfl, Kp.refl.s.s.s.s, gn (gn (gn gh)), gn (gn gh), gn gh⟩
 have dR2 := kR2.1.trans dA1
 obtain ⟨fR3, hR3, kR3⟩ : ∃ fr', arun ((gT (m + 5)).cg Y) g70_1 fR2 st1 = .ok fr' st2 /\ Kp [3, 4, 5] fR2 fr' := ⟨_, by simp only [amE, reduceEqDiff, ↓reduceIte, reduceCtorEq, reduceAdd, oR2_4, g70_1, lpq, nc, l1, su, s1] <;> rfl, Kp.refl.s.s.s.s.s⟩
 have gR3_3 := kR3.g 3 oR2_3
 have gR3_4 := kR3.g 4 oR2_4
 have gR3_5 := kR3.g 5 oR2_5
 have dR3 := kR3.1.trans dR2
 obtain ⟨fR4, hR4, kR4, oR4_7, oR4_8⟩ : ∃ fr', arun ((gT (m + 5)).cg Y) g70_2 fR3 st2 = .ok fr' st2 /\ Kp [3, 4, 5] fR3 fr' /\ fr'.get 7 = some (.int .i64 (.ofNat (arN r))) /\ fr'.get 8 = some (.int .i64 (.ofNat (vaN r))) := ⟨_, by simp only [amE, reduceEqDiff, ↓reduceIte, reduceCtorEq, reduceAdd, gR3_3, g70_2, faf, ld0f, ld1f, ld2f, car, ex0, ex1] <;> rfl, Kp.refl.s.s.s.s.s.s.s.s, gn gh, gh⟩
 have gR4_3 := kR4.g 3 gR3_3
 have gR4_4 := kR4.g 4 gR3_4
 have gR4_5 := kR4.g 5 gR3_5
 have dR4 := kR4.1.trans dR3
 cases B1 with
 | true =>
  obtain ⟨fR5, hR5, kR5, oR5_56⟩ : ∃ fr', arun ((gT (m + 5)).cg Y) g70_3 fR4 st2 = .ok fr' st2 /\ Kp [3, 4, 5] fR4 fr' /\ fr'.get 56 = some (.bool true) := ⟨_, by simp only [amE, reduceEqDiff, ↓reduceIte, reduceCtorEq, reduceAdd, gR4_3, gR4_4, gR4_5, oR4_7, oR4_8, g70_3, lpq2, nc, l2, ldq2, faf, ld0f, ld1f, ld2f, lenl, lenv, e1, e2, e3, e4, e5, e6, cv', Bool.not_true, Bool.not_false] <;> rfl, Kp.refl.s.s.s.s.s.s.s.s.s.s.s.s.s.s.s.s.s.s.s.s.s.s.s.s.s.s.s.s.s.s.s.s.s.s.s.s.s, gh⟩
  have dR5 := kR5.1.trans dR4
  obtain ⟨fR6, hR6, kR6, oR6_6⟩ : ∃ fr', arun ((gT (m + 5)).cg Y) g70_4 fR5 st2 = .ok fr' st2 /\ Kp [] fR5 fr' /\ fr'.get 6 = some (.bool false) := ⟨_, by simp only [amE, reduceEqDiff, ↓reduceIte, reduceCtorEq, reduceAdd, g70_4] <;> rfl, Kp.refl.s, gh⟩
  have dR6 := kR6.1.trans dR5
  refine ⟨st2, ?p6, k02, ?o6⟩
  case p6 =>
   rw [if_pos (by simp)]
   refine fun_of (mf := kf70) (fr := fR6) t70 rfl (.inl ?q6) dR6 (by simp only [kf70, amE, oR6_6])
   case q6 =>
    rw [<- hA1]
    simp only [amE, reduceEqDiff, ↓reduceIte, reduceCtorEq, reduceAdd, kf70, hR2, hR3, hR4, hR5, hR6, oR5_56]
  case o6 => rw [if_pos (by simp)]; exact g2
 | false =>
  cases B2 with
  | true =>
   obtain ⟨fR7, hR7, kR7, oR7_56⟩ : ∃ fr', arun ((gT (m + 5)).cg Y) g70_3 fR4 st2 = .ok fr' st2 /\ Kp [3, 4, 5] fR4 fr' /\ fr'.get 56 = some (.bool true) := ⟨_, by simp only [amE, reduceEqDiff, ↓reduceIte, reduceCtorEq, reduceAdd, gR4_3, gR4_4, gR4_5, oR4_7, oR4_8, g70_3, lpq2, nc, l2, ldq2, faf, ld0f, ld1f, ld2f, lenl, lenv, e1, e2, e3, e4, e5, e6, cv', Bool.not_true, Bool.not_false] <;> rfl, Kp.refl.s.s.s.s.s.s.s.s.s.s.s.s.s.s.s.s.s.s.s.s.s.s.s.s.s.s.s.s.s.s.s.s.s.s.s.s.s, gh⟩
   have dR7 := kR7.1.trans dR4
   obtain ⟨fR8, hR8, kR8, oR8_6⟩ : ∃ fr', arun ((gT (m + 5)).cg Y) g70_4 fR7 st2 = .ok fr' st2 /\ Kp [] fR7 fr' /\ fr'.get 6 = some (.bool false) := ⟨_, by simp only [amE, reduceEqDiff, ↓reduceIte, reduceCtorEq, reduceAdd, g70_4] <;> rfl, Kp.refl.s, gh⟩
   have dR8 := kR8.1.trans dR7
   refine ⟨st2, ?p8, k02, ?o8⟩
   case p8 =>
    rw [if_pos (by simp)]
    refine fun_of (mf := kf70) (fr := fR8) t70 rfl (.inl ?q8) dR8 (by simp only [kf70, amE, oR8_6])
    case q8 =>
     rw [<- hA1]
     simp only [amE, reduceEqDiff, ↓reduceIte, reduceCtorEq, reduceAdd, kf70, hR2, hR3, hR4, hR7, hR8, oR7_56]
   case o8 => rw [if_pos (by simp)]; exact g2
  | false =>
   cases B3 with
   | true =>
    obtain ⟨fR9, hR9, kR9, oR9_56⟩ : ∃ fr', arun ((gT (m + 5)).cg Y) g70_3 fR4 st2 = .ok fr' st2 /\ Kp [3, 4, 5] fR4 fr' /\ fr'.get 56 = some (.bool true) := ⟨_, by simp only [amE, reduceEqDiff, ↓reduceIte, reduceCtorEq, reduceAdd, gR4_3, gR4_4, gR4_5, oR4_7, oR4_8, g70_3, lpq2, nc, l2, ldq2, faf, ld0f, ld1f, ld2f, lenl, lenv, e1, e2, e3, e4, e5, e6, cv', Bool.not_true, Bool.not_false] <;> rfl, Kp.refl.s.s.s.s.s.s.s.s.s.s.s.s.s.s.s.s.s.s.s.s.s.s.s.s.s.s.s.s.s.s.s.s.s.s.s.s.s, gh⟩
    have dR9 := kR9.1.trans dR4
    obtain ⟨fR10, hR10, kR10, oR10_6⟩ : ∃ fr', arun ((gT (m + 5)).cg Y) g70_4 fR9 st2 = .ok fr' st2 /\ Kp [] fR9 fr' /\ fr'.get 6 = some (.bool false) := ⟨_, by simp only [amE, reduceEqDiff, ↓reduceIte, reduceCtorEq, reduceAdd, g70_4] <;> rfl, Kp.refl.s, gh⟩
    have dR10 := kR10.1.trans dR9
    refine ⟨st2, ?p10, k02, ?o10⟩
    case p10 =>
     rw [if_pos (by simp)]
     refine fun_of (mf := kf70) (fr := fR10) t70 rfl (.inl ?q10) dR10 (by simp only [kf70, amE, oR10_6])
     case q10 =>
      rw [<- hA1]
      simp only [amE, reduceEqDiff, ↓reduceIte, reduceCtorEq, reduceAdd, kf70, hR2, hR3, hR4, hR9, hR10, oR9_56]
    case o10 => rw [if_pos (by simp)]; exact g2
   | false =>
    cases B4 with
    | true =>
     obtain ⟨fR11, hR11, kR11, oR11_56⟩ : ∃ fr', arun ((gT (m + 5)).cg Y) g70_3 fR4 st2 = .ok fr' st2 /\ Kp [3, 4, 5] fR4 fr' /\ fr'.get 56 = some (.bool true) := ⟨_, by simp only [amE, reduceEqDiff, ↓reduceIte, reduceCtorEq, reduceAdd, gR4_3, gR4_4, gR4_5, oR4_7, oR4_8, g70_3, lpq2, nc, l2, ldq2, faf, ld0f, ld1f, ld2f, lenl, lenv, e1, e2, e3, e4, e5, e6, cv', Bool.not_true, Bool.not_false] <;> rfl, Kp.refl.s.s.s.s.s.s.s.s.s.s.s.s.s.s.s.s.s.s.s.s.s.s.s.s.s.s.s.s.s.s.s.s.s.s.s.s.s, gh⟩
     have dR11 := kR11.1.trans dR4
     obtain ⟨fR12, hR12, kR12, oR12_6⟩ : ∃ fr', arun ((gT (m + 5)).cg Y) g70_4 fR11 st2 = .ok fr' st2 /\ Kp [] fR11 fr' /\ fr'.get 6 = some (.bool false) := ⟨_, by simp only [amE, reduceEqDiff, ↓reduceIte, reduceCtorEq, reduceAdd, g70_4] <;> rfl, Kp.refl.s, gh⟩
     have dR12 := kR12.1.trans dR11
     refine ⟨st2, ?p12, k02, ?o12⟩
     case p12 =>
      rw [if_pos (by simp)]
      refine fun_of (mf := kf70) (fr := fR12) t70 rfl (.inl ?q12) dR12 (by simp only [kf70, amE, oR12_6])
      case q12 =>
       rw [<- hA1]
       simp only [amE, reduceEqDiff, ↓reduceIte, reduceCtorEq, reduceAdd, kf70, hR2, hR3, hR4, hR11, hR12, oR11_56]
     case o12 => rw [if_pos (by simp)]; exact g2
    | false =>
     cases B5 with
     | true =>
      obtain ⟨fR13, hR13, kR13, oR13_56⟩ : ∃ fr', arun ((gT (m + 5)).cg Y) g70_3 fR4 st2 = .ok fr' st2 /\ Kp [3, 4, 5] fR4 fr' /\ fr'.get 56 = some (.bool true) := ⟨_, by simp only [amE, reduceEqDiff, ↓reduceIte, reduceCtorEq, reduceAdd, gR4_3, gR4_4, gR4_5, oR4_7, oR4_8, g70_3, lpq2, nc, l2, ldq2, faf, ld0f, ld1f, ld2f, lenl, lenv, e1, e2, e3, e4, e5, e6, cv', Bool.not_true, Bool.not_false] <;> rfl, Kp.refl.s.s.s.s.s.s.s.s.s.s.s.s.s.s.s.s.s.s.s.s.s.s.s.s.s.s.s.s.s.s.s.s.s.s.s.s.s, gh⟩
      have dR13 := kR13.1.trans dR4
      obtain ⟨fR14, hR14, kR14, oR14_6⟩ : ∃ fr', arun ((gT (m + 5)).cg Y) g70_4 fR13 st2 = .ok fr' st2 /\ Kp [] fR13 fr' /\ fr'.get 6 = some (.bool false) := ⟨_, by simp only [amE, reduceEqDiff, ↓reduceIte, reduceCtorEq, reduceAdd, g70_4] <;> rfl, Kp.refl.s, gh⟩
      have dR14 := kR14.1.trans dR13
      refine ⟨st2, ?p14, k02, ?o14⟩
      case p14 =>
       rw [if_pos (by simp)]
       refine fun_of (mf := kf70) (fr := fR14) t70 rfl (.inl ?q14) dR14 (by simp only [kf70, amE, oR14_6])
       case q14 =>
        rw [<- hA1]
        simp only [amE, reduceEqDiff, ↓reduceIte, reduceCtorEq, reduceAdd, kf70, hR2, hR3, hR4, hR13, hR14, oR13_56]
      case o14 => rw [if_pos (by simp)]; exact g2
     | false =>
      cases B6 with
      | true =>
       obtain ⟨fR15, hR15, kR15, oR15_56⟩ : ∃ fr', arun ((gT (m + 5)).cg Y) g70_3 fR4 st2 = .ok fr' st2 /\ Kp [3, 4, 5] fR4 fr' /\ fr'.get 56 = some (.bool true) := ⟨_, by simp only [amE, reduceEqDiff, ↓reduceIte, reduceCtorEq, reduceAdd, gR4_3, gR4_4, gR4_5, oR4_7, oR4_8, g70_3, lpq2, nc, l2, ldq2, faf, ld0f, ld1f, ld2f, lenl, lenv, e1, e2, e3, e4, e5, e6, cv', Bool.not_true, Bool.not_false] <;> rfl, Kp.refl.s.s.s.s.s.s.s.s.s.s.s.s.s.s.s.s.s.s.s.s.s.s.s.s.s.s.s.s.s.s.s.s.s.s.s.s.s, gh⟩
       have dR15 := kR15.1.trans dR4
       obtain ⟨fR16, hR16, kR16, oR16_6⟩ : ∃ fr', arun ((gT (m + 5)).cg Y) g70_4 fR15 st2 = .ok fr' st2 /\ Kp [] fR15 fr' /\ fr'.get 6 = some (.bool false) := ⟨_, by simp only [amE, reduceEqDiff, ↓reduceIte, reduceCtorEq, reduceAdd, g70_4] <;> rfl, Kp.refl.s, gh⟩
       have dR16 := kR16.1.trans dR15
       refine ⟨st2, ?p16, k02, ?o16⟩
       case p16 =>
        rw [if_pos (by simp)]
        refine fun_of (mf := kf70) (fr := fR16) t70 rfl (.inl ?q16) dR16 (by simp only [kf70, amE, oR16_6])
        case q16 =>
         rw [<- hA1]
         simp only [amE, reduceEqDiff, ↓reduceIte, reduceCtorEq, reduceAdd, kf70, hR2, hR3, hR4, hR15, hR16, oR15_56]
       case o16 => rw [if_pos (by simp)]; exact g2
      | false =>
       cases b with
       | true =>
        obtain ⟨fR17, hR17, kR17, oR17_56⟩ : ∃ fr', arun ((gT (m + 5)).cg Y) g70_3 fR4 st2 = .ok fr' st3 /\ Kp [3, 4, 5] fR4 fr' /\ fr'.get 56 = some (.bool true) := ⟨_, by simp only [amE, reduceEqDiff, ↓reduceIte, reduceCtorEq, reduceAdd, gR4_3, gR4_4, gR4_5, oR4_7, oR4_8, g70_3, lpq2, nc, l2, ldq2, faf, ld0f, ld1f, ld2f, lenl, lenv, e1, e2, e3, e4, e5, e6, cv', Bool.not_true, Bool.not_false] <;> rfl, Kp.refl.s.s.s.s.s.s.s.s.s.s.s.s.s.s.s.s.s.s.s.s.s.s.s.s.s.s.s.s.s.s.s.s.s.s.s.s.s, gh⟩
        have dR17 := kR17.1.trans dR4
        obtain ⟨fR18, hR18, kR18, oR18_6⟩ : ∃ fr', arun ((gT (m + 5)).cg Y) g70_4 fR17 st3 = .ok fr' st3 /\ Kp [] fR17 fr' /\ fr'.get 6 = some (.bool false) := ⟨_, by simp only [amE, reduceEqDiff, ↓reduceIte, reduceCtorEq, reduceAdd, g70_4] <;> rfl, Kp.refl.s, gh⟩
        have dR18 := kR18.1.trans dR17
        refine ⟨st3, ?p18, k03, ?o18⟩
        case p18 =>
         rw [if_pos (by simp)]
         refine fun_of (mf := kf70) (fr := fR18) t70 rfl (.inl ?q18) dR18 (by simp only [kf70, amE, oR18_6])
         case q18 =>
          rw [<- hA1]
          simp only [amE, reduceEqDiff, ↓reduceIte, reduceCtorEq, reduceAdd, kf70, hR2, hR3, hR4, hR17, hR18, oR17_56]
        case o18 => rw [if_pos (by simp)]; exact g3
       | false =>
        obtain ⟨fR19, hR19, kR19, oR19_56⟩ : ∃ fr', arun ((gT (m + 5)).cg Y) g70_3 fR4 st2 = .ok fr' st3 /\ Kp [3, 4, 5] fR4 fr' /\ fr'.get 56 = some (.bool false) := ⟨_, by simp only [amE, reduceEqDiff, ↓reduceIte, reduceCtorEq, reduceAdd, gR4_3, gR4_4, gR4_5, oR4_7, oR4_8, g70_3, lpq2, nc, l2, ldq2, faf, ld0f, ld1f, ld2f, lenl, lenv, e1, e2, e3, e4, e5, e6, cv', Bool.not_true, Bool.not_false] <;> rfl, Kp.refl.s.s.s.s.s.s.s.s.s.s.s.s.s.s.s.s.s.s.s.s.s.s.s.s.s.s.s.s.s.s.s.s.s.s.s.s.s, gh⟩
        have gR19_3 := kR19.g 3 gR4_3
        have gR19_4 := kR19.g 4 gR4_4
        have gR19_5 := kR19.g 5 gR4_5
        have dR19 := kR19.1.trans dR4
        obtain ⟨fR20, hR20, kR20, oR20_6⟩ : ∃ fr', arun ((gT (m + 5)).cg Y) g70_5 fR19 st3 = .ok fr' st4 /\ Kp [] fR19 fr' /\ fr'.get 6 = some (.bool (!e)) := ⟨_, by simp only [amE, reduceEqDiff, ↓reduceIte, reduceCtorEq, reduceAdd, gR19_3, gR19_4, gR19_5, g70_5, nd_mkfn, faf, ld0f, ld1f, ld2f, cl', unN, Bool.not_true, Bool.not_false] <;> rfl, Kp.refl.s.s.s.s.s.s, gh⟩
        have dR20 := kR20.1.trans dR19
        refine ⟨st4, ?p20, k03.trans k34, ?o20⟩
        case p20 =>
         rw [if_neg (by simp), <- hes]
         refine fun_of (mf := kf70) (fr := fR20) t70 rfl (.inl ?q20) dR20 (by simp only [kf70, amE, oR20_6])
         case q20 =>
          rw [<- hA1]
          simp only [amE, reduceEqDiff, ↓reduceIte, reduceCtorEq, reduceAdd, kf70, hR2, hR3, hR4, hR19, hR20, oR19_56]
        case o20 => rw [if_neg (by simp)]; exact g4
theorem isDeriv_run (d : Dv) (n : Nat) (Y : Yenv) (F : Nat -> Prop) (st : St) (cs : List AV) (hr : RepD F st d cs) (hF : ∀ i, F i -> i < st.next) (hn : d.fz < n) :
  ∃ st', R n Y 41 [.agg cs] st = .ret (.bool (isDv d)) st' /\ Keeps st st' := by
 obtain ⟨m, rfl⟩ : ∃ m, n = m + 1 := ⟨n - 1, by omega⟩
 have hc3 := hr.cells3
 have k1 : Keeps st ((st.new (.row [.int .i64 (.ofNat 0)])).put st.next (.row [.int .i64 (.ofNat 4000)])) := (Keeps.refl st).newput _ _
 have g1 : ((st.new (.row [.int .i64 (.ofNat 0)])).put st.next (.row [.int .i64 (.ofNat 4000)])).get st.next = some (.row [.int .i64 (.ofNat 4000)]) := by rw [St.get_put, if_pos rfl]
 have so := stb1 (st := st.new (.row [.int .i64 (.ofNat 0)])) (id := st.next) (x := .int .i64 (.ofNat 0)) (k := .i64) (v := .ofNat 4000) (by rw [St.get_new, if_pos rfl])
 have n1 : ((st.new (.row [.int .i64 (.ofNat 0)])).put st.next (.row [.int .i64 (.ofNat 4000)])).next = st.next + 1 := rfl
 generalize (st.new (.row [.int .i64 (.ofNat 0)])).put st.next (.row [.int .i64 (.ofNat 4000)]) = st1 at *
 have hid : ¬ F st.next := fun h => Nat.lt_irrefl _ (hF _ h)
 obtain ⟨st2, c1, k2, _⟩ := shaped_run d m Y F st1 st.next (.ofNat 4000) (.ofNat 1) cs (hr.mono (Same.of k1 hF) fun _ h => h) (fun i hi => Nat.lt_of_lt_of_le (hF i hi) k1.1) hid (by omega) g1 (by omega)
 have c1' : ((gT m).cg Y).fn 70 [.agg cs, .ptr st.next 0, .int .i64 (.ofNat 1)] st1 = .ret (.bool (isDv d)) st2 := c1
 obtain ⟨a, b, c, rfl⟩ : ∃ a b c, cs = [a, b, c] := by
  match cs, hc3.1 with
  | [a, b, c], _ => exact ⟨a, b, c, rfl⟩
 obtain ⟨fA21, hA21⟩ : ∃ fA, fA = frOf 0 [.agg [a, b, c]] Fr.nil := ⟨_, rfl⟩
 have gA21_0 : fA21.get 0 = some (.agg [a, b, c]) := by rw [hA21]; simp only [frOf, Fr.get_set, reduceAdd, reduceEqDiff, ↓reduceIte]
 have dA21 : fA21.ds = [] := by rw [hA21]; rfl
 obtain ⟨fR22, hR22, kR22, oR22_1⟩ : ∃ fr', arun ((gT m).cg Y) [⟨(some 1), .box true (.t 0), none⟩, ⟨(some 2), .mv (.c (.bool false)), none⟩] fA21 st = .ok fr' st /\ Kp [] fA21 fr' /\ fr'.get 1 = some (.fptr [a, b, c] 0) := ⟨_, by simp only [amE, reduceEqDiff, ↓reduceIte, reduceCtorEq, reduceAdd, gA21_0] <;> rfl, Kp.refl.s.s, gn gh⟩
 have dR22 := kR22.1.trans dA21
 obtain ⟨fR23, hR23, kR23, oR23_3⟩ : ∃ fr', arun ((gT m).cg Y) [⟨(some 3), .alloc [(.int .i64 (.ofNat 0))], none⟩, ⟨none, .store 1 (.t 3) (.c (.int .i64 (.ofNat 4000))), none⟩] fR22 st = .ok fr' st1 /\ Kp [1] fR22 fr' /\ fr'.get 3 = some (.ptr st.next 0) := ⟨_, by simp only [amE, reduceEqDiff, ↓reduceIte, reduceCtorEq, reduceAdd, so] <;> rfl, Kp.refl.s, gh⟩
 have gR23_1 := kR23.g 1 oR22_1
 have dR23 := kR23.1.trans dR22
 obtain ⟨fR24, hR24, kR24, oR24_2⟩ : ∃ fr', arun ((gT m).cg Y) g41_2 fR23 st1 = .ok fr' st2 /\ Kp [] fR23 fr' /\ fr'.get 2 = some (.bool (isDv d)) := ⟨_, by simp only [amE, reduceEqDiff, ↓reduceIte, reduceCtorEq, reduceAdd, gR23_1, oR23_3, g41_2, ld3f, c1'] <;> rfl, Kp.refl.s.s.s, gh⟩
 have dR24 := kR24.1.trans dR23
 refine ⟨st2, fun_of (mf := kf41) (fr := fR24) t41 rfl (.inl ?q24) dR24 (by simp only [kf41, amE, oR24_2]), k1.then1 k2 (Nat.le_refl _)⟩
 case q24 =>
  rw [<- hA21]
  simp only [amE, reduceEqDiff, ↓reduceIte, reduceCtorEq, reduceAdd, kf41, hR22, hR23, hR24]
end
end Go.AM.D16
