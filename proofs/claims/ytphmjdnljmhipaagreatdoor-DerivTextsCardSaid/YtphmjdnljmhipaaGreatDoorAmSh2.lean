import Derived.Test.YtphmjdnljmhipaaGreatDoorAmSh1
set_option linter.unusedSimpArgs false
set_option linter.unusedVariables false
set_option maxRecDepth 100000
namespace Go.AM.D16
open Go Go.AM
noncomputable section
open Nat (reduceEqDiff reduceAdd)
def kf163 : MFunc := ⟨15, (.seq (.region [⟨(some 2), .mv (.c (.bool false)), none⟩])
 (.seq (.region [⟨(some 3), .mv (.t 0), none⟩, ⟨(some 4), .nilchk (.t 3), none⟩, ⟨(some 5), .faddr 0 (.t 4), none⟩, ⟨(some 6), .load false 1 (.t 5), none⟩, ⟨(some 7), .bin false .gtr (.t 6) (.c (.int .i64 (.ofNat 2000))), none⟩, ⟨(some 8), .mv (.t 7), none⟩, ⟨(some 9), .mv (.t 0), (some (8, false))⟩, ⟨(some 10), .nilchk (.t 9), (some (8, false))⟩, ⟨(some 11), .faddr 1 (.t 10), (some (8, false))⟩, ⟨(some 12), .load false 1 (.t 11), (some (8, false))⟩, ⟨(some 13), .bin false .gtr (.t 12) (.c (.int .i64 (.ofNat 200))), (some (8, false))⟩, ⟨(some 14), .pick (.t 8) (.c (.bool true)) (.t 13), none⟩, ⟨(some 2), .mv (.t 14), none⟩])
 .ret)), [.t 2]⟩
theorem t163 : tbl 163 = some kf163 := by kernel_rfl
def g164_0 : List MOper := [⟨(some 1), .box true (.t 0), none⟩, ⟨(some 2), .mv (.c (.bool false)), none⟩]
def g164_1 : List MOper := [⟨(some 4), .faddr 1 (.t 1), none⟩, ⟨(some 5), .load false 1 (.t 4), none⟩, ⟨(some 6), .bin false .lss (.t 5) (.c (.int .i64 (.ofNat 0))), none⟩, ⟨(some 3), .mv (.t 6), none⟩]
def g164_2 : List MOper := [⟨(some 7), .faddr 0 (.t 1), none⟩, ⟨(some 8), .load false 1 (.t 7), none⟩, ⟨(some 9), .bin false .eql (.t 8) (.c (.int .i64 (.ofNat 1))), none⟩, ⟨(some 10), .mv (.t 9), none⟩, ⟨(some 11), .faddr 2 (.t 1), (some (10, true))⟩, ⟨(some 12), .load false 1 (.t 11), (some (10, true))⟩, ⟨(some 13), .len 0 (.t 12), (some (10, true))⟩, ⟨(some 14), .bin false .gtr (.t 13) (.c (.int .i64 (.ofNat 0))), (some (10, true))⟩, ⟨(some 15), .pick (.t 10) (.t 14) (.c (.bool false)), none⟩, ⟨(some 3), .mv (.t 15), none⟩]
def g164_3 : List MOper := [⟨(some 16), .faddr 0 (.t 1), none⟩, ⟨(some 17), .load false 1 (.t 16), none⟩, ⟨(some 18), .bin false .neq (.t 17) (.c (.int .i64 (.ofNat 1))), none⟩, ⟨(some 19), .mv (.t 18), none⟩, ⟨(some 20), .faddr 0 (.t 1), (some (19, true))⟩, ⟨(some 21), .load false 1 (.t 20), (some (19, true))⟩, ⟨(some 22), .bin false .neq (.t 21) (.c (.int .i64 (.ofNat 2))), (some (19, true))⟩, ⟨(some 23), .pick (.t 19) (.t 22) (.c (.bool false)), none⟩, ⟨(some 3), .mv (.t 23), none⟩]
def g164_4 : List MOper := [⟨(some 24), .faddr 2 (.t 1), none⟩, ⟨(some 25), .load false 1 (.t 24), none⟩, ⟨(some 26), .len 0 (.t 25), none⟩, ⟨(some 27), .bin false .gtr (.t 26) (.c (.int .i64 (.ofNat 8))), none⟩, ⟨(some 3), .mv (.t 27), none⟩]
def g164_5 : List MOper := [⟨(some 2), .mv (.c (.bool false)), none⟩]
def g164_6 : List MOper := [⟨(some 28), .faddr 2 (.t 1), none⟩, ⟨(some 29), .load false 1 (.t 28), none⟩, ⟨(some 30), .call (.c (.func (.func 108) [] [])) [(.t 29), (.c (.func (.func 214) [] []))], none⟩, ⟨(some 31), .un .not (.t 30), none⟩, ⟨(some 2), .mv (.t 31), none⟩]
def kf164 : MFunc := ⟨32, (.seq (.region g164_0)
 (.seq (.block 0 (.seq (.seq (.region g164_1)
 (.cond (.t 3)
 .skip
 (.seq (.region g164_2)
 (.cond (.t 3)
 .skip
 (.seq (.region g164_3)
 (.cond (.t 3)
 .skip
 (.region g164_4)))))))
 (.cond (.t 3)
 (.seq (.region g164_5)
 .ret)
 .skip)))
 (.seq (.region g164_6)
 .ret))), [.t 2]⟩
theorem t164 : tbl 164 = some kf164 := by kernel_rfl
def kf214 : MFunc := ⟨6, (.seq (.region [⟨(some 1), .box true (.t 0), none⟩, ⟨(some 2), .mv (.c (.bool false)), none⟩])
 (.seq (.region [⟨(some 3), .load true 3 (.t 1), none⟩, ⟨(some 4), .call (.c (.func (.func 164) [] [])) [(.t 3)], none⟩, ⟨(some 5), .un .not (.t 4), none⟩, ⟨(some 2), .mv (.t 5), none⟩])
 .ret)), [.t 2]⟩
theorem t214 : tbl 214 = some kf214 := by kernel_rfl
def g137_2 : List MOper := [⟨(some 4), .load true 3 (.t 1), none⟩, ⟨(some 5), .call (.c (.func (.func 162) [] [])) [(.t 3), (.t 4), (.c (.int .i64 (.ofNat 1)))], none⟩]
def g137_3 : List MOper := [⟨(some 6), .call (.c (.func (.func 163) [] [])) [(.t 3)], none⟩, ⟨(some 7), .un .not (.t 6), none⟩, ⟨(some 8), .mv (.t 7), none⟩, ⟨(some 9), .load true 3 (.t 1), (some (8, true))⟩, ⟨(some 10), .call (.c (.func (.func 164) [] [])) [(.t 9)], (some (8, true))⟩, ⟨(some 11), .pick (.t 8) (.t 10) (.c (.bool false)), none⟩, ⟨(some 2), .mv (.t 11), none⟩]
def kf137 : MFunc := ⟨12, (.seq (.region [⟨(some 1), .box true (.t 0), none⟩, ⟨(some 2), .mv (.c (.bool false)), none⟩])
 (.seq (.region [⟨(some 3), .alloc [(.int .i64 (.ofNat 0)), (.int .i64 (.ofNat 0))], none⟩])
 (.seq (.region g137_2)
 (.seq (.region g137_3)
 .ret)))), [.t 2]⟩
theorem t137 : tbl 137 = some kf137 := by kernel_rfl
def g138_0 : List MOper := [⟨(some 10), .iaddr 3 (.t 6) (.t 8), none⟩, ⟨(some 11), .load true 3 (.t 10), none⟩, ⟨(some 5), .alloc [(.int .i64 (.ofNat 0)), (.int .i64 (.ofNat 0)), .nilsl], none⟩, ⟨none, .store 3 (.t 5) (.t 11), none⟩]
def g138_1 : List MOper := [⟨(some 12), .faddr 0 (.t 5), none⟩, ⟨(some 13), .load false 1 (.t 12), none⟩, ⟨(some 14), .bin false .eql (.t 13) (.c (.int .i64 (.ofNat 1))), none⟩]
def g138_2 : List MOper := [⟨(some 15), .mv (.t 3), none⟩, ⟨(some 16), .faddr 1 (.t 5), none⟩, ⟨(some 17), .load false 1 (.t 16), none⟩, ⟨(some 18), .max (.t 15) [(.t 17)], none⟩, ⟨(some 3), .mv (.t 18), none⟩]
def g138_3 : List MOper := [⟨(some 19), .mv (.t 3), none⟩, ⟨(some 20), .faddr 2 (.t 5), none⟩, ⟨(some 21), .load false 1 (.t 20), none⟩, ⟨(some 22), .call (.c (.func (.func 138) [] [])) [(.t 21)], none⟩, ⟨(some 23), .max (.t 19) [(.t 22)], none⟩, ⟨(some 3), .mv (.t 23), none⟩]
def bf138_0 : MCode := (.seq (.region g138_0)
 (.seq (.seq (.region g138_1)
 (.cond (.t 14)
 (.region g138_2)
 .skip))
 (.region g138_3)))
def kf138 : MFunc := ⟨26, (.seq (.region [⟨(some 2), .mv (.c (.int .i64 (.ofNat 0))), none⟩])
 (.seq (.region [⟨(some 3), .mv (.c (.int .i64 (.negSucc 0))), none⟩])
 (.seq (.seq (.region [⟨(some 6), .mv (.t 0), none⟩, ⟨(some 7), .len 0 (.t 6), none⟩, ⟨(some 8), .mv (.c (.int .i64 (.ofNat 0))), none⟩])
 (.block 0 (.loop (lb 9 8 7 24 bf138_0))))
 (.seq (.region [⟨(some 25), .mv (.t 3), none⟩, ⟨(some 2), .mv (.t 25), none⟩])
 .ret)))), [.t 2]⟩
theorem t138 : tbl 138 = some kf138 := by kernel_rfl
def g110_1 : List MOper := [⟨(some 3), .load true 3 (.t 1), none⟩, ⟨(some 4), .call (.c (.func (.func 137) [] [])) [(.t 3)], none⟩, ⟨(some 5), .mv (.t 4), none⟩, ⟨(some 6), .load true 3 (.t 1), (some (5, true))⟩, ⟨(some 7), .bslice 1 [(.int .i64 (.ofNat 0)), (.int .i64 (.ofNat 0)), .nilsl] [(0, 3, (.t 6))], (some (5, true))⟩, ⟨(some 8), .call (.c (.func (.func 138) [] [])) [(.t 7)], (some (5, true))⟩, ⟨(some 9), .bin false .lss (.t 8) (.c (.int .i64 (.ofNat 0))), (some (5, true))⟩, ⟨(some 10), .pick (.t 5) (.t 9) (.c (.bool false)), none⟩, ⟨(some 2), .mv (.t 10), none⟩]
def kf110 : MFunc := ⟨11, (.seq (.region [⟨(some 1), .box true (.t 0), none⟩, ⟨(some 2), .mv (.c (.bool false)), none⟩])
 (.seq (.region g110_1)
 .ret)), [.t 2]⟩
theorem t110 : tbl 110 = some kf110 := by kernel_rfl
theorem over_run (n : Nat) (Y : Yenv) {st : St} {id : Nat} {a b : Int} (h : st.get id = some (.row [.int .i64 a, .int .i64 b])) : R (n + 1) Y 163 [.ptr id 0] st = .ret (.bool (overP (a, b))) st := by
 have nc : ∀ x, nilchkA (.ptr id x) = some (.ptr id x) := fun _ => rfl
 have fa0 : faddrA 0 (.ptr id 0) = some (.ptr id 0) := rfl
 have fa1 : faddrA 1 (.ptr id 0) = some (.ptr id 1) := rfl
 have l0 := ld0 h
 have l1 := ld1 h
 have gt : binB false .gtr (.int .i64 a) (.int .i64 (.ofNat 2000)) = some (.bool (decide (a > 2000))) := rfl
 have gt2 : binB false .gtr (.int .i64 b) (.int .i64 (.ofNat 200)) = some (.bool (decide (b > 200))) := rfl
 have ho : overP (a, b) = (decide (a > 2000) || decide (b > 200)) := rfl
 rw [ho]
 generalize decide (a > 2000) = B at *
 cases B with
 | true =>
  refine fun_of (mf := kf163) (fr := ?a0) t163 rfl (.inl ?a1) ?a2 ?a3
  case a1 =>
   simp only [amE, reduceEqDiff, ↓reduceIte, reduceCtorEq, reduceAdd, kf163, nc, fa0, l0, gt, Bool.not_true, Bool.not_false]
   rfl
  case a2 => rfl
  case a3 => simp only [kf163, amE, Fr.get_set, ↓reduceIte, Bool.true_or]
 | false =>
  refine fun_of (mf := kf163) (fr := ?b0) t163 rfl (.inl ?b1) ?b2 ?b3
  case b1 =>
   simp only [amE, reduceEqDiff, ↓reduceIte, reduceCtorEq, reduceAdd, kf163, nc, fa0, fa1, l0, l1, gt, gt2, Bool.not_true, Bool.not_false]
   rfl
  case b2 => rfl
  case b3 => simp only [kf163, amE, Fr.get_set, ↓reduceIte, Bool.false_or]
theorem ld3f (x y z : AV) (st : St) : loadA true 3 st (.fptr [x, y, z] 0) = some (.agg [x, y, z]) := rfl
theorem ld0f (x y z : AV) (st : St) : loadA false 1 st (.fptr [x, y, z] 0) = some x := rfl
theorem ld1f (x y z : AV) (st : St) : loadA false 1 st (.fptr [x, y, z] 1) = some y := rfl
theorem ld2f (x y z : AV) (st : St) : loadA false 1 st (.fptr [x, y, z] 2) = some z := rfl
theorem faf (cs : List AV) (o : Nat) : faddrA o (.fptr cs 0) = some (.fptr cs (0 + o)) := rfl
theorem unN (b : Bool) : unA .not (.bool b) = some (.bool (!b)) := rfl
theorem sigShaped (t : Tm) : ∀ (n : Nat) (Y : Yenv) (F : Nat -> Prop) (st : St) (cs : List AV), RepT F st t cs -> (∀ i, F i -> i < st.next) -> t.fz <= n ->
  ∃ st', R n Y 164 [.agg cs] st = .ret (.bool (shT t)) st' /\ Keeps st st' := by
 induction hs : t.fz using Nat.strongRecOn generalizing t with
 | _ s ih =>
 intro n Y F st cs hr hF hn
 cases t with
 | mk k0 n0 nl ex l =>
 simp only [RepT] at hr
 obtain ⟨sl, xs, rfl, hsl, hrs⟩ := hr
 simp only [Tm.fz] at hs
 obtain ⟨m, rfl⟩ : ∃ m, n = m + 5 := ⟨n - 5, by omega⟩
 have hxl := hrs.len
 have hlen := hsl.len st
 -- the list's elements
 obtain ⟨b, st', hc, hb⟩ := contains_run (n := m + 2) (Y := Y) (q := 214) (caps := []) (Inv := fun k s => Keeps st s /\ shL (l.drop k) = shL l) (Fin := fun s => Keeps st s /\ shL l = false) (.inl ⟨rfl, rfl⟩) hsl
  (fun k s h => Same.of h.1 hF) (fun k x s hx ⟨hk, hq⟩ => by
   have hkl : k < l.length := by have := (List.getElem?_eq_some_iff.1 hx).1; omega
   obtain ⟨t, ht, hdr⟩ := drop_at hkl
   obtain ⟨x', hx', hrx⟩ := hrs.at ht
   rw [hx] at hx'; injection hx' with hx'; subst hx'
   have hfz := Tm.fzL_mem (List.mem_of_getElem? ht)
   obtain ⟨s', hcall, hk'⟩ := ih t.fz (by omega) t rfl (m + 1) Y F s x (hrx.mono (Same.of hk hF) fun _ h => h) (fun i hi => Nat.lt_of_lt_of_le (hF i hi) hk.1) (by omega)
   refine ⟨!shT t, s', ?_, fun h => ⟨hk.trans hk', ?_⟩, fun h => ⟨hk.trans hk', ?_⟩⟩
   ·have hcall' : ((gT (m + 1)).cg Y).fn 164 [.agg x] s = .ret (.bool (shT t)) s' := hcall
    obtain ⟨a, b, c, rfl⟩ : ∃ a b c, x = [a, b, c] := by
     have := hrx.cells3.1
     match x, this with
     | [a, b, c], _ => exact ⟨a, b, c, rfl⟩
    refine fun_of (mf := kf214) (fr := ?c0) t214 rfl (.inl ?c1) ?c2 ?c3
    case c1 =>
     simp only [amE, reduceEqDiff, ↓reduceIte, reduceCtorEq, reduceAdd, kf214, ld3f, hcall', unN]
     rfl
    case c2 => rfl
    case c3 => simp only [kf214, amE, Fr.get_set, ↓reduceIte]
   ·rw [<- hq, hdr, shL_cons, if_neg (by simpa using h)]
   ·rw [<- hq, hdr, shL_cons, if_pos (by simpa using h)]) st ⟨Keeps.refl st, rfl⟩ (by omega)
 have hc' : ((gT (m + 4)).cg Y).fn 108 [sl, .func (.func 214) [] []] st = .ret (.bool b) st' := hc
 have hbs : (!b) = shL l /\ Keeps st st' := by
  rcases hb with ⟨rfl, h1, h2⟩ | ⟨rfl, h1, h2⟩
  ·rw [hxl, List.drop_length, shL_nil] at h2
   exact ⟨h2, h1⟩
  ·exact ⟨h2.symm, h1⟩
 have lt : binB false .lss (.int .i64 n0) (.int .i64 (.ofNat 0)) = some (.bool (decide (n0 < 0))) := rfl
 have e1 : binB false .eql (.int .i64 k0) (.int .i64 (.ofNat 1)) = some (.bool (k0 == 1)) := rfl
 have g0 : binB false .gtr (.int .i64 (.ofNat xs.length)) (.int .i64 (.ofNat 0)) = some (.bool (decide (Int.ofNat l.length > 0))) := by rw [hxl]; rfl
 have ne1 : binB false .neq (.int .i64 k0) (.int .i64 (.ofNat 1)) = some (.bool (k0 != 1)) := rfl
 have ne2 : binB false .neq (.int .i64 k0) (.int .i64 (.ofNat 2)) = some (.bool (k0 != 2)) := rfl
 have g8 : binB false .gtr (.int .i64 (.ofNat xs.length)) (.int .i64 (.ofNat 8)) = some (.bool (decide (Int.ofNat l.length > 8))) := by rw [hxl]; rfl
 have b00 : Nat.beq 0 0 = true := rfl
 have hsh : shT (.mk k0 n0 nl ex l) = if badT k0 n0 l.length = true then false else shL l := by conv => lhs; unfold shT
 have hbad : badT k0 n0 l.length = (decide (n0 < 0) || ((k0 == 1) && decide (Int.ofNat l.length > 0)) || ((k0 != 1) && (k0 != 2)) || decide (Int.ofNat l.length > 8)) := rfl
 rw [hsh, hbad]
 generalize decide (n0 < 0) = B1 at *
 generalize (k0 == 1) = B2 at *
 generalize decide (Int.ofNat l.length > 0) = B3 at *
 generalize (k0 != 1) = B4 at *
 generalize (k0 != 2) = B5 at *
 generalize decide (Int.ofNat l.length > 8) = B6 at *
 obtain ⟨fA1, hA1⟩ : ∃ fA, fA = frOf 0 [.agg [.int .i64 k0, .int .i64 n0, sl]] Fr.nil := ⟨_, rfl⟩
 have gA1_0 : fA1.get 0 = some (.agg [.int .i64 k0, .int .i64 n0, sl]) := by rw [hA1]; simp only [frOf, Fr.get_set, reduceAdd, reduceEqDiff, ↓reduceIte]
 have dA1 : fA1.ds = [] := by rw [hA1]; rfl
 obtain ⟨fR2, hR2, kR2, oR2_1⟩ : ∃ fr', arun ((gT (m + 4)).cg Y) g164_0 fA1 st = .ok fr' st /\ Kp [] fA1 fr' /\ fr'.get 1 = some (.fptr [.int .i64 k0, .int .i64 n0, sl] 0) := ⟨_, by simp only [amE, reduceEqDiff, ↓reduceIte, reduceCtorEq, reduceAdd, gA1_0, g164_0] <;> rfl, Kp.refl.s.s, gn gh⟩
 have dR2 := kR2.1.trans dA1
 obtain ⟨fR3, hR3, kR3, oR3_3⟩ : ∃ fr', arun ((gT (m + 4)).cg Y) g164_1 fR2 st = .ok fr' st /\ Kp [1] fR2 fr' /\ fr'.get 3 = some (.bool B1) := ⟨_, by simp only [amE, reduceEqDiff, ↓reduceIte, reduceCtorEq, reduceAdd, oR2_1, g164_1, faf, ld0f, ld1f, ld2f, hlen, lt] <;> rfl, Kp.refl.s.s.s.s, gh⟩
 have gR3_1 := kR3.g 1 oR2_1
 have dR3 := kR3.1.trans dR2
 cases B1 with
 | true =>
  obtain ⟨fR4, hR4, kR4, oR4_2⟩ : ∃ fr', arun ((gT (m + 4)).cg Y) g164_5 fR3 st = .ok fr' st /\ Kp [] fR3 fr' /\ fr'.get 2 = some (.bool false) := ⟨_, by simp only [amE, reduceEqDiff, ↓reduceIte, reduceCtorEq, reduceAdd, g164_5] <;> rfl, Kp.refl.s, gh⟩
  have dR4 := kR4.1.trans dR3
  refine ⟨st, ?p4, Keeps.refl st⟩
  case p4 =>
   rw [if_pos (by simp)]
   refine fun_of (mf := kf164) (fr := fR4) t164 rfl (.inl ?q4) dR4 (by simp only [kf164, amE, oR4_2])
   case q4 =>
    rw [<- hA1]
    simp only [amE, reduceEqDiff, ↓reduceIte, reduceCtorEq, reduceAdd, kf164, b00, hR2, hR3, hR4, oR3_3]
 | false =>
  obtain ⟨fR5, hR5, kR5, oR5_3⟩ : ∃ fr', arun ((gT (m + 4)).cg Y) g164_2 fR3 st = .ok fr' st /\ Kp [1] fR3 fr' /\ fr'.get 3 = some (.bool (B2 && B3)) := by cases B2 <;> exact ⟨_, by simp only [amE, reduceEqDiff, ↓reduceIte, reduceCtorEq, reduceAdd, gR3_1, g164_2, faf, ld0f, ld1f, ld2f, hlen, e1, g0, Bool.not_true, Bool.not_false] <;> rfl, Kp.refl.s.s.s.s.s.s.s.s.s.s, by simp only [Fr.get_set, reduceEqDiff, ↓reduceIte, amB]⟩
  have gR5_1 := kR5.g 1 gR3_1
  have dR5 := kR5.1.trans dR3
  generalize (B2 && B3) = C2 at *
  cases C2 with
  | true =>
   obtain ⟨fR6, hR6, kR6, oR6_2⟩ : ∃ fr', arun ((gT (m + 4)).cg Y) g164_5 fR5 st = .ok fr' st /\ Kp [] fR5 fr' /\ fr'.get 2 = some (.bool false) := ⟨_, by simp only [amE, reduceEqDiff, ↓reduceIte, reduceCtorEq, reduceAdd, g164_5] <;> rfl, Kp.refl.s, gh⟩
   have dR6 := kR6.1.trans dR5
   refine ⟨st, ?p6, Keeps.refl st⟩
   case p6 =>
    rw [if_pos (by simp)]
    refine fun_of (mf := kf164) (fr := fR6) t164 rfl (.inl ?q6) dR6 (by simp only [kf164, amE, oR6_2])
    case q6 =>
     rw [<- hA1]
     simp only [amE, reduceEqDiff, ↓reduceIte, reduceCtorEq, reduceAdd, kf164, b00, hR2, hR3, hR5, hR6, oR3_3, oR5_3]
  | false =>
   obtain ⟨fR7, hR7, kR7, oR7_3⟩ : ∃ fr', arun ((gT (m + 4)).cg Y) g164_3 fR5 st = .ok fr' st /\ Kp [1] fR5 fr' /\ fr'.get 3 = some (.bool (B4 && B5)) := by cases B4 <;> exact ⟨_, by simp only [amE, reduceEqDiff, ↓reduceIte, reduceCtorEq, reduceAdd, gR5_1, g164_3, faf, ld0f, ld1f, ld2f, hlen, ne1, ne2, Bool.not_true, Bool.not_false] <;> rfl, Kp.refl.s.s.s.s.s.s.s.s.s, by simp only [Fr.get_set, reduceEqDiff, ↓reduceIte, amB]⟩
   have gR7_1 := kR7.g 1 gR5_1
   have dR7 := kR7.1.trans dR5
   generalize (B4 && B5) = C3 at *
   cases C3 with
   | true =>
    obtain ⟨fR8, hR8, kR8, oR8_2⟩ : ∃ fr', arun ((gT (m + 4)).cg Y) g164_5 fR7 st = .ok fr' st /\ Kp [] fR7 fr' /\ fr'.get 2 = some (.bool false) := ⟨_, by simp only [amE, reduceEqDiff, ↓reduceIte, reduceCtorEq, reduceAdd, g164_5] <;> rfl, Kp.refl.s, gh⟩
    have dR8 := kR8.1.trans dR7
    refine ⟨st, ?p8, Keeps.refl st⟩
    case p8 =>
     rw [if_pos (by simp)]
     refine fun_of (mf := kf164) (fr := fR8) t164 rfl (.inl ?q8) dR8 (by simp only [kf164, amE, oR8_2])
     case q8 =>
      rw [<- hA1]
      simp only [amE, reduceEqDiff, ↓reduceIte, reduceCtorEq, reduceAdd, kf164, b00, hR2, hR3, hR5, hR7, hR8, oR3_3, oR5_3, oR7_3]
   | false =>
    obtain ⟨fR9, hR9, kR9, oR9_3⟩ : ∃ fr', arun ((gT (m + 4)).cg Y) g164_4 fR7 st = .ok fr' st /\ Kp [1] fR7 fr' /\ fr'.get 3 = some (.bool B6) := ⟨_, by simp only [amE, reduceEqDiff, ↓reduceIte, reduceCtorEq, reduceAdd, gR7_1, g164_4, faf, ld0f, ld1f, ld2f, hlen, g8] <;> rfl, Kp.refl.s.s.s.s.s, gh⟩
    have gR9_1 := kR9.g 1 gR7_1
    have dR9 := kR9.1.trans dR7
    cases B6 with
    | true =>
     obtain ⟨fR10, hR10, kR10, oR10_2⟩ : ∃ fr', arun ((gT (m + 4)).cg Y) g164_5 fR9 st = .ok fr' st /\ Kp [] fR9 fr' /\ fr'.get 2 = some (.bool false) := ⟨_, by simp only [amE, reduceEqDiff, ↓reduceIte, reduceCtorEq, reduceAdd, g164_5] <;> rfl, Kp.refl.s, gh⟩
     have dR10 := kR10.1.trans dR9
     refine ⟨st, ?p10, Keeps.refl st⟩
     case p10 =>
      rw [if_pos (by simp)]
      refine fun_of (mf := kf164) (fr := fR10) t164 rfl (.inl ?q10) dR10 (by simp only [kf164, amE, oR10_2])
      case q10 =>
       rw [<- hA1]
       simp only [amE, reduceEqDiff, ↓reduceIte, reduceCtorEq, reduceAdd, kf164, b00, hR2, hR3, hR5, hR7, hR9, hR10, oR3_3, oR5_3, oR7_3, oR9_3]
    | false =>
     obtain ⟨fR11, hR11, kR11, oR11_2⟩ : ∃ fr', arun ((gT (m + 4)).cg Y) g164_6 fR9 st = .ok fr' st' /\ Kp [] fR9 fr' /\ fr'.get 2 = some (.bool (!b)) := ⟨_, by simp only [amE, reduceEqDiff, ↓reduceIte, reduceCtorEq, reduceAdd, gR9_1, g164_6, faf, ld0f, ld1f, ld2f, hlen, hc', unN, Bool.not_true, Bool.not_false] <;> rfl, Kp.refl.s.s.s.s.s, gh⟩
     have dR11 := kR11.1.trans dR9
     refine ⟨st', ?p11, hbs.2⟩
     case p11 =>
      rw [if_neg (by simp), <- hbs.1]
      refine fun_of (mf := kf164) (fr := fR11) t164 rfl (.inl ?q11) dR11 (by simp only [kf164, amE, oR11_2])
      case q11 =>
       rw [<- hA1]
       simp only [amE, reduceEqDiff, ↓reduceIte, reduceCtorEq, reduceAdd, kf164, b00, hR2, hR3, hR5, hR7, hR9, hR11, oR3_3, oR5_3, oR7_3, oR9_3]
theorem isTree_run (t : Tm) (n : Nat) (Y : Yenv) (F : Nat -> Prop) (st : St) (cs : List AV) (hr : RepT F st t cs) (hF : ∀ i, F i -> i < st.next) (hn : t.fz < n) :
  ∃ st', R n Y 137 [.agg cs] st = .ret (.bool (isTr t)) st' /\ Keeps st st' := by
 obtain ⟨m, rfl⟩ : ∃ m, n = m + 1 := ⟨n - 1, by omega⟩
 have hfz : 12 <= t.fz := by cases t; simp only [Tm.fz]; omega
 obtain ⟨a, b, c, rfl⟩ : ∃ a b c, cs = [a, b, c] := by
  have := hr.cells3.1
  match cs, this with
  | [a, b, c], _ => exact ⟨a, b, c, rfl⟩
 obtain ⟨st1, hst1⟩ : ∃ st1, st1 = st.new (.row [.int .i64 (.ofNat 0), .int .i64 (.ofNat 0)]) := ⟨_, rfl⟩
 have k1 : Keeps st st1 := by rw [hst1]; exact Keeps.new _ _
 have g1 : st1.get st.next = some (.row [.int .i64 (.ofNat 0), .int .i64 (.ofNat 0)]) := by rw [hst1, St.get_new, if_pos rfl]
 have n1 : st1.next = st.next + 1 := by rw [hst1]; rfl
 have hF1 : ∀ i, F i -> i < st1.next := fun i hi => Nat.lt_of_lt_of_le (hF i hi) k1.1
 have hid : ¬ F st.next := fun h => Nat.lt_irrefl _ (hF _ h)
 obtain ⟨st2, c1, k2, g2⟩ := count_run t m Y F st1 st.next (.ofNat 0) (.ofNat 0) (.ofNat 1) [a, b, c] (hr.mono (Same.of k1 hF) fun _ h => h) hF1 hid (by omega) g1 (by omega)
 have k02 := k1.then1 k2 (Nat.le_refl _)
 have c1' : ((gT m).cg Y).fn 162 [.ptr st.next 0, .agg [a, b, c], .int .i64 (.ofNat 1)] st1 = .ret (.tuple []) st2 := c1
 obtain ⟨m', rfl⟩ : ∃ m', m = m' + 1 := ⟨m - 1, by omega⟩
 have c2 : ((gT (m' + 1)).cg Y).fn 163 [.ptr st.next 0] st2 = .ret (.bool (overP (cntT t 1 0 0))) st2 := over_run m' Y g2
 obtain ⟨st3, c3, k3⟩ := sigShaped t (m' + 1) Y F st2 [a, b, c] (hr.mono (Same.of k02 hF) fun _ h => h) (fun i hi => Nat.lt_of_lt_of_le (hF i hi) k02.1) (by omega)
 have c3' : ((gT (m' + 1)).cg Y).fn 164 [.agg [a, b, c]] st2 = .ret (.bool (shT t)) st3 := c3
 have hres : isTr t = (!overP (cntT t 1 0 0) && shT t) := rfl
 rw [hres]
 generalize overP (cntT t 1 0 0) = B at *
 obtain ⟨fA12, hA12⟩ : ∃ fA, fA = frOf 0 [.agg [a, b, c]] Fr.nil := ⟨_, rfl⟩
 have gA12_0 : fA12.get 0 = some (.agg [a, b, c]) := by rw [hA12]; simp only [frOf, Fr.get_set, reduceAdd, reduceEqDiff, ↓reduceIte]
 have dA12 : fA12.ds = [] := by rw [hA12]; rfl
 obtain ⟨fR13, hR13, kR13, oR13_1⟩ : ∃ fr', arun ((gT (m' + 1)).cg Y) [⟨(some 1), .box true (.t 0), none⟩, ⟨(some 2), .mv (.c (.bool false)), none⟩] fA12 st = .ok fr' st /\ Kp [] fA12 fr' /\ fr'.get 1 = some (.fptr [a, b, c] 0) := ⟨_, by simp only [amE, reduceEqDiff, ↓reduceIte, reduceCtorEq, reduceAdd, gA12_0] <;> rfl, Kp.refl.s.s, gn gh⟩
 have dR13 := kR13.1.trans dA12
 obtain ⟨fR14, hR14, kR14, oR14_3⟩ : ∃ fr', arun ((gT (m' + 1)).cg Y) [⟨(some 3), .alloc [(.int .i64 (.ofNat 0)), (.int .i64 (.ofNat 0))], none⟩] fR13 st = .ok fr' st1 /\ Kp [1] fR13 fr' /\ fr'.get 3 = some (.ptr st.next 0) := ⟨_, by simp only [amE, reduceEqDiff, ↓reduceIte, reduceCtorEq, reduceAdd, <- hst1] <;> rfl, Kp.refl.s, gh⟩
 have gR14_1 := kR14.g 1 oR13_1
 have dR14 := kR14.1.trans dR13
 obtain ⟨fR15, hR15, kR15⟩ : ∃ fr', arun ((gT (m' + 1)).cg Y) g137_2 fR14 st1 = .ok fr' st2 /\ Kp [1, 3] fR14 fr' := ⟨_, by simp only [amE, reduceEqDiff, ↓reduceIte, reduceCtorEq, reduceAdd, gR14_1, oR14_3, g137_2, ld3f, c1'] <;> rfl, Kp.refl.s.s⟩
 have gR15_1 := kR15.g 1 gR14_1
 have gR15_3 := kR15.g 3 oR14_3
 have dR15 := kR15.1.trans dR14
 cases B with
 | true =>
  obtain ⟨fR16, hR16, kR16, oR16_2⟩ : ∃ fr', arun ((gT (m' + 1)).cg Y) g137_3 fR15 st2 = .ok fr' st2 /\ Kp [] fR15 fr' /\ fr'.get 2 = some (.bool false) := ⟨_, by simp only [amE, reduceEqDiff, ↓reduceIte, reduceCtorEq, reduceAdd, gR15_1, gR15_3, g137_3, ld3f, c2, c3', unN, Bool.not_true, Bool.not_false] <;> rfl, Kp.refl.s.s.s.s.s.s.s, gh⟩
  have dR16 := kR16.1.trans dR15
  refine ⟨st2, fun_of (mf := kf137) (fr := fR16) t137 rfl (.inl ?q16) dR16 (by simp only [kf137, amE, oR16_2, Bool.not_true, Bool.not_false, Bool.true_and, Bool.false_and]), k02⟩
  case q16 =>
   rw [<- hA12]
   simp only [amE, reduceEqDiff, ↓reduceIte, reduceCtorEq, reduceAdd, kf137, hR13, hR14, hR15, hR16]
 | false =>
  obtain ⟨fR17, hR17, kR17, oR17_2⟩ : ∃ fr', arun ((gT (m' + 1)).cg Y) g137_3 fR15 st2 = .ok fr' st3 /\ Kp [] fR15 fr' /\ fr'.get 2 = some (.bool (shT t)) := ⟨_, by simp only [amE, reduceEqDiff, ↓reduceIte, reduceCtorEq, reduceAdd, gR15_1, gR15_3, g137_3, ld3f, c2, c3', unN, Bool.not_true, Bool.not_false] <;> rfl, Kp.refl.s.s.s.s.s.s.s, gh⟩
  have dR17 := kR17.1.trans dR15
  refine ⟨st3, fun_of (mf := kf137) (fr := fR17) t137 rfl (.inl ?q17) dR17 (by simp only [kf137, amE, oR17_2, Bool.not_true, Bool.not_false, Bool.true_and, Bool.false_and]), k02.trans k3⟩
  case q17 =>
   rw [<- hA12]
   simp only [amE, reduceEqDiff, ↓reduceIte, reduceCtorEq, reduceAdd, kf137, hR13, hR14, hR15, hR17]
theorem greatest_run : ∀ (s : Nat) (l : List Tm) (n : Nat) (Y : Yenv) (F : Nat -> Prop) (st : St) (sl : AV) (xs : List (List AV)), Tm.fzL l + l.length = s -> SlR F st sl xs -> RepTs F st l xs -> (∀ i, F i -> i < st.next) -> s + 1 < n ->
  ∃ st', R n Y 138 [sl] st = .ret (.int .i64 (greL l (.negSucc 0))) st' /\ Keeps st st' := by
 intro s
 induction s using Nat.strongRecOn with
 | _ s ih =>
 intro l n Y F st sl xs hs hsl hrs hF hn
 obtain ⟨m, rfl⟩ : ∃ m, n = m + 1 := ⟨n - 1, by omega⟩
 have hxl := hrs.len
 have hlen := hsl.len st
 obtain ⟨fr0, hfr0, z3, z6, z7, z8, zd⟩ : ∃ fr0, (∀ L T, acode (gT m) Y m (.seq (.region [⟨(some 2), .mv (.c (.int .i64 (.ofNat 0))), none⟩]) (.seq (.region [⟨(some 3), .mv (.c (.int .i64 (.negSucc 0))), none⟩]) (.seq (.seq (.region [⟨(some 6), .mv (.t 0), none⟩, ⟨(some 7), .len 0 (.t 6), none⟩, ⟨(some 8), .mv (.c (.int .i64 (.ofNat 0))), none⟩]) L) T))) none (frOf 0 [sl] Fr.nil) st = match acode (gT m) Y m L none fr0 st with
    | .norm fr st => acode (gT m) Y m T none fr st
    | r => r)
   /\ fr0.get 3 = some (.int .i64 (.negSucc 0)) /\ fr0.get 6 = some sl /\ fr0.get 7 = some (.int .i64 (.ofNat xs.length)) /\ fr0.get 8 = some (.int .i64 (.ofNat 0)) /\ fr0.ds = [] := by
  refine ⟨?f0, ?f1, ?f2, ?f3, ?f4, ?f5, ?f7⟩
  case f1 =>
   intro L T
   simp only [amE, reduceEqDiff, ↓reduceIte, reduceCtorEq, reduceAdd, hlen]
   rfl
  case f2 => simp only [Fr.get_set, reduceEqDiff, ↓reduceIte]
  case f3 => simp only [Fr.get_set, reduceEqDiff, ↓reduceIte]
  case f4 => simp only [Fr.get_set, reduceEqDiff, ↓reduceIte]
  case f5 => simp only [Fr.get_set, ↓reduceIte]
  case f7 => rfl
 have b00 : Nat.beq 0 0 = true := rfl
 have hB : ∀ k fr s, k < xs.length -> Kp [6, 7] fr0 fr -> fr.get 8 = some (.int .i64 (.ofNat k)) -> (Keeps st s /\ ∃ o, fr.get 3 = some (.int .i64 o) /\ greL (l.drop k) o = greL l (.negSucc 0)) ->
   (∃ FR s', acode (gT m) Y m bf138_0 none fr s = .norm FR s' /\ Kp [8, 6, 7] fr FR /\ (Keeps st s' /\ ∃ o, FR.get 3 = some (.int .i64 o) /\ greL (l.drop (k + 1)) o = greL l (.negSucc 0))) ∨
   (∃ FR s', acode (gT m) Y m bf138_0 none fr s = .ret FR s' /\ False) := by
  intro k fr s hk hkp g8 ⟨hks, o, q3, hq⟩
  obtain ⟨t, ht, hdr⟩ := drop_at (l := l) (k := k) (by omega)
  obtain ⟨x, hx, hrx⟩ := hrs.at ht
  have hsame : Same F st s := Same.of hks hF
  obtain ⟨p, ia, ld⟩ := hsl.at hx
  have ld := ld s hsame
  obtain ⟨s1, sto, ks, go, hnx⟩ := next_el s (zs := [(.int .i64 (.ofNat 0)), (.int .i64 (.ofNat 0)), .nilsl]) rfl hrx.cells3
  rw [hdr, greL_cons] at hq
  have hfz := Tm.fzL_mem (List.mem_of_getElem? ht)
  cases t with
  | mk k1 n1 nl1 ex1 l1 =>
  have hrx1 := hrx.mono (hsame.trans (Same.of ks fun i hi => Nat.lt_of_lt_of_le (hF i hi) hks.1)) fun _ h => h
  simp only [RepT] at hrx1
  obtain ⟨sl1, xs1, rfl, hsl1, hrs1⟩ := hrx1
  simp only [Tm.fz] at hfz
  obtain ⟨s2, hcall, ks2⟩ := ih (Tm.fzL l1 + l1.length) (by omega) l1 m Y F s1 sl1 xs1 rfl hsl1 hrs1 (fun i hi => Nat.lt_of_lt_of_le (hF i hi) (Nat.le_trans hks.1 ks.1)) (by omega)
  have hcall' : ((gT m).cg Y).fn 138 [sl1] s1 = .ret (.int .i64 (greL l1 (.negSucc 0))) s2 := hcall
  have q6 := hkp.at (k := 6) (by decide) z6
  have q7 := hkp.at (k := 7) (by decide) z7
  have fa : ∀ o, faddrA o (.ptr s.next 0) = some (.ptr s.next (0 + o)) := fun _ => rfl
  have l0 := ld0 go
  have l1' := ld1 go
  have l2 := ld2 go
  have e1 : binB false .eql (.int .i64 k1) (.int .i64 (.ofNat 1)) = some (.bool (k1 == 1)) := rfl
  have fm : ∀ x y : Int, foldA maxA (.int .i64 x) [.int .i64 y] = some (.int .i64 (mx x y)) := fun _ _ => rfl
  have hgt : greT (.mk k1 n1 nl1 ex1 l1) o = mx (if k1 = 1 then mx o n1 else o) (greL l1 (.negSucc 0)) := by conv => lhs; unfold greT
  rw [hgt] at hq
  generalize hC : (k1 == 1) = C at *
  obtain ⟨fR18, hR18, kR18, oR18_5⟩ : ∃ fr', arun ((gT m).cg Y) g138_0 fr s = .ok fr' s1 /\ Kp [3, 6, 7, 8] fr fr' /\ fr'.get 5 = some (.ptr s.next 0) := ⟨_, by simp only [amE, reduceEqDiff, ↓reduceIte, reduceCtorEq, reduceAdd, q6, g8, g138_0, ia, ld, sto] <;> rfl, Kp.refl.s.s.s, gh⟩
  have gR18_3 := kR18.g 3 q3
  obtain ⟨fR19, hR19, kR19, oR19_14⟩ : ∃ fr', arun ((gT m).cg Y) g138_1 fR18 s1 = .ok fr' s1 /\ Kp [3, 5, 6, 7, 8] fR18 fr' /\ fr'.get 14 = some (.bool C) := ⟨_, by simp only [amE, reduceEqDiff, ↓reduceIte, reduceCtorEq, reduceAdd, oR18_5, g138_1, fa, l0, l1', l2, e1] <;> rfl, Kp.refl.s.s.s, gh⟩
  have gR19_3 := kR19.g 3 gR18_3
  have gR19_5 := kR19.g 5 oR18_5
  cases C with
  | true =>
   rw [if_pos (by simpa using hC)] at hq
   obtain ⟨fR20, hR20, kR20, oR20_3⟩ : ∃ fr', arun ((gT m).cg Y) g138_2 fR19 s1 = .ok fr' s1 /\ Kp [5, 6, 7, 8] fR19 fr' /\ fr'.get 3 = some (.int .i64 (mx o n1)) := ⟨_, by simp only [amE, reduceEqDiff, ↓reduceIte, reduceCtorEq, reduceAdd, gR19_3, gR19_5, g138_2, nd_max, fm, fa, l0, l1', l2] <;> rfl, Kp.refl.s.s.s.s.s, gh⟩
   have gR20_5 := kR20.g 5 gR19_5
   obtain ⟨fR21, hR21, kR21, oR21_3⟩ : ∃ fr', arun ((gT m).cg Y) g138_3 fR20 s1 = .ok fr' s2 /\ Kp [6, 7, 8] fR20 fr' /\ fr'.get 3 = some (.int .i64 (mx (mx o n1) (greL l1 (.negSucc 0)))) := ⟨_, by simp only [amE, reduceEqDiff, ↓reduceIte, reduceCtorEq, reduceAdd, gR20_5, oR20_3, g138_3, nd_max, fm, fa, l0, l1', l2, hcall'] <;> rfl, Kp.refl.s.s.s.s.s.s, gh⟩
   refine .inl ⟨fR21, s2, ?q21, ((((kR18.sub (by decide)).trans (kR19.sub (by decide))).trans (kR20.sub (by decide))).trans (kR21.sub (by decide))), (hks.trans ks).trans ks2, _, oR21_3, hq⟩
   case q21 => simp only [amE, reduceEqDiff, ↓reduceIte, reduceCtorEq, reduceAdd, bf138_0, hR18, hR19, hR20, hR21, oR19_14]
  | false =>
   rw [if_neg (by simpa using hC)] at hq
   obtain ⟨fR22, hR22, kR22, oR22_3⟩ : ∃ fr', arun ((gT m).cg Y) g138_3 fR19 s1 = .ok fr' s2 /\ Kp [6, 7, 8] fR19 fr' /\ fr'.get 3 = some (.int .i64 (mx o (greL l1 (.negSucc 0)))) := ⟨_, by simp only [amE, reduceEqDiff, ↓reduceIte, reduceCtorEq, reduceAdd, gR19_3, gR19_5, g138_3, nd_max, fm, fa, l0, l1', l2, hcall'] <;> rfl, Kp.refl.s.s.s.s.s.s, gh⟩
   refine .inl ⟨fR22, s2, ?q22, (((kR18.sub (by decide)).trans (kR19.sub (by decide))).trans (kR22.sub (by decide))), (hks.trans ks).trans ks2, _, oR22_3, hq⟩
   case q22 => simp only [amE, reduceEqDiff, ↓reduceIte, reduceCtorEq, reduceAdd, bf138_0, hR18, hR19, hR22, oR19_14]
 rcases kloop (Γ := gT m) (Y := Y) (m := m) (N := xs.length) (c := 9) (i := 8) (n := 7) (i2 := 24) (ro := none) (L := [6, 7]) (fr0 := fr0) (by decide) (by decide) (by decide) (by decide) z7 hsl.2.1
  (Q := fun k fr s => Keeps st s /\ ∃ o, fr.get 3 = some (.int .i64 o) /\ greL (l.drop k) o = greL l (.negSucc 0)) (fun k fr s sl v hs ⟨h1, o, h2, h3⟩ => ⟨h1, o, by rw [Fr.get_set, if_neg (by omega)]; exact h2, h3⟩) hB xs.length 0 fr0 st m (by omega) (by omega) Kp.refl z8 ⟨Keeps.refl st, _, z3, rfl⟩
  with ⟨FR, s', h1, h2, h3, o, h4, h5⟩ | ⟨FR, s', h1, h2⟩
 ·rw [hxl, List.drop_length, greL_nil] at h5
  rw [h5] at h4
  refine ⟨s', fun_of (mf := kf138) (fr := (FR.set 25 (some (.int .i64 (greL l (.negSucc 0))))).set 2 (some (.int .i64 (greL l (.negSucc 0))))) t138 rfl (.inl ?w1) (h2.1.trans zd) ?w2, h3⟩
  case w1 =>
   refine (hfr0 _ _).trans ?_
   simp only [amE, reduceEqDiff, ↓reduceIte, reduceCtorEq, reduceAdd, h1, b00, h4]
  case w2 => simp only [kf138, amE, Fr.get_set, ↓reduceIte]
 ·exact absurd h2 id
theorem ground_run (t : Tm) (n : Nat) (Y : Yenv) (F : Nat -> Prop) (st : St) (cs : List AV) (hr : RepT F st t cs) (hF : ∀ i, F i -> i < st.next) (hn : t.fz + 4 <= n) :
  ∃ st', R n Y 110 [.agg cs] st = .ret (.bool (gr t)) st' /\ Keeps st st' := by
 obtain ⟨m, rfl⟩ : ∃ m, n = m + 1 := ⟨n - 1, by omega⟩
 obtain ⟨st1, c1, k1⟩ := isTree_run t m Y F st cs hr hF (by omega)
 have hc3 := hr.cells3
 have hr1 := hr.mono (Same.of k1 hF) fun _ h => h
 obtain ⟨a, b, c, rfl⟩ : ∃ a b c, cs = [a, b, c] := by
  match cs, hc3.1 with
  | [a, b, c], _ => exact ⟨a, b, c, rfl⟩
 have hsl : SlR F st1 (.lst 1 [a, b, c] true) [[a, b, c]] := by
  have := SlR.lst F st1 (n := 1) (xs := [[a, b, c]]) (ex := true) (fun x hx => by simp only [List.mem_singleton] at hx; subst hx; exact hc3) (by simp) rfl
  simpa using this
 obtain ⟨st2, c2, k2⟩ := greatest_run (Tm.fzL [t] + 1) [t] m Y F st1 (.lst 1 [a, b, c] true) [[a, b, c]] rfl hsl (by simp only [RepTs]; exact ⟨_, _, rfl, hr1, rfl⟩) (fun i hi => Nat.lt_of_lt_of_le (hF i hi) k1.1) (by simp only [Tm.fzL]; omega)
 have c1' : ((gT m).cg Y).fn 137 [.agg [a, b, c]] st = .ret (.bool (isTr t)) st1 := c1
 have c2' : ((gT m).cg Y).fn 138 [.lst 1 [a, b, c] true] st1 = .ret (.int .i64 (greL [t] (.negSucc 0))) st2 := c2
 have fl : fillA [.int .i64 (.ofNat 0), .int .i64 (.ofNat 0), .nilsl] [(0, 3, .agg [a, b, c])] = some [a, b, c] := rfl
 have lt : binB false .lss (.int .i64 (greL [t] (.negSucc 0))) (.int .i64 (.ofNat 0)) = some (.bool (decide (greL [t] (.negSucc 0) < 0))) := rfl
 have hres : gr t = (isTr t && decide (greL [t] (.negSucc 0) < 0)) := rfl
 rw [hres]
 generalize isTr t = B at *
 obtain ⟨fA23, hA23⟩ : ∃ fA, fA = frOf 0 [.agg [a, b, c]] Fr.nil := ⟨_, rfl⟩
 have gA23_0 : fA23.get 0 = some (.agg [a, b, c]) := by rw [hA23]; simp only [frOf, Fr.get_set, reduceAdd, reduceEqDiff, ↓reduceIte]
 have dA23 : fA23.ds = [] := by rw [hA23]; rfl
 obtain ⟨fR24, hR24, kR24, oR24_1⟩ : ∃ fr', arun ((gT m).cg Y) [⟨(some 1), .box true (.t 0), none⟩, ⟨(some 2), .mv (.c (.bool false)), none⟩] fA23 st = .ok fr' st /\ Kp [] fA23 fr' /\ fr'.get 1 = some (.fptr [a, b, c] 0) := ⟨_, by simp only [amE, reduceEqDiff, ↓reduceIte, reduceCtorEq, reduceAdd, gA23_0] <;> rfl, Kp.refl.s.s, gn gh⟩
 have dR24 := kR24.1.trans dA23
 cases B with
 | true =>
  obtain ⟨fR25, hR25, kR25, oR25_2⟩ : ∃ fr', arun ((gT m).cg Y) g110_1 fR24 st = .ok fr' st2 /\ Kp [] fR24 fr' /\ fr'.get 2 = some (.bool (decide (greL [t] (.negSucc 0) < 0))) := ⟨_, by simp only [amE, reduceEqDiff, ↓reduceIte, reduceCtorEq, reduceAdd, oR24_1, g110_1, ld3f, c1', c2', fl, lt, Bool.not_true, Bool.not_false] <;> rfl, Kp.refl.s.s.s.s.s.s.s.s.s, gh⟩
  have dR25 := kR25.1.trans dR24
  refine ⟨st2, fun_of (mf := kf110) (fr := fR25) t110 rfl (.inl ?q25) dR25 (by simp only [kf110, amE, oR25_2, Bool.true_and, Bool.false_and]), k1.trans k2⟩
  case q25 =>
   rw [<- hA23]
   simp only [amE, reduceEqDiff, ↓reduceIte, reduceCtorEq, reduceAdd, kf110, hR24, hR25]
 | false =>
  obtain ⟨fR26, hR26, kR26, oR26_2⟩ : ∃ fr', arun ((gT m).cg Y) g110_1 fR24 st = .ok fr' st1 /\ Kp [] fR24 fr' /\ fr'.get 2 = some (.bool false) := ⟨_, by simp only [amE, reduceEqDiff, ↓reduceIte, reduceCtorEq, reduceAdd, oR24_1, g110_1, ld3f, c1', c2', fl, lt, Bool.not_true, Bool.not_false] <;> rfl, Kp.refl.s.s.s.s.s.s.s.s.s, gh⟩
  have dR26 := kR26.1.trans dR24
  refine ⟨st1, fun_of (mf := kf110) (fr := fR26) t110 rfl (.inl ?q26) dR26 (by simp only [kf110, amE, oR26_2, Bool.true_and, Bool.false_and]), k1⟩
  case q26 =>
   rw [<- hA23]
   simp only [amE, reduceEqDiff, ↓reduceIte, reduceCtorEq, reduceAdd, kf110, hR24, hR26]
end
end Go.AM.D16
