import Derived.Test.YtphmjdnljmhipaaGreatDoorAmSh4
set_option linter.unusedSimpArgs false
set_option linter.unusedVariables false
set_option maxRecDepth 100000
namespace Go.AM.D16
open Go Go.AM
def cel (l : List Nat) : List AV := l.map fun c => .int .u8 (.ofNat c)
theorem cel_len (l : List Nat) : (cel l).length = l.length := List.length_map ..
theorem cel_app (l s : List Nat) : cel (l ++ s) = cel l ++ cel s := List.map_append ..
theorem cel_one : ∀ l : List Nat, (cel l).all AV.one = true
 | [] => rfl
 | _ :: l => cel_one l
def Bf (b : Nat) (st : St) (j : Nat) : Prop := ∃ p n c lo, st.get b = some (.row [p, .own j 0 n 1 c lo])
structure Bl (b : Nat) (st : St) (l : List Nat) (p sl : AV) : Prop where
 lt : b < st.next
 get : st.get b = some (.row [p, sl])
 bt : st.bt.get b = some 113
 p : p = .nilptr \/ p = .ptr b 0
 sl : (sl = .nilsl /\ l = []) \/ ∃ id, sl = .own id 0 l.length 1 none l.length /\ b < id /\ id < st.next /\ st.get id = some (.row (cel l)) /\ st.bt.get id = some 5 /\ l ≠ []
structure Up (b : Nat) (s s' : St) : Prop where
 next : s.next <= s'.next
 get : ∀ i, i < s.next -> i ≠ b -> ¬ Bf b s i -> s'.get i = s.get i
 buf : ∀ i, Bf b s' i -> Bf b s i \/ s.next <= i
theorem Up.refl (b : Nat) (s : St) : Up b s s := ⟨Nat.le_refl _, fun _ _ _ _ => rfl, fun _ h => .inl h⟩
theorem Up.trans {b : Nat} {a c d : St} (h : Up b a c) (k : Up b c d) : Up b a d :=
 ⟨Nat.le_trans h.next k.next, fun i hi hb hn => (k.get i (Nat.lt_of_lt_of_le hi h.next) hb fun hf => (h.buf i hf).elim hn fun h => by omega).trans (h.get i hi hb hn),
  fun i hi => (k.buf i hi).elim (fun h' => h.buf i h') fun h' => .inr (Nat.le_trans h.next h')⟩
theorem Bl.nbf {b : Nat} {st : St} {l : List Nat} {p sl : AV} (h : Bl b st l p sl) {i : Nat} (hi : i <= b) : ¬ Bf b st i := by
 rintro ⟨p', n, c, lo, hg⟩
 rw [h.get] at hg
 injection hg with hg; injection hg with hg
 rcases h.sl with ⟨rfl, _⟩ | ⟨id, rfl, h2, _⟩
 ·simp at hg
 ·simp only [List.cons.injEq, AV.own.injEq] at hg
  omega
theorem Bl.same {b : Nat} {st s' : St} {l : List Nat} {p sl : AV} (h : Bl b st l p sl) (k : Up b st s') {F : Nat -> Prop} (hF : ∀ i, F i -> i < b) : Same F st s' :=
 fun i hi => k.get i (Nat.lt_trans (hF i hi) h.lt) (by have := hF i hi; omega) (h.nbf (Nat.le_of_lt (hF i hi)))
theorem noesc (n : Nat) (Y : Yenv) (x : AV) (st : St) : R (n + 1) Y 142 [x] st = .ret x st := by
 have t : tbl 142 = none := by kernel_rfl
 unfold R
 simp only [arunC, t]
 rfl
theorem Bl.put {b : Nat} {st : St} {l : List Nat} {p sl : AV} (h : Bl b st l p sl) : Bl b (st.put b (.row [.ptr b 0, sl])) l (.ptr b 0) sl /\ Up b st (st.put b (.row [.ptr b 0, sl])) := by
 refine ⟨⟨h.lt, by rw [St.get_put, if_pos rfl], h.bt, .inr rfl, ?_⟩, Nat.le_refl _, fun i _ hb _ => by rw [St.get_put, if_neg hb], fun i ⟨p', n, c, lo, hg⟩ => .inl ?_⟩
 ·rcases h.sl with h | ⟨id, h1, h2, h3, h4, h5, h6⟩
  ·exact .inl h
  ·exact .inr ⟨id, h1, h2, h3, by rw [St.get_put, if_neg (by omega)]; exact h4, h5, h6⟩
 ·rw [St.get_put, if_pos rfl] at hg
  injection hg with hg; injection hg with hg
  simp only [List.cons.injEq] at hg
  exact ⟨p, n, c, lo, by rw [h.get, hg.2.1]⟩
theorem Bl.app {b : Nat} {st : St} {l s : List Nat} {p sl : AV} (h : Bl b st l p sl) (hs : s ≠ []) (hb : l.length + s.length <= 140737488355328) :
  ∃ v s2 s3 s4, appendA 1 1 st sl s.length (cel s) = some (v, s2) /\ tagA (some 5) sl v s2 = s3 /\ storeA 1 s3 (.ptr b 1) v = some s4 /\ Bl b s4 (l ++ s) p v /\ Up b st s4 := by
 have hsl : s.length ≠ 0 := fun e => hs (List.length_eq_zero_iff.1 e)
 have h0 : s.length.beq 0 = false := by
  cases hc : s.length.beq 0
  ·rfl
  ·exact absurd (Nat.eq_of_beq_eq_true hc) hsl
 rcases h.sl with ⟨rfl, rfl⟩ | ⟨id, rfl, h2, h3, h4, h5, h6⟩
 ·have a1 : (s.length * 1).ble 140737488355328 = true := Nat.ble_eq_true_of_le (by simp at hb; omega)
  have a2 : s.length.ble 140737488355328 = true := Nat.ble_eq_true_of_le (by simp at hb; omega)
  refine ⟨.own st.next 0 s.length 1 none s.length, st.new (.row (cel s)), (st.new (.row (cel s))).tag st.next 5, ((st.new (.row (cel s))).tag st.next 5).put b (.row [p, .own st.next 0 s.length 1 none s.length]), ?_, rfl, ?_, ?_, ?_⟩
  ·unfold appendA; simp only [h0, cond_false, a1, a2]; rfl
  ·have hg : ((st.new (.row (cel s))).tag st.next 5).get b = some (.row [p, .nilsl]) := by rw [St.get_tag, St.get_new, if_neg (by have := h.lt; omega)]; exact h.get
   simp only [storeA, hg]; rfl
  ·have hlt := h.lt
   refine ⟨by simp; omega, by rw [St.get_put, if_pos rfl], ?_, h.p, .inr ⟨st.next, by simp, hlt, by simp, ?_, ?_, by simpa using hs⟩⟩
   ·show (St.tag (st.new (.row (cel s))) st.next 5).bt.get b = some 113
    show (st.bt.set st.next (some 5)).get b = some 113
    rw [Tr.get_set, if_neg (by omega)]; exact h.bt
   ·rw [St.get_put, if_neg (by omega), St.get_tag, St.get_new, if_pos rfl]; rfl
   ·show (st.bt.set st.next (some 5)).get st.next = some 5
    rw [Tr.get_set, if_pos rfl]
  ·have hlt := h.lt
   refine ⟨by simp, fun i hi hb' _ => by rw [St.get_put, if_neg hb', St.get_tag, St.get_new, if_neg (by omega)], fun i ⟨p', n, c, lo, hg⟩ => .inr ?_⟩
   rw [St.get_put, if_pos rfl] at hg
   injection hg with hg; injection hg with hg
   simp only [List.cons.injEq, AV.own.injEq] at hg
   omega
 ·have a1 : ((l.length + s.length) * 1).ble 140737488355328 = true := Nat.ble_eq_true_of_le (by omega)
  have a2 : (l.length + s.length).ble 140737488355328 = true := Nat.ble_eq_true_of_le hb
  have a3 : (0 + l.length * 1).ble (cel l).length = true := Nat.ble_eq_true_of_le (by rw [cel_len]; omega)
  have a4 : fitsA (l.length + s.length) l.length none = none := by
   have : (l.length + s.length).ble l.length = false := by
    cases hc : (l.length + s.length).ble l.length with
    | false => rfl
    | true => have := Nat.le_of_ble_eq_true hc; omega
   simp only [fitsA, this]; rfl
  have a5 : (l.length * 1).beq (cel l).length = true := by rw [cel_len, Nat.mul_one]; exact Nat.beq_refl _
  have hlt := h.lt
  have hn : (st.del id).next = st.next := rfl
  refine ⟨.own st.next 0 (l.length + s.length) 1 none (l.length + s.length), (st.del id).new (.row (cel l ++ cel s)), ((st.del id).new (.row (cel l ++ cel s))).tag st.next 5, (((st.del id).new (.row (cel l ++ cel s))).tag st.next 5).put b (.row [p, .own st.next 0 (l.length + s.length) 1 none (l.length + s.length)]), ?_, ?_, ?_, ?_, ?_⟩
  ·unfold appendA
   simp only [h0, cond_false, h4, a1, a2, a3, a4, a5, cel_one]; rfl
  ·have hbt : ((st.del id).new (.row (cel l ++ cel s))).bt.get id = some 5 := h5
   simp only [tagA, hbt]; rfl
  ·have hg : (((st.del id).new (.row (cel l ++ cel s))).tag st.next 5).get b = some (.row [p, .own id 0 l.length 1 none l.length]) := by
    rw [St.get_tag, St.get_new, if_neg (by rw [hn]; omega), St.get_del, if_neg (by omega)]; exact h.get
   simp only [storeA, hg]; rfl
  ·refine ⟨by simp; omega, by rw [St.get_put, if_pos rfl], ?_, h.p, .inr ⟨st.next, by simp, hlt, by simp, ?_, ?_, by simp [h6]⟩⟩
   ·show (st.bt.set st.next (some 5)).get b = some 113
    rw [Tr.get_set, if_neg (by omega)]; exact h.bt
   ·rw [St.get_put, if_neg (by omega), St.get_tag, St.get_new, if_pos hn.symm, cel_app]
   ·show (st.bt.set st.next (some 5)).get st.next = some 5
    rw [Tr.get_set, if_pos rfl]
  ·refine ⟨by simp, fun i hi hb' hnf => ?_, fun i ⟨p', n, c, lo, hg⟩ => .inr ?_⟩
   ·have hid : i ≠ id := fun e => hnf ⟨p, l.length, none, l.length, by rw [e]; exact h.get⟩
    rw [St.get_put, if_neg hb', St.get_tag, St.get_new, if_neg (by rw [hn]; omega), St.get_del, if_neg hid]
   ·rw [St.get_put, if_pos rfl] at hg
    injection hg with hg; injection hg with hg
    simp only [List.cons.injEq, AV.own.injEq] at hg
    omega
end Go.AM.D16
set_option maxRecDepth 100000
namespace Go.AM.D16
open Go Go.AM
open Nat (reduceEqDiff reduceAdd)
section
variable {Γ : Cg} {dst : Option Nat} {gd : Option (Nat × Bool)} {ms : List MOper} {fr : Fr} {st : St}
theorem nd_ptou {a} : arun Γ (⟨dst, (MOp.ptou a), gd⟩ :: ms) fr st = match wantedA fr gd with
 | some true => (match opr Γ fr st (MOp.ptou a) with
  | .val v st' => arun Γ ms (Fr.put fr dst v) st'
  | .pan v st' => .pan fr v st'
  | .stuck => .stuck)
 | some false => arun Γ ms (Fr.put fr dst .undef) st
 | none => .stuck := arun_nd rfl
theorem nd_utop {a b c} : arun Γ (⟨dst, (MOp.utop a b c), gd⟩ :: ms) fr st = match wantedA fr gd with
 | some true => (match opr Γ fr st (MOp.utop a b c) with
  | .val v st' => arun Γ ms (Fr.put fr dst v) st'
  | .pan v st' => .pan fr v st'
  | .stuck => .stuck)
 | some false => arun Γ ms (Fr.put fr dst .undef) st
 | none => .stuck := arun_nd rfl
theorem nd_b2s {a} : arun Γ (⟨dst, (MOp.b2s a), gd⟩ :: ms) fr st = match wantedA fr gd with
 | some true => (match opr Γ fr st (MOp.b2s a) with
  | .val v st' => arun Γ ms (Fr.put fr dst v) st'
  | .pan v st' => .pan fr v st'
  | .stuck => .stuck)
 | some false => arun Γ ms (Fr.put fr dst .undef) st
 | none => .stuck := arun_nd rfl
theorem nd_sidx {a b} : arun Γ (⟨dst, (MOp.sidx a b), gd⟩ :: ms) fr st = match wantedA fr gd with
 | some true => (match opr Γ fr st (MOp.sidx a b) with
  | .val v st' => arun Γ ms (Fr.put fr dst v) st'
  | .pan v st' => .pan fr v st'
  | .stuck => .stuck)
 | some false => arun Γ ms (Fr.put fr dst .undef) st
 | none => .stuck := arun_nd rfl
end
noncomputable def g118_0 : List MOper := [⟨(some 2), .mv (.t 0), none⟩, ⟨(some 3), .nilchk (.t 2), none⟩, ⟨(some 4), .faddr 0 (.t 3), none⟩, ⟨(some 5), .load false 1 (.t 4), none⟩, ⟨(some 6), .eqnil 0 true .eql (.t 5) (.c .nilptr), none⟩]
noncomputable def g118_1 : List MOper := [⟨(some 7), .mv (.t 0), none⟩, ⟨(some 8), .mv (.t 0), none⟩, ⟨(some 9), .ptou (.t 8), none⟩, ⟨(some 10), .call (.c (.func (.func 142) [] [])) [(.t 9)], none⟩, ⟨(some 11), .utop 113 2 (.t 10), none⟩, ⟨(some 12), .nilchk (.t 7), none⟩, ⟨(some 13), .faddr 0 (.t 12), none⟩, ⟨none, .store 1 (.t 13) (.t 11), none⟩]
noncomputable def g118_2 : List MOper := [⟨(some 14), .mv (.t 0), none⟩, ⟨(some 15), .nilchk (.t 14), none⟩, ⟨(some 16), .faddr 0 (.t 15), none⟩, ⟨(some 17), .load false 1 (.t 16), none⟩, ⟨(some 18), .mv (.t 0), none⟩, ⟨(some 19), .eqnil 0 true .neq (.t 17) (.t 18), none⟩]
noncomputable def kf118 : MFunc := ⟨20, (.seq (.region g118_0)
 (.cond (.t 6)
 (.region g118_1)
 (.seq (.region g118_2)
 (.cond (.t 19)
 .bad
 .skip)))), []⟩
theorem t118 : tbl 118 = some kf118 := by kernel_rfl
noncomputable def g83_2 : List MOper := [⟨(some 8), .mv (.t 0), none⟩, ⟨(some 9), .mv (.t 0), none⟩, ⟨(some 10), .nilchk (.t 9), none⟩, ⟨(some 11), .faddr 1 (.t 10), none⟩, ⟨(some 12), .load false 1 (.t 11), none⟩, ⟨(some 13), .mv (.t 1), none⟩, ⟨(some 14), .append 1 1 (some 5) (.t 12) (.t 13), none⟩, ⟨(some 15), .nilchk (.t 8), none⟩, ⟨(some 16), .faddr 1 (.t 15), none⟩, ⟨none, .store 1 (.t 16) (.t 14), none⟩]
noncomputable def g83_3 : List MOper := [⟨(some 17), .mv (.t 1), none⟩, ⟨(some 18), .len 1 (.t 17), none⟩, ⟨(some 4), .mv (.t 18), none⟩, ⟨(some 5), .mv (.c .niface), none⟩]
noncomputable def kf83 : MFunc := ⟨19, (.seq (.region [⟨(some 4), .mv (.c (.int .i64 (.ofNat 0))), none⟩, ⟨(some 5), .mv (.c .niface), none⟩])
 (.seq (.region [⟨(some 6), .mv (.t 0), none⟩, ⟨(some 7), .call (.c (.func (.func 118) [] [])) [(.t 6)], none⟩])
 (.seq (.region g83_2)
 (.seq (.region g83_3)
 .ret)))), [.t 4, .t 5]⟩
theorem t83 : tbl 83 = some kf83 := by kernel_rfl
noncomputable def g120_2 : List MOper := [⟨(some 7), .mv (.t 0), none⟩, ⟨(some 8), .mv (.t 0), none⟩, ⟨(some 9), .nilchk (.t 8), none⟩, ⟨(some 10), .faddr 1 (.t 9), none⟩, ⟨(some 11), .load false 1 (.t 10), none⟩, ⟨(some 12), .mv (.t 1), none⟩, ⟨(some 13), .bslice 1 [(.int .u8 (.ofNat 0))] [(0, 1, (.t 12))], none⟩, ⟨(some 14), .append 1 1 (some 5) (.t 11) (.t 13), none⟩, ⟨(some 15), .nilchk (.t 7), none⟩, ⟨(some 16), .faddr 1 (.t 15), none⟩, ⟨none, .store 1 (.t 16) (.t 14), none⟩]
noncomputable def kf120 : MFunc := ⟨17, (.seq (.region [⟨(some 4), .mv (.c .niface), none⟩])
 (.seq (.region [⟨(some 5), .mv (.t 0), none⟩, ⟨(some 6), .call (.c (.func (.func 118) [] [])) [(.t 5)], none⟩])
 (.seq (.region g120_2)
 (.seq (.region [⟨(some 4), .mv (.c .niface), none⟩])
 .ret)))), [.t 4]⟩
theorem t120 : tbl 120 = some kf120 := by kernel_rfl
noncomputable def g55_1 : List MOper := [⟨(some 3), .mv (.t 0), none⟩, ⟨(some 4), .nilchk (.t 3), none⟩, ⟨(some 5), .faddr 1 (.t 4), none⟩, ⟨(some 6), .load false 1 (.t 5), none⟩, ⟨(some 7), .len 0 (.t 6), none⟩, ⟨(some 2), .mv (.t 7), none⟩]
noncomputable def kf55 : MFunc := ⟨8, (.seq (.region [⟨(some 2), .mv (.c (.int .i64 (.ofNat 0))), none⟩])
 (.seq (.region g55_1)
 .ret)), [.t 2]⟩
theorem t55 : tbl 55 = some kf55 := by kernel_rfl
noncomputable def g56_1 : List (MOper × Nat) := [(⟨(some 3), .mv (.t 0), none⟩, 0), (⟨(some 4), .nilchk (.t 3), none⟩, 1), (⟨(some 5), .faddr 1 (.t 4), none⟩, 3), (⟨(some 6), .load false 1 (.t 5), none⟩, 7), (⟨(some 7), .sdat (.t 6), none⟩, 15), (⟨(some 8), .mv (.t 0), none⟩, 0), (⟨(some 9), .nilchk (.t 8), none⟩, 32), (⟨(some 10), .faddr 1 (.t 9), none⟩, 96), (⟨(some 11), .load false 1 (.t 10), none⟩, 224), (⟨(some 12), .len 0 (.t 11), none⟩, 480), (⟨(some 13), .ustr 5 (.t 7) (.t 12), none⟩, 1023), (⟨(some 2), .mv (.t 13), none⟩, 2047)]
noncomputable def kf56 : MFunc := ⟨14, (.seq (.region [⟨(some 2), .mv (.c (.str [])), none⟩])
 (.seq (.draw g56_1 [])
 .ret)), [.t 2]⟩
theorem t56 : tbl 56 = some kf56 := by kernel_rfl
theorem b11 : Nat.beq 1 1 = true := rfl
theorem cc_run {b : Nat} {st : St} {l : List Nat} {p sl : AV} (h : Bl b st l p sl) (n : Nat) (Y : Yenv) : ∃ s', R (n + 2) Y 118 [.ptr b 0] st = .ret (.tuple []) s' /\ Bl b s' l (.ptr b 0) sl /\ Up b st s' := by
 have l0 := ld0 h.get
 have fa : faddrA 0 (.ptr b 0) = some (.ptr b 0) := rfl
 have nc : nilchkA (.ptr b 0) = some (.ptr b 0) := rfl
 have nn := noesc n Y (.ptr b 0) st
 rcases h.p with rfl | rfl
 ·have e1 : eqNilA 0 .eql .nilptr .nilptr = some (.bool true) := rfl
  have u1 : ptouA st (.ptr b 0) = some (.ptr b 0) := by simp only [ptouA, h.get]; rfl
  have u2 : utopA 113 2 st (.ptr b 0) = some (.ptr b 0) := by
   simp only [utopA, h.get, h.bt]
   exact congrArg (fun c => bif c then some (AV.ptr b 0) else none) (show (Nat.beq 113 113 && (Nat.mod 0 2).beq 0 && (Nat.div 0 2 + 1).ble (Nat.div 2 2)) = true by decide)
  have sto : storeA 1 st (.ptr b 0) (.ptr b 0) = some (st.put b (.row [.ptr b 0, sl])) := by simp only [storeA, h.get]; rfl
  refine ⟨_, fun_of (mf := kf118) (fr := ?bf) t118 rfl (.inr ?bx) ?bd ?br, h.put.1, h.put.2⟩
  case bx => simp only [amE, reduceEqDiff, ↓reduceIte, reduceCtorEq, reduceAdd, kf118, g118_0, g118_1, nd_ptou, nd_utop, cg_fn, nn, l0, fa, nc, e1, u1, u2, sto] <;> rfl
  case bd => rfl
  case br => rfl
 ·have e1 : eqNilA 0 .eql (.ptr b 0) .nilptr = some (.bool false) := rfl
  have e2 : eqNilA 0 .neq (.ptr b 0) (.ptr b 0) = none := rfl
  have e3 : eqPtrA 0 .neq (.ptr b 0) (.ptr b 0) = some (.bool false) := by simp only [eqPtrA, Nat.beq_refl]; rfl
  refine ⟨st, fun_of (mf := kf118) (fr := ?cf) t118 rfl (.inr ?cx) ?cd ?cr, h, Up.refl b st⟩
  case cx => simp only [amE, reduceEqDiff, ↓reduceIte, reduceCtorEq, reduceAdd, kf118, g118_0, g118_2, l0, fa, nc, e1, e2, e3] <;> rfl
  case cd => rfl
  case cr => rfl
theorem ws_run {b : Nat} {st : St} {l s : List Nat} {p sl : AV} (h : Bl b st l p sl) (hs : s ≠ []) (hb : l.length + s.length <= 140737488355328) (n : Nat) (Y : Yenv) :
  ∃ v s' q, R (n + 3) Y 83 [.ptr b 0, .str s] st = .ret q s' /\ Bl b s' (l ++ s) (.ptr b 0) v /\ Up b st s' := by
 obtain ⟨s1, hc, h1, k1⟩ := cc_run h n Y
 obtain ⟨v, s2, s3, s4, ha, ht, hst, h4, k4⟩ := h1.app hs hb
 have l1 := ld1 h1.get
 have fa : faddrA 1 (.ptr b 0) = some (.ptr b 1) := rfl
 have nc : nilchkA (.ptr b 0) = some (.ptr b 0) := rfl
 have cn : contentA 1 s1 (.str s) = some (s.length, cel s) := rfl
 have ln : (bif lenFits 1 (.str s) then lenA s4 (.str s) else none) = some (.int .i64 (.ofNat s.length)) := rfl
 subst ht
 refine ⟨v, s4, .tuple [.int .i64 (.ofNat s.length), .niface], fun_of (mf := kf83) (fr := ?df) t83 rfl (.inl ?dx) ?dd ?dr, h4, k1.trans k4⟩
 case dx => simp only [amE, reduceEqDiff, ↓reduceIte, reduceCtorEq, reduceAdd, kf83, g83_2, cg_fn, hc, l1, fa, nc, cn, ha, hst, ln] <;> rfl
 case dd => rfl
 case dr => rfl
theorem wb_run {b : Nat} {st : St} {l : List Nat} {p sl : AV} (h : Bl b st l p sl) (c : Nat) (hb : l.length + 1 <= 140737488355328) (n : Nat) (Y : Yenv) :
  ∃ v s', R (n + 3) Y 120 [.ptr b 0, .int .u8 (.ofNat c)] st = .ret .niface s' /\ Bl b s' (l ++ [c]) (.ptr b 0) v /\ Up b st s' := by
 obtain ⟨s1, hc, h1, k1⟩ := cc_run h n Y
 obtain ⟨v, s2, s3, s4, ha, ht, hst, h4, k4⟩ := h1.app (s := [c]) (by simp) hb
 have l1 := ld1 h1.get
 have fa : faddrA 1 (.ptr b 0) = some (.ptr b 1) := rfl
 have nc : nilchkA (.ptr b 0) = some (.ptr b 0) := rfl
 have fi : fillA [.int .u8 (.ofNat 0)] [(0, 1, .int .u8 (.ofNat c))] = some [.int .u8 (.ofNat c)] := rfl
 have cn : contentA 1 s1 (.lst 1 [.int .u8 (.ofNat c)] true) = some ([c].length, cel [c]) := rfl
 subst ht
 refine ⟨v, s4, fun_of (mf := kf120) (fr := ?ef) t120 rfl (.inl ?ex) ?ed ?er, h4, k1.trans k4⟩
 case ex => simp only [amE, reduceEqDiff, ↓reduceIte, reduceCtorEq, reduceAdd, kf120, g120_2, cg_fn, hc, l1, fa, nc, fi, cn, ha, hst] <;> rfl
 case ed => rfl
 case er => rfl
theorem ln_run {b : Nat} {st : St} {l : List Nat} {p sl : AV} (h : Bl b st l p sl) (n : Nat) (Y : Yenv) : R (n + 1) Y 55 [.ptr b 0] st = .ret (.int .i64 (.ofNat l.length)) st := by
 have l1 := ld1 h.get
 have fa : faddrA 1 (.ptr b 0) = some (.ptr b 1) := rfl
 have nc : nilchkA (.ptr b 0) = some (.ptr b 0) := rfl
 have ln : (bif lenFits 0 sl then lenA st sl else none) = some (.int .i64 (.ofNat l.length)) := by
  rcases h.sl with ⟨rfl, rfl⟩ | ⟨id, rfl, _⟩ <;> rfl
 refine fun_of (mf := kf55) (fr := ?ff) t55 rfl (.inl ?fx) ?fd ?fr
 case fx => simp only [amE, reduceEqDiff, ↓reduceIte, reduceCtorEq, reduceAdd, kf55, g55_1, l1, fa, nc, ln] <;> rfl
 case fd => rfl
 case fr => rfl
theorem bytes_cel : ∀ l : List Nat, (∀ c ∈ l, c < 256) -> bytesA (cel l) = some l
 | [], _ => rfl
 | c :: l, h => by
  have := bytes_cel l fun x hx => h x (List.mem_cons_of_mem _ hx)
  have hc : byteA (.int .u8 (.ofNat c)) = some c := by
   have := h c List.mem_cons_self
   show (bif (c + 1).ble 256 then some c else none) = some c
   rw [Nat.ble_eq_true_of_le (show c + 1 <= 256 by omega)]; rfl
  unfold cel at this ⊢
  simp only [List.map_cons, bytesA, this, hc]; rfl
theorem str_run {b : Nat} {st : St} {l : List Nat} {p sl : AV} (h : Bl b st l p sl) (h8 : ∀ c ∈ l, c < 256) (hb : l.length <= 9223372036854775807) (n : Nat) (Y : Yenv) : ∃ s', R (n + 1) Y 56 [.ptr b 0] st = .ret (.str l) s' /\ st.next <= s'.next /\ ∀ i, i < b -> s'.get i = st.get i := by
 have l1 := ld1 h.get
 have fa : faddrA 1 (.ptr b 0) = some (.ptr b 1) := rfl
 have nc : nilchkA (.ptr b 0) = some (.ptr b 0) := rfl
 have b00 : Nat.beq 0 0 = true := rfl
 rcases h.sl with ⟨rfl, rfl⟩ | ⟨id, rfl, h2, h3, h4, h5, h6⟩
 ·have ln : (bif lenFits 0 (AV.nilsl) then lenA st .nilsl else none) = some (.int .i64 (.ofNat 0)) := rfl
  have sd : sdatA .nilsl = some .nilptr := rfl
  have us : ustrA 5 st .nilptr (.int .i64 (.ofNat 0)) = some (.str [], st) := rfl
  refine ⟨st, ?_, Nat.le_refl _, fun _ _ => rfl⟩
  obtain ⟨fA1, hA1⟩ : ∃ fA, fA = frOf 0 [.ptr b 0] Fr.nil := ⟨_, rfl⟩
  have gA1_0 : fA1.get 0 = some (.ptr b 0) := by rw [hA1]; simp only [frOf, Fr.get_set, reduceAdd, reduceEqDiff, ↓reduceIte]
  have dA1 : fA1.ds = [] := by rw [hA1]; rfl
  obtain ⟨fR2, hR2, kR2⟩ : ∃ fr', arun ((gT n).cg Y) [⟨(some 2), .mv (.c (.str [])), none⟩] fA1 st = .ok fr' st /\ Kp [0] fA1 fr' := ⟨_, by simp only [amE, reduceEqDiff, ↓reduceIte, reduceCtorEq, reduceAdd] <;> rfl, Kp.refl.s⟩
  have gR2_0 := kR2.g 0 gA1_0
  have dR2 := kR2.1.trans dA1
  obtain ⟨fR3, hR3, kR3, oR3_2⟩ : ∃ fr', adraw ((gT n).cg Y) g56_1 [] fR2 st = .ok fr' st /\ Kp [0] fR2 fr' /\ fr'.get 2 = some (.str []) := by
   refine ⟨?r30, ?r31, ?r32, ?r3o2⟩
   case r31 =>
    refine adraw_ok (its := ?r3i) ?r3x ?r3y ?r3z
    case r3x =>
     simp only [amE, reduceEqDiff, ↓reduceIte, reduceCtorEq, reduceAdd, drun_cons, drun_nil, DR.cons, oprD, nextId, preA, gR2_0, g56_1, l1, fa, nc, ln, sd, us]
     rfl
    case r3y => rfl
    case r3z =>
     simp only [List.all_cons, List.all_nil, Bool.and_true, Bool.and_eq_true]
   case r32 => repeat (first | exact Kp.refl | refine Kp.set (by decide) ?_)
   case r3o2 => simp only [Fr.get_set, reduceEqDiff, ↓reduceIte]
  have gR3_0 := kR3.g 0 gR2_0
  have dR3 := kR3.1.trans dR2
  refine fun_of (mf := kf56) (fr := fR3) t56 rfl (.inl ?q3) dR3 (by simp only [kf56, resultA, ressA, resA, oR3_2, Option.bind_some, Option.map_some])
  case q3 =>
   rw [<- hA1]
   simp only [amE, reduceEqDiff, ↓reduceIte, reduceCtorEq, reduceAdd, kf56, b00, hR2, hR3]
 ·have hn0 : l.length ≠ 0 := fun e => h6 (List.length_eq_zero_iff.1 e)
  have hz : l.length.beq 0 = false := by
   cases hc : l.length.beq 0
   ·rfl
   ·exact absurd (Nat.eq_of_beq_eq_true hc) hn0
  have ln : (bif lenFits 0 (AV.own id 0 l.length 1 none l.length) then lenA st (.own id 0 l.length 1 none l.length) else none) = some (.int .i64 (.ofNat l.length)) := rfl
  have sd : sdatA (.own id 0 l.length 1 none l.length) = some (.ptr id 0) := by simp only [sdatA, hz]; rfl
  have us : ustrA 5 st (.ptr id 0) (.int .i64 (.ofNat l.length)) = some (.str l, st.del id) := by
   have a1 : (0 + l.length).ble (cel l).length = true := Nat.ble_eq_true_of_le (by rw [cel_len]; omega)
   have a2 : l.length.ble 9223372036854775807 = true := Nat.ble_eq_true_of_le hb
   have a3 : ((cel l).drop 0).take l.length = cel l := by rw [List.drop_zero, List.take_of_length_le (by rw [cel_len]; exact Nat.le_refl _)]
   simp only [ustrA, h4, h5, a1, a2, a3, hz, bytes_cel l h8]; rfl
  refine ⟨st.del id, ?_, Nat.le_refl _, fun i hi => by rw [St.get_del, if_neg (by omega)]⟩
  obtain ⟨fA4, hA4⟩ : ∃ fA, fA = frOf 0 [.ptr b 0] Fr.nil := ⟨_, rfl⟩
  have gA4_0 : fA4.get 0 = some (.ptr b 0) := by rw [hA4]; simp only [frOf, Fr.get_set, reduceAdd, reduceEqDiff, ↓reduceIte]
  have dA4 : fA4.ds = [] := by rw [hA4]; rfl
  obtain ⟨fR5, hR5, kR5⟩ : ∃ fr', arun ((gT n).cg Y) [⟨(some 2), .mv (.c (.str [])), none⟩] fA4 st = .ok fr' st /\ Kp [0] fA4 fr' := ⟨_, by simp only [amE, reduceEqDiff, ↓reduceIte, reduceCtorEq, reduceAdd] <;> rfl, Kp.refl.s⟩
  have gR5_0 := kR5.g 0 gA4_0
  have dR5 := kR5.1.trans dA4
  obtain ⟨fR6, hR6, kR6, oR6_2⟩ : ∃ fr', adraw ((gT n).cg Y) g56_1 [] fR5 st = .ok fr' (st.del id) /\ Kp [0] fR5 fr' /\ fr'.get 2 = some (.str l) := by
   refine ⟨?r60, ?r61, ?r62, ?r6o2⟩
   case r61 =>
    refine adraw_ok (its := ?r6i) ?r6x ?r6y ?r6z
    case r6x =>
     simp only [amE, reduceEqDiff, ↓reduceIte, reduceCtorEq, reduceAdd, drun_cons, drun_nil, DR.cons, oprD, nextId, preA, gR5_0, g56_1, l1, fa, nc, ln, sd, us]
     rfl
    case r6y => rfl
    case r6z =>
     simp only [List.all_cons, List.all_nil, Bool.and_true, Bool.and_eq_true]
   case r62 => repeat (first | exact Kp.refl | refine Kp.set (by decide) ?_)
   case r6o2 => simp only [Fr.get_set, reduceEqDiff, ↓reduceIte]
  have gR6_0 := kR6.g 0 gR5_0
  have dR6 := kR6.1.trans dR5
  refine fun_of (mf := kf56) (fr := fR6) t56 rfl (.inl ?q6) dR6 (by simp only [kf56, resultA, ressA, resA, oR6_2, Option.bind_some, Option.map_some])
  case q6 =>
   rw [<- hA4]
   simp only [amE, reduceEqDiff, ↓reduceIte, reduceCtorEq, reduceAdd, kf56, b00, hR5, hR6]
end Go.AM.D16
set_option maxRecDepth 100000
namespace Go.AM.D16
open Go Go.AM
open Nat (reduceEqDiff reduceAdd)
def cmr : List (List Nat) -> List Nat
 | [] => []
 | y :: ys => 44 :: (y ++ cmr ys)
def cm : List (List Nat) -> List Nat
 | [] => []
 | x :: xs => x ++ cmr xs
def brk (o c : Nat) : List (List Nat) -> List Nat
 | [] => []
 | x :: xs => o :: (cm (x :: xs) ++ [c])
theorem cmr_snoc : ∀ (l : List (List Nat)) (x : List Nat), cmr (l ++ [x]) = cmr l ++ (44 :: x)
 | [], x => by simp [cmr]
 | y :: l, x => by simp [cmr, cmr_snoc l x]
theorem cm_snoc {l : List (List Nat)} (h : l ≠ []) (x : List Nat) : cm (l ++ [x]) = cm l ++ (44 :: x) := by
 cases l with
 | nil => exact absurd rfl h
 | cons y l => simp [cm, cmr_snoc]
theorem cmr_take : ∀ (l : List (List Nat)) (k : Nat), (cmr (l.take k)).length <= (cmr l).length
 | [], k => by simp
 | x :: l, 0 => by simp [cmr]
 | x :: l, k + 1 => by simp only [List.take_succ_cons, cmr, List.length_cons, List.length_append]; have := cmr_take l k; omega
theorem cm_take (l : List (List Nat)) (k : Nat) : (cm (l.take k)).length <= (cm l).length := by
 cases l with
 | nil => simp
 | cons x l =>
  cases k with
  | zero => simp [cm]
  | succ k => simp only [List.take_succ_cons, cm, List.length_append]; have := cmr_take l k; omega
theorem take_snoc {α : Type} {l : List α} {k : Nat} {x : α} (h : l[k]? = some x) : l.take (k + 1) = l.take k ++ [x] := by
 rw [List.take_add_one, h]; rfl
mutual
def txT : Tm -> List Nat
 | .mk _ n _ _ l => itoaA n ++ brk 40 41 (txTs l)
def txTs : List Tm -> List (List Nat)
 | [] => []
 | t :: l => txT t :: txTs l
end
mutual
def txD : Dv -> List Nat
 | .mk r _ _ vs _ _ l => itoaA r ++ brk 123 125 (txTs vs) ++ brk 40 41 (txDs l)
def txDs : List Dv -> List (List Nat)
 | [] => []
 | t :: l => txD t :: txDs l
end
noncomputable def bfB (zs : List AV) : MCode := (.seq (.region [⟨(some 22), .mv (.t 20), none⟩, ⟨(some 23), .iaddr 3 (.t 18) (.t 20), none⟩, ⟨(some 24), .load true 3 (.t 23), none⟩, ⟨(some 11), .alloc zs, none⟩, ⟨(some 10), .mv (.t 22), none⟩, ⟨none, .store 3 (.t 11) (.t 24), none⟩])
 (.seq (.seq (.region [⟨(some 25), .mv (.t 10), none⟩, ⟨(some 26), .bin false .gtr (.t 25) (.c (.int .i64 (.ofNat 0))), none⟩])
 (.cond (.t 26)
 (.region [⟨(some 27), .mv (.t 0), none⟩, ⟨(some 28), .call (.c (.func (.func 120) [] [])) [(.t 27), (.c (.int .u8 (.ofNat 44)))], none⟩])
 .skip))
 (.region [⟨(some 29), .mv (.t 4), none⟩, ⟨(some 30), .mv (.t 0), none⟩, ⟨(some 31), .load true 3 (.t 11), none⟩, ⟨(some 32), .call (.t 29) [(.t 30), (.t 31)], none⟩])))
noncomputable def kfB (zs : List AV) : MFunc := ⟨37, (.seq (.seq (.region [⟨(some 12), .mv (.t 2), none⟩, ⟨(some 13), .len 0 (.t 12), none⟩, ⟨(some 14), .bin false .eql (.t 13) (.c (.int .i64 (.ofNat 0))), none⟩])
 (.cond (.t 14)
 .ret
 .skip))
 (.seq (.region [⟨(some 15), .mv (.t 0), none⟩, ⟨(some 16), .mv (.t 1), none⟩, ⟨(some 17), .call (.c (.func (.func 120) [] [])) [(.t 15), (.t 16)], none⟩])
 (.seq (.seq (.region [⟨(some 18), .mv (.t 2), none⟩, ⟨(some 19), .len 0 (.t 18), none⟩, ⟨(some 20), .mv (.c (.int .i64 (.ofNat 0))), none⟩])
 (.block 0 (.loop (lb 21 20 19 33 (bfB zs)))))
 (.region [⟨(some 34), .mv (.t 0), none⟩, ⟨(some 35), .mv (.t 3), none⟩, ⟨(some 36), .call (.c (.func (.func 120) [] [])) [(.t 34), (.t 35)], none⟩])))), []⟩
theorem t85 : tbl 85 = some (kfB [(.int .i64 (.ofNat 0)), (.int .i64 (.ofNat 0)), .nilsl]) := by kernel_rfl
theorem t87 : tbl 87 = some (kfB [(.int .i64 (.ofNat 0)), .nilsl, .nilsl]) := by kernel_rfl
theorem btw_run {f g n b o c : Nat} {zs : List AV} (hf : tbl f = some (kfB zs)) (hz : zs.length = 3) {Y : Yenv} {F : Nat -> Prop} {st : St} {l : List Nat} {sv sl : AV} {xs : List (List AV)} {ts : List (List Nat)}
  (h : Bl b st l (.ptr b 0) sv) (hsl : SlR F st sl xs) (hF : ∀ i, F i -> i < b) (hlen : ts.length = xs.length) (hn : xs.length < n + 3) (hb : l.length + (brk o c ts).length <= 140737488355328)
  (hg : ∀ (k : Nat) (x : List AV) (t : List Nat), xs[k]? = some x -> ts[k]? = some t -> ∀ s l' p' sv', Bl b s l' p' sv' -> Up b st s -> l'.length + t.length <= 140737488355328 -> ∃ v s', R (n + 3) Y g [.ptr b 0, .agg x] s = .ret (.tuple []) s' /\ Bl b s' (l' ++ t) (.ptr b 0) v /\ Up b s s') :
  ∃ v s', R (n + 4) Y f [.ptr b 0, .int .u8 (.ofNat o), sl, .int .u8 (.ofNat c), .func (.func g) [] []] st = .ret (.tuple []) s' /\ Bl b s' (l ++ brk o c ts) (.ptr b 0) v /\ Up b st s' := by
 have b00 : Nat.beq 0 0 = true := rfl
 have b11 : Nat.beq 1 1 = true := rfl
 have hl := hsl.len st
 by_cases h0 : xs = []
 ·subst h0
  have ht : ts = [] := List.length_eq_zero_iff.1 hlen
  subst ht
  have e : binB false .eql (.int .i64 (.ofNat ([] : List (List AV)).length)) (.int .i64 (.ofNat 0)) = some (.bool true) := rfl
  refine ⟨sv, st, fun_of (mf := kfB zs) (fr := ?f0) hf rfl (.inl ?x0) ?d0 ?r0, by simpa [brk] using h, Up.refl b st⟩
  case x0 => simp only [amE, reduceEqDiff, ↓reduceIte, reduceCtorEq, reduceAdd, kfB, hl, e] <;> rfl
  case d0 => rfl
  case r0 => rfl
 have hxl : xs.length ≠ 0 := fun e => h0 (List.length_eq_zero_iff.1 e)
 have e : binB false .eql (.int .i64 (.ofNat xs.length)) (.int .i64 (.ofNat 0)) = some (.bool false) := by
  show some (AV.bool (decide ((Int.ofNat xs.length) = Int.ofNat 0))) = _
  congr 2
  simp [hxl]
 have hbr : brk o c ts = o :: (cm ts ++ [c]) := by
  cases ts with
  | nil => simp at hlen; omega
  | cons t ts => rfl
 rw [hbr] at hb ⊢
 simp only [List.length_cons, List.length_append, List.length_nil] at hb
 obtain ⟨v1, s1, hw1, h1, k1⟩ := wb_run h o (by omega) n Y
 obtain ⟨fA1, hA1⟩ : ∃ fA, fA = frOf 0 [.ptr b 0, .int .u8 (.ofNat o), sl, .int .u8 (.ofNat c), .func (.func g) [] []] Fr.nil := ⟨_, rfl⟩
 have gA1_0 : fA1.get 0 = some (.ptr b 0) := by rw [hA1]; simp only [frOf, Fr.get_set, reduceAdd, reduceEqDiff, ↓reduceIte]
 have gA1_1 : fA1.get 1 = some (.int .u8 (.ofNat o)) := by rw [hA1]; simp only [frOf, Fr.get_set, reduceAdd, reduceEqDiff, ↓reduceIte]
 have gA1_2 : fA1.get 2 = some (sl) := by rw [hA1]; simp only [frOf, Fr.get_set, reduceAdd, reduceEqDiff, ↓reduceIte]
 have gA1_3 : fA1.get 3 = some (.int .u8 (.ofNat c)) := by rw [hA1]; simp only [frOf, Fr.get_set, reduceAdd, reduceEqDiff, ↓reduceIte]
 have gA1_4 : fA1.get 4 = some (.func (.func g) [] []) := by rw [hA1]; simp only [frOf, Fr.get_set, reduceAdd, reduceEqDiff, ↓reduceIte]
 have dA1 : fA1.ds = [] := by rw [hA1]; rfl
 obtain ⟨fR2, hR2, kR2, oR2_14⟩ : ∃ fr', arun ((gT (n + 3)).cg Y) [⟨(some 12), .mv (.t 2), none⟩, ⟨(some 13), .len 0 (.t 12), none⟩, ⟨(some 14), .bin false .eql (.t 13) (.c (.int .i64 (.ofNat 0))), none⟩] fA1 st = .ok fr' st /\ Kp [0, 1, 2, 3, 4] fA1 fr' /\ fr'.get 14 = some (.bool false) := ⟨_, by simp only [amE, reduceEqDiff, ↓reduceIte, reduceCtorEq, reduceAdd, gA1_2, hl, e] <;> rfl, Kp.refl.s.s.s, gh⟩
 have gR2_0 := kR2.g 0 gA1_0
 have gR2_1 := kR2.g 1 gA1_1
 have gR2_2 := kR2.g 2 gA1_2
 have gR2_3 := kR2.g 3 gA1_3
 have gR2_4 := kR2.g 4 gA1_4
 have dR2 := kR2.1.trans dA1
 obtain ⟨fR3, hR3, kR3⟩ : ∃ fr', arun ((gT (n + 3)).cg Y) [⟨(some 15), .mv (.t 0), none⟩, ⟨(some 16), .mv (.t 1), none⟩, ⟨(some 17), .call (.c (.func (.func 120) [] [])) [(.t 15), (.t 16)], none⟩] fR2 st = .ok fr' s1 /\ Kp [0, 1, 2, 3, 4] fR2 fr' := ⟨_, by simp only [amE, reduceEqDiff, ↓reduceIte, reduceCtorEq, reduceAdd, gR2_0, gR2_1, cg_fn, hw1] <;> rfl, Kp.refl.s.s.s⟩
 have gR3_0 := kR3.g 0 gR2_0
 have gR3_2 := kR3.g 2 gR2_2
 have gR3_3 := kR3.g 3 gR2_3
 have gR3_4 := kR3.g 4 gR2_4
 have dR3 := kR3.1.trans dR2
 have hl1 := hsl.len s1
 obtain ⟨fR4, hR4, kR4, oR4_18, oR4_19, oR4_20⟩ : ∃ fr', arun ((gT (n + 3)).cg Y) [⟨(some 18), .mv (.t 2), none⟩, ⟨(some 19), .len 0 (.t 18), none⟩, ⟨(some 20), .mv (.c (.int .i64 (.ofNat 0))), none⟩] fR3 s1 = .ok fr' s1 /\ Kp [0, 1, 2, 3, 4] fR3 fr' /\ fr'.get 18 = some (sl) /\ fr'.get 19 = some (.int .i64 (.ofNat xs.length)) /\ fr'.get 20 = some (.int .i64 (.ofNat 0)) := ⟨_, by simp only [amE, reduceEqDiff, ↓reduceIte, reduceCtorEq, reduceAdd, gR3_2, hl1] <;> rfl, Kp.refl.s.s.s, gn (gn gh), gn gh, gh⟩
 have gR4_0 := kR4.g 0 gR3_0
 have gR4_3 := kR4.g 3 gR3_3
 have gR4_4 := kR4.g 4 gR3_4
 have dR4 := kR4.1.trans dR3
 have same : ∀ {s : St}, Up b st s -> Same F st s := fun k => h.same k hF
 have hB : ∀ k fr s, k < xs.length -> Kp [0, 3, 4, 18, 19] fR4 fr -> fr.get 20 = some (.int .i64 (.ofNat k)) -> (Up b st s /\ ∃ v, Bl b s (l ++ (o :: cm (ts.take k))) (.ptr b 0) v) ->
   (∃ FR s', acode (gT (n + 3)) Y (n + 3) (bfB zs) none fr s = .norm FR s' /\ Kp [20, 0, 3, 4, 18, 19] fr FR /\ (Up b st s' /\ ∃ v, Bl b s' (l ++ (o :: cm (ts.take (k + 1)))) (.ptr b 0) v)) \/ (∃ FR s', acode (gT (n + 3)) Y (n + 3) (bfB zs) none fr s = .ret FR s' /\ False) := by
  intro k fr s hk hkp gi ⟨hup, v, hbl⟩
  left
  have q0 := hkp.at (k := 0) (by decide) gR4_0
  have q4 := hkp.at (k := 4) (by decide) gR4_4
  have q18 := hkp.at (k := 18) (by decide) oR4_18
  obtain ⟨x, hx, _⟩ := drop_at hk
  obtain ⟨t, ht, _⟩ := drop_at (l := ts) (k := k) (by omega)
  have x3 := hsl.1 x (List.mem_of_getElem? hx)
  obtain ⟨pp, hia, hld⟩ := hsl.at hx
  have ld := hld s (same hup)
  have sto := store_new (st := s) hz x3.1 x3.2
  have up1 : Up b s ((s.new (.row zs)).put s.next (.row x)) := by
   have hlt := hbl.lt
   refine ⟨by simp, fun i hi _ _ => by rw [St.get_put, if_neg (by omega), St.get_new, if_neg (by omega)], fun i ⟨p', n', c', lo, hg⟩ => .inl ⟨p', n', c', lo, ?_⟩⟩
   rwa [St.get_put, if_neg (by omega), St.get_new, if_neg (by omega)] at hg
  have bl1 : Bl b ((s.new (.row zs)).put s.next (.row x)) (l ++ (o :: cm (ts.take k))) (.ptr b 0) v := by
   have hlt := hbl.lt
   refine ⟨by simp; omega, by rw [St.get_put, if_neg (by omega), St.get_new, if_neg (by omega)]; exact hbl.get, hbl.bt, hbl.p, ?_⟩
   rcases hbl.sl with h | ⟨id, h1, h2, h3, h4, h5, h6⟩
   ·exact .inl h
   ·exact .inr ⟨id, h1, h2, by simp; omega, by rw [St.get_put, if_neg (by omega), St.get_new, if_neg (by omega)]; exact h4, h5, h6⟩
  have gx : ((s.new (.row zs)).put s.next (.row x)).get s.next = some (.row x) := by rw [St.get_put, if_pos rfl]
  have nbf : ¬ Bf b ((s.new (.row zs)).put s.next (.row x)) s.next := by
   rintro ⟨p', n', c', lo, hg⟩
   rw [bl1.get] at hg
   injection hg with hg; injection hg with hg
   rcases hbl.sl with ⟨rfl, _⟩ | ⟨id, rfl, h2, h3, _⟩
   ·simp at hg
   ·simp only [List.cons.injEq, AV.own.injEq] at hg; omega
  generalize hs1 : (s.new (.row zs)).put s.next (.row x) = sN at *
  have hnx : s.next < sN.next := by rw [<- hs1]; simp
  have hcl : (cm (ts.take k)).length <= (cm ts).length := cm_take ts k
  have hcl' : (cm (ts.take (k + 1))).length <= (cm ts).length := cm_take ts (k + 1)
  rw [take_snoc ht] at hcl' ⊢
  obtain ⟨fR5, hR5, kR5, oR5_10, oR5_11⟩ : ∃ fr', arun ((gT (n + 3)).cg Y) [⟨(some 22), .mv (.t 20), none⟩, ⟨(some 23), .iaddr 3 (.t 18) (.t 20), none⟩, ⟨(some 24), .load true 3 (.t 23), none⟩, ⟨(some 11), .alloc zs, none⟩, ⟨(some 10), .mv (.t 22), none⟩, ⟨none, .store 3 (.t 11) (.t 24), none⟩] fr s = .ok fr' sN /\ Kp [20, 0, 3, 4, 18, 19] fr fr' /\ fr'.get 10 = some (.int .i64 (.ofNat k)) /\ fr'.get 11 = some (.ptr s.next 0) := ⟨_, by simp only [amE, reduceEqDiff, ↓reduceIte, reduceCtorEq, reduceAdd, q18, gi, hia, ld, sto, hs1] <;> rfl, Kp.refl.s.s.s.s.s, gh, gn gh⟩
  have gR5_0 := kR5.g 0 q0
  have gR5_4 := kR5.g 4 q4
  obtain ⟨FR2, s2, v2, hc2, kp2, u2, bl2, up2, gx2⟩ : ∃ FR2 s2 v2, acode (gT (n + 3)) Y (n + 3) (.seq (.region [⟨(some 25), .mv (.t 10), none⟩, ⟨(some 26), .bin false .gtr (.t 25) (.c (.int .i64 (.ofNat 0))), none⟩]) (.cond (.t 26) (.region [⟨(some 27), .mv (.t 0), none⟩, ⟨(some 28), .call (.c (.func (.func 120) [] [])) [(.t 27), (.c (.int .u8 (.ofNat 44)))], none⟩]) .skip)) none fR5 sN = .norm FR2 s2 /\ Kp [20, 0, 3, 4, 18, 19, 11] fR5 FR2 /\ s.next < s2.next /\ Bl b s2 (l ++ (o :: cm (ts.take k)) ++ (if k = 0 then [] else [44])) (.ptr b 0) v2 /\ Up b sN s2 /\ s2.get s.next = some (.row x) := by
   by_cases hk0 : k = 0
   ·subst hk0
    have gt : binB false .gtr (.int .i64 (.ofNat 0)) (.int .i64 (.ofNat 0)) = some (.bool false) := rfl
    refine ⟨?fa, sN, v, ?fb, ?fc, hnx, by rw [if_pos rfl, List.append_nil]; exact bl1, Up.refl b sN, gx⟩
    case fb => simp only [amE, reduceEqDiff, ↓reduceIte, reduceCtorEq, reduceAdd, oR5_10, gt] <;> rfl
    case fc => repeat (first | exact Kp.refl | refine Kp.set (by decide) ?_)
   ·have gt : binB false .gtr (.int .i64 (.ofNat k)) (.int .i64 (.ofNat 0)) = some (.bool true) := by
     show some (AV.bool (decide ((Int.ofNat k) > Int.ofNat 0))) = _
     congr 2
     simp; omega
    obtain ⟨v2, s2, hw2, bl2, up2⟩ := wb_run bl1 44 (by simp only [List.length_append, List.length_cons]; omega) n Y
    refine ⟨?fd, s2, v2, ?fe, ?ff, Nat.lt_of_lt_of_le hnx up2.next, by rw [if_neg hk0]; exact bl2, up2, (up2.get _ hnx (by have := hbl.lt; omega) nbf).trans gx⟩
    case fe => simp only [amE, reduceEqDiff, ↓reduceIte, reduceCtorEq, reduceAdd, oR5_10, gR5_0, gt, cg_fn, hw2] <;> rfl
    case ff => repeat (first | exact Kp.refl | refine Kp.set (by decide) ?_)
  have r0 := kp2.at (k := 0) (by decide) gR5_0
  have r4 := kp2.at (k := 4) (by decide) gR5_4
  have r11 := kp2.at (k := 11) (by decide) oR5_11
  have ldx : loadA true 3 s2 (.ptr s.next 0) = some (.agg x) := load_row gx2 x3.1
  have hup2 : Up b st s2 := (hup.trans up1).trans up2
  have hsm : (l ++ (o :: cm (ts.take k)) ++ (if k = 0 then [] else [44])) ++ t = l ++ (o :: cm (ts.take k ++ [t])) := by
   by_cases hk0 : k = 0
   ·subst hk0; simp [cm, cmr]
   ·rw [if_neg hk0, cm_snoc (by simp; exact ⟨hk0, fun e => by subst e; simp at hlen; omega⟩)]; simp
  obtain ⟨v3, s3, hw3, bl3, up3⟩ := hg k x t hx ht s2 _ _ _ bl2 hup2 (by rw [<- List.length_append, hsm]; simp only [List.length_append, List.length_cons] at hcl' ⊢; omega)
  rw [hsm] at bl3
  obtain ⟨fR6, hR6, kR6⟩ : ∃ fr', arun ((gT (n + 3)).cg Y) [⟨(some 29), .mv (.t 4), none⟩, ⟨(some 30), .mv (.t 0), none⟩, ⟨(some 31), .load true 3 (.t 11), none⟩, ⟨(some 32), .call (.t 29) [(.t 30), (.t 31)], none⟩] FR2 s2 = .ok fr' s3 /\ Kp [20, 0, 3, 4, 18, 19] FR2 fr' := ⟨_, by simp only [amE, reduceEqDiff, ↓reduceIte, reduceCtorEq, reduceAdd, r0, r4, r11, cg_fn, ldx, hw3] <;> rfl, Kp.refl.s.s.s.s⟩
  refine ⟨fR6, s3, ?_, (kR5.trans (kp2.sub (by decide))).trans kR6, hup2.trans up3, v3, bl3⟩
  rw [bfB]
  simp only [amE, reduceEqDiff, ↓reduceIte, reduceCtorEq, reduceAdd, hR5, hc2, hR6]
 obtain ⟨FR, s9, hloop, kpl, ⟨hup9, v9, bl9⟩⟩ : ∃ FR s9, aloop (acode (gT (n + 3)) Y (n + 3) (lb 21 20 19 33 (bfB zs)) none) (n + 3) fR4 s1 = .exit 0 FR s9 /\ Kp [0, 3, 4, 18, 19] fR4 FR /\ (Up b st s9 /\ ∃ v, Bl b s9 (l ++ (o :: cm (ts.take xs.length))) (.ptr b 0) v) := by
  rcases kloop (Γ := (gT (n + 3))) (Y := Y) (m := n + 3) (N := xs.length) (c := 21) (i := 20) (n := 19) (i2 := 33) (ro := none) (L := [0, 3, 4, 18, 19]) (fr0 := fR4) (Post := fun _ _ => False) (by decide) (by decide) (by decide) (by decide) oR4_19 hsl.2.1
   (Q := fun k _ s => Up b st s /\ ∃ v, Bl b s (l ++ (o :: cm (ts.take k))) (.ptr b 0) v) (fun _ _ _ _ _ _ h => h) hB xs.length 0 fR4 s1 (n + 3) (by omega) hn Kp.refl oR4_20 ⟨k1, v1, by simpa [cm] using h1⟩ with h | ⟨_, _, _, h⟩
  ·exact h
  ·exact h.elim
 rw [<- hlen, List.take_length] at bl9
 obtain ⟨v4, s10, hw4, bl10, up10⟩ := wb_run bl9 c (by simp only [List.length_append, List.length_cons]; omega) n Y
 have z0 := kpl.at (k := 0) (by decide) gR4_0
 have z3 := kpl.at (k := 3) (by decide) gR4_3
 have zd : FR.ds = [] := kpl.1.trans dR4
 obtain ⟨fR7, hR7, kR7⟩ : ∃ fr', arun ((gT (n + 3)).cg Y) [⟨(some 34), .mv (.t 0), none⟩, ⟨(some 35), .mv (.t 3), none⟩, ⟨(some 36), .call (.c (.func (.func 120) [] [])) [(.t 34), (.t 35)], none⟩] FR s9 = .ok fr' s10 /\ Kp [] FR fr' := ⟨_, by simp only [amE, reduceEqDiff, ↓reduceIte, reduceCtorEq, reduceAdd, z0, z3, cg_fn, hw4] <;> rfl, Kp.refl.s.s.s⟩
 have dR7 := kR7.1.trans zd
 refine ⟨v4, s10, fun_of (mf := kfB zs) (fr := fR7) hf rfl (.inr ?x9) dR7 rfl, by simpa using bl10, hup9.trans up10⟩
 case x9 =>
  rw [<- hA1]
  simp only [amE, reduceEqDiff, ↓reduceIte, reduceCtorEq, reduceAdd, kfB, b00, b11, hR2, hR3, hR4, hloop, hR7, oR2_14]
end Go.AM.D16
