import Derived.Test.YtphmjdnljmhipaaGreatDoorAmSh11
import Derived.Test.YtphmjdnljmhipaaGreatDoorAmSh10
import Derived.Test.YtphmjdnljmhipaaGreatDoorAmSh5
set_option linter.unusedSimpArgs false
set_option linter.unusedVariables false
set_option maxRecDepth 100000
namespace Go.AM.D16
open Go Go.AM
noncomputable section
open Nat (reduceEqDiff reduceAdd)
def g76_0 : List MOper := [⟨(some 38), .faddr 1 (.t 1), none⟩, ⟨(some 39), .load false 1 (.t 38), none⟩, ⟨(some 40), .mv (.t 3), none⟩, ⟨(some 41), .iaddr 3 (.t 39) (.t 40), none⟩, ⟨(some 42), .load true 3 (.t 41), none⟩, ⟨(some 43), .call (.c (.func (.func 116) [] [])) [(.t 42)], none⟩, ⟨(some 44), .un .not (.t 43), none⟩]
def g76_2 : List MOper := [⟨(some 52), .faddr 2 (.t 1), none⟩, ⟨(some 53), .load false 1 (.t 52), none⟩, ⟨(some 54), .mv (.t 4), none⟩, ⟨(some 55), .iaddr 3 (.t 53) (.t 54), none⟩, ⟨(some 56), .load true 3 (.t 55), none⟩, ⟨(some 57), .call (.c (.func (.func 76) [] [])) [(.t 56)], none⟩, ⟨(some 58), .un .not (.t 57), none⟩]
def g76_5 : List (MOper × Nat) := [(⟨(some 5), .faddr 0 (.t 1), none⟩, 0), (⟨(some 6), .load false 1 (.t 5), none⟩, 1), (⟨(some 7), .bin false .lss (.t 6) (.c (.int .i64 (.ofNat 1))), none⟩, 3), (⟨(some 8), .mv (.t 7), none⟩, 7), (⟨(some 9), .faddr 0 (.t 1), (some (8, false))⟩, 15), (⟨(some 10), .load false 1 (.t 9), (some (8, false))⟩, 31), (⟨(some 11), .bin false .gtr (.t 10) (.c (.int .i64 (.ofNat 19))), (some (8, false))⟩, 63), (⟨(some 12), .pick (.t 8) (.c (.bool true)) (.t 11), none⟩, 127), (⟨(some 13), .mv (.t 12), none⟩, 255), (⟨(some 14), .faddr 2 (.t 1), (some (13, false))⟩, 511), (⟨(some 15), .load false 1 (.t 14), (some (13, false))⟩, 1023), (⟨(some 16), .len 0 (.t 15), (some (13, false))⟩, 2047), (⟨(some 17), .faddr 0 (.t 1), (some (13, false))⟩, 511), (⟨(some 18), .load false 1 (.t 17), (some (13, false))⟩, 4607), (⟨(some 19), .call (.c (.func (.func 114) [] [])) [(.t 18)], (some (13, false))⟩, 12799), (⟨(some 20), .bin false .neq (.t 16) (.t 19), (some (13, false))⟩, 32767), (⟨(some 21), .pick (.t 13) (.c (.bool true)) (.t 20), none⟩, 65535), (⟨(some 22), .mv (.t 21), none⟩, 131071), (⟨(some 23), .faddr 1 (.t 1), (some (22, false))⟩, 262143), (⟨(some 24), .load false 1 (.t 23), (some (22, false))⟩, 524287), (⟨(some 25), .len 0 (.t 24), (some (22, false))⟩, 1048575), (⟨(some 26), .faddr 0 (.t 1), (some (22, false))⟩, 262143), (⟨(some 27), .load false 1 (.t 26), (some (22, false))⟩, 2359295), (⟨(some 28), .call (.c (.func (.func 115) [] [])) [(.t 27)], (some (22, false))⟩, 6553599), (⟨(some 29), .bin false .gtr (.t 25) (.t 28), (some (22, false))⟩, 16777215), (⟨(some 30), .pick (.t 22) (.c (.bool true)) (.t 29), none⟩, 33554431)]
def bf76_0 : MCode := (.seq (.region g76_0)
 (.cond (.t 44)
 (.seq (.region [⟨(some 2), .mv (.c (.bool false)), none⟩])
 .ret)
 .skip))
def cf76_0 : List MOper := [⟨(some 31), .mv (.t 3), none⟩, ⟨(some 32), .faddr 1 (.t 1), none⟩, ⟨(some 33), .load false 1 (.t 32), none⟩, ⟨(some 34), .len 0 (.t 33), none⟩, ⟨(some 35), .bin false .lss (.t 31) (.t 34), none⟩]
def bf76_1 : MCode := (.seq (.region g76_2)
 (.cond (.t 58)
 (.seq (.region [⟨(some 2), .mv (.c (.bool false)), none⟩])
 .ret)
 .skip))
def cf76_1 : List MOper := [⟨(some 45), .mv (.t 4), none⟩, ⟨(some 46), .faddr 2 (.t 1), none⟩, ⟨(some 47), .load false 1 (.t 46), none⟩, ⟨(some 48), .len 0 (.t 47), none⟩, ⟨(some 49), .bin false .lss (.t 45) (.t 48), none⟩]
def kf76 : MFunc := ⟨59, (.seq (.region [⟨(some 1), .box true (.t 0), none⟩, ⟨(some 2), .mv (.c (.bool false)), none⟩])
 (.seq (.seq (.draw g76_5 [(10, some 14), (10, some 23), (11, some 14), (11, some 23), (19, some 23), (19, none), (20, some 23), (20, none)])
 (.cond (.t 30)
 (.seq (.region [⟨(some 2), .mv (.c (.bool false)), none⟩])
 .ret)
 .skip))
 (.seq (.seq (.region [⟨(some 3), .mv (.c (.int .i64 (.ofNat 0))), none⟩])
 (.block 0 (.loop (lb2 35 3 36 37 0 1 cf76_0 bf76_0))))
 (.seq (.seq (.region [⟨(some 4), .mv (.c (.int .i64 (.ofNat 0))), none⟩])
 (.block 2 (.loop (lb2 49 4 50 51 2 3 cf76_1 bf76_1))))
 (.seq (.region [⟨(some 2), .mv (.c (.bool true)), none⟩])
 .ret))))), [.t 2]⟩
theorem t76 : tbl 76 = some kf76 := by kernel_rfl
def g49_1 : List MOper := [⟨(some 6), .load true 3 (.t 1), none⟩, ⟨(some 7), .call (.c (.func (.func 47) [] [])) [(.t 6), (.c (.int .i64 (.ofNat 4000))), (.c (.int .i64 (.ofNat 1)))], none⟩, ⟨(some 5), .mv (.t 7), none⟩, ⟨(some 8), .extract 0 (.t 5), none⟩, ⟨(some 9), .extract 1 (.t 5), none⟩, ⟨(some 3), .mv (.t 8), none⟩, ⟨(some 4), .mv (.t 9), none⟩]
def g49_2 : List MOper := [⟨(some 10), .mv (.t 4), none⟩, ⟨(some 11), .mv (.t 10), none⟩, ⟨(some 12), .load true 3 (.t 1), (some (11, true))⟩, ⟨(some 13), .call (.c (.func (.func 76) [] [])) [(.t 12)], (some (11, true))⟩, ⟨(some 14), .pick (.t 11) (.t 13) (.c (.bool false)), none⟩, ⟨(some 2), .mv (.t 14), none⟩]
def kf49 : MFunc := ⟨15, (.seq (.region [⟨(some 1), .box true (.t 0), none⟩, ⟨(some 2), .mv (.c (.bool false)), none⟩])
 (.seq (.region g49_1)
 (.seq (.region g49_2)
 .ret))), [.t 2]⟩
theorem t49 : tbl 49 = some kf49 := by kernel_rfl
theorem drun_g {Γ : Cg} {d : Option Nat} {op : MOp} {a : Nat} {g : Nat × Bool} {zs : List (MOper × Nat)} {i id : Nat} {fr : Fr} {st : St} : drun Γ ((⟨d, op, some g⟩, a) :: zs) i id fr st none = match wantedA fr (some g) with
  | some true => (match oprD Γ id fr st op with
   | .val v st' => DR.cons (.val fr st v st') (drun Γ zs (i + 1) (nextId id op) (Fr.put fr d v) st' none)
   | .pan v st' => DR.cons (.pan fr st v st') (drun Γ zs (i + 1) (nextId id op) fr st (some i))
   | .stuck => none)
  | some false => DR.cons (.val fr st .undef st) (drun Γ zs (i + 1) (nextId id op) (Fr.put fr d .undef) st none)
  | none => none := by
 conv => lhs; unfold drun
 simp only [deadA, cond_false]
 cases wantedA fr (some g) with
 | none => rfl
 | some b =>
  cases b with
  | false => rfl
  | true => cases oprD Γ id fr st op <;> rfl
theorem drun_item {Γ : Cg} : ∀ (zs : List (MOper × Nat)) (i id : Nat) (fr : Fr) (st : St) (pan : Option Nat) (its : List DIt) (frE : Fr) (stE : St), drun Γ zs i id fr st pan = some (its, frE, stE) ->
  ∀ (j : Nat) (z : MOper × Nat) (f : Fr) (s : St) (v : AV) (s' : St), zs[j]? = some z -> its[j]? = some (.val f s v s') -> wantedA f z.1.guard = some true -> oprD Γ (idAt zs j id) f s z.1.op = .val v s'
 | [], _, _, _, _, _, _, _, _, _, j, z, _, _, _, _, hz, _, _ => by simp at hz
 | y :: zs, i, id, fr, st, pan, its, frE, stE, h, j, z, f, s, v, s', hz, hi, hw => by
  have key : ∀ (it : DIt) (x : Option DR) (p : Option Nat) (fr1 : Fr) (st1 : St), DR.cons it x = some (its, frE, stE) -> x = drun Γ zs (i + 1) (nextId id y.1.op) fr1 st1 p ->
    (j = 0 -> it = .val f s v s' -> oprD Γ (idAt (y :: zs) j id) f s z.1.op = .val v s') -> oprD Γ (idAt (y :: zs) j id) f s z.1.op = .val v s' := by
   intro it x p fr1 st1 hc hx h0
   cases hx' : x with
   | none => rw [hx'] at hc; simp [DR.cons] at hc
   | some q =>
    rw [hx'] at hc
    simp only [DR.cons, Option.some.injEq, Prod.mk.injEq] at hc
    obtain ⟨hc1, hc2⟩ := hc
    cases j with
    | zero =>
     refine h0 rfl ?_
     rw [<- hc1] at hi; simpa using hi
    | succ j =>
     have : drun Γ zs (i + 1) (nextId id y.1.op) fr1 st1 p = some (q.1, q.2.1, q.2.2) := by rw [<- hx, hx']
     refine drun_item zs (i + 1) (nextId id y.1.op) fr1 st1 p q.1 q.2.1 q.2.2 this j z f s v s' (by simpa using hz) (by rw [<- hc1] at hi; simpa using hi) hw
  unfold drun at h
  cases hd : deadA pan y.2 with
  | true =>
   rw [hd] at h
   simp only [cond_true] at h
   exact key _ _ _ _ _ h rfl fun _ h => by cases h
  | false =>
   rw [hd] at h
   simp only [cond_false] at h
   cases hw2 : wantedA fr y.1.guard with
   | none => rw [hw2] at h; cases h
   | some b =>
    rw [hw2] at h
    cases b with
    | false =>
     simp only at h
     refine key _ _ _ _ _ h rfl fun hj he => ?_
     subst hj
     simp only [List.getElem?_cons_zero, Option.some.injEq] at hz; subst hz
     injection he with e1
     rw [<- e1, hw2] at hw; cases hw
    | true =>
     simp only at h
     cases ho : oprD Γ id fr st y.1.op with
     | val u s1 =>
      rw [ho] at h
      refine key _ _ _ _ _ h rfl fun hj he => ?_
      subst hj
      simp only [List.getElem?_cons_zero, Option.some.injEq] at hz; subst hz
      injection he with e1 e2 e3 e4
      rw [<- e1, <- e2, <- e3, <- e4]; exact ho
     | pan u s1 =>
      rw [ho] at h
      cases pan with
      | none =>
       simp only at h
       exact key _ _ _ _ _ h rfl fun _ h => by cases h
      | some p => simp at h
     | stuck => rw [ho] at h; cases h
def allSt (st : St) : List DIt -> Prop
 | [] => True
 | .val _ s _ _ :: l => s = st /\ allSt st l
 | _ :: _ => False
theorem allSt_at {st : St} : ∀ {l : List DIt}, allSt st l -> ∀ {j : Nat} {it : DIt}, l[j]? = some it -> ∃ f v s', it = .val f st v s'
 | [], _, j, it, h => by simp at h
 | x :: l, h, j, it, hj => by
  cases x with
  | val f s v s' =>
   simp only [allSt] at h
   cases j with
   | zero => simp only [List.getElem?_cons_zero, Option.some.injEq] at hj; subst hj; exact ⟨f, v, s', by rw [h.1]⟩
   | succ j => exact allSt_at h.2 (by simpa using hj)
  | pan => simp [allSt] at h
  | dead => simp [allSt] at h
def beqIts (its : List DIt) (chk : List (Nat × Option Nat)) : Prop := ∀ q ∈ chk, ∀ f s v s', its[q.1]? = some (.val f s v s') -> avBeq v v = true
theorem adraw_still {Γ : Cg} {zs : List (MOper × Nat)} {chk : List (Nat × Option Nat)} {fr frE : Fr} {st : St} {its : List DIt} (hpre : preA zs st = st) (h : drun Γ zs 0 st.next fr st none = some (its, frE, st)) (hp : panOf its = none)
  (hs : allSt st its) (hb : beqIts its chk) : adraw Γ zs chk fr st = .ok frE st := by
 refine adraw_ok (by rw [hpre]; exact h) hp (List.all_eq_true.2 fun q hq => ?_)
 unfold chkB
 split
 ·rename_i z f s v s' hz hi
  cases hw : wantedA f z.1.guard with
  | none => rfl
  | some b =>
   cases b with
   | false => rfl
   | true =>
    obtain ⟨f', v', s'', he⟩ := allSt_at hs hi
    injection he with e1 e2 e3 e4
    have hit := drun_item zs 0 st.next fr st none its frE st h q.1 z f s v s' hz hi hw
    have hb' := hb q hq f s v s' hi
    have key : (frzLoad z.1.op f || sameAt Γ (idAt zs q.1 st.next) f st z.1.op v) = true := by
     rw [e2] at hit
     simp only [sameAt, hit, hb', Bool.or_true]
    simp only
    split
    ·exact key
    ·split
     ·rename_i hk
      obtain ⟨_, _, _, he'⟩ := allSt_at hs hk
      injection he' with _ e5
      rw [e5]; exact key
     ·rename_i hk
      obtain ⟨_, _, _, he'⟩ := allSt_at hs hk
      cases he'
     ·rfl
 ·rfl
theorem goodL_cons (d : Dv) (l : List Dv) : Dv.goodL gr (d :: l) = (d.good gr && Dv.goodL gr l) := by simp only [Dv.goodL]
theorem bint (n : Int) : avBeq (.int .i64 n) (.int .i64 n) = true := by simp only [avBeq, intBeq_refl, decide_true, Bool.and_true]
set_option maxHeartbeats 4000000 in
theorem right_run (d : Dv) : ∀ (n : Nat) (Y : Yenv) (F : Nat -> Prop) (st : St) (cs : List AV), RepD F st d cs -> (∀ i, F i -> i < st.next) -> d.fz + 4100 <= n -> ∃ st', R n Y 76 [.agg cs] st = .ret (.bool (d.good gr)) st' /\ Keeps st st' := by
 induction hs : d.fz using Nat.strongRecOn generalizing d with
 | _ s ih =>
 intro n Y F st cs hr hF hn
 cases d with
 | mk r nv ev vs nl ex l =>
 simp only [RepD] at hr
 obtain ⟨sv, xv, sl, xs, rfl, hsv, hrv, hsl, hrs⟩ := hr
 simp only [Dv.fz] at hs
 obtain ⟨m, rfl⟩ : ∃ m, n = m + 1 := ⟨n - 1, by omega⟩
 have b00 : Nat.beq 0 0 = true := rfl
 have b22 : Nat.beq 2 2 = true := rfl
 have hxl := hrs.len
 have hxv := hrv.len
 have hbl := hsl.beq (RepDs.beq l xs hrs)
 have hbv := hsv.beq (RepTs.beq vs xv hrv)
 have lenl := hsl.len st
 have lenv := hsv.len st
 have car : ((gT m).cg Y).fn 114 [.int .i64 r] st = .ret (.int .i64 (.ofNat (arN r))) st := by
  obtain ⟨m', rfl⟩ : ∃ m', m = m' + 1 := ⟨m - 1, by omega⟩
  exact arity2_run m' Y r st
 have cva : ((gT m).cg Y).fn 115 [.int .i64 r] st = .ret (.int .i64 (.ofNat (vaN r))) st := by
  obtain ⟨m', rfl⟩ : ∃ m', m = m' + 1 := ⟨m - 1, by omega⟩
  exact values2_run m' Y r st
 have e1 : binB false .lss (.int .i64 r) (.int .i64 (.ofNat 1)) = some (.bool (decide (r < 1))) := rfl
 have e2 : binB false .gtr (.int .i64 r) (.int .i64 (.ofNat 19)) = some (.bool (decide (r > 19))) := rfl
 have e3 : binB false .neq (.int .i64 (.ofNat xs.length)) (.int .i64 (.ofNat (arN r))) = some (.bool (Int.ofNat l.length != Int.ofNat (arN r))) := by rw [hxl]; rfl
 have e4 : binB false .gtr (.int .i64 (.ofNat xv.length)) (.int .i64 (.ofNat (vaN r))) = some (.bool (decide (Int.ofNat vs.length > Int.ofNat (vaN r)))) := by rw [hxv]; rfl
 have hgood : Dv.good gr (.mk r nv ev vs nl ex l) = (!(((decide (r < 1) || decide (r > 19)) || (Int.ofNat l.length != Int.ofNat (arN r))) || decide (Int.ofNat vs.length > Int.ofNat (vaN r))) && (vs.all gr && Dv.goodL gr l)) := by
  simp only [Dv.good, Bool.not_or, Bool.and_assoc]
  have h1 : decide (1 <= r) = !decide (r < 1) := by by_cases h : r < 1 <;> simp [h] <;> omega
  have h2 : decide (r <= 19) = !decide (r > 19) := by by_cases h : r > 19 <;> simp [h] <;> omega
  have h3 : (l.length == arN r) = !(Int.ofNat l.length != Int.ofNat (arN r)) := by
   by_cases h : l.length = arN r
   ·simp [h]
   ·have a1 : (Int.ofNat l.length != Int.ofNat (arN r)) = true := by simp; omega
    have a2 : (l.length == arN r) = false := by simpa using h
    rw [a1, a2]; rfl
  have h4 : decide (vs.length <= vaN r) = !decide (Int.ofNat vs.length > Int.ofNat (vaN r)) := by
   by_cases h : vs.length <= vaN r
   ·have a1 : decide (Int.ofNat vs.length > Int.ofNat (vaN r)) = false := decide_eq_false (by simp; omega)
    rw [a1, decide_eq_true h]; rfl
   ·have a1 : decide (Int.ofNat vs.length > Int.ofNat (vaN r)) = true := decide_eq_true (by simp; omega)
    rw [a1, decide_eq_false h]; rfl
  rw [h1, h2, h3, h4]
 rw [hgood]
 generalize decide (r < 1) = B1 at *
 generalize decide (r > 19) = B2 at *
 generalize (Int.ofNat l.length != Int.ofNat (arN r)) = B3 at *
 generalize decide (Int.ofNat vs.length > Int.ofNat (vaN r)) = B4 at *
 obtain ⟨fA14, hA14⟩ : ∃ fA, fA = frOf 0 [.agg [.int .i64 r, sv, sl]] Fr.nil := ⟨_, rfl⟩
 have gA14_0 : fA14.get 0 = some (.agg [.int .i64 r, sv, sl]) := by rw [hA14]; simp only [frOf, Fr.get_set, reduceAdd, reduceEqDiff, ↓reduceIte]
 have dA14 : fA14.ds = [] := by rw [hA14]; rfl
 obtain ⟨fR15, hR15, kR15, oR15_1, oR15_2⟩ : ∃ fr', arun ((gT m).cg Y) [⟨(some 1), .box true (.t 0), none⟩, ⟨(some 2), .mv (.c (.bool false)), none⟩] fA14 st = .ok fr' st /\ Kp [] fA14 fr' /\ fr'.get 1 = some (.fptr [.int .i64 r, sv, sl] 0) /\ fr'.get 2 = some (.bool false) := ⟨_, by simp only [amE, reduceEqDiff, ↓reduceIte, reduceCtorEq, reduceAdd, gA14_0] <;> rfl, Kp.refl.s.s, gn gh, gh⟩
 have dR15 := kR15.1.trans dA14
 obtain ⟨fD, hD, kD, oD⟩ : ∃ fr', adraw ((gT m).cg Y) g76_5 [(10, some 14), (10, some 23), (11, some 14), (11, some 23), (19, some 23), (19, none), (20, some 23), (20, none)] fR15 st = .ok fr' st /\ Kp [1] fR15 fr' /\ fr'.get 30 = some (.bool (((B1 || B2) || B3) || B4)) := by
  cases B1 with
  | true =>
   refine ⟨?v1ta, ?v1tb, ?v1tc, ?v1td⟩
   case v1tb =>
    refine adraw_still (its := ?v1ti) rfl ?v1tx ?v1ty ?v1tz ?v1tw
    case v1tx =>
     simp only [amE, reduceEqDiff, ↓reduceIte, reduceCtorEq, reduceAdd, g76_5, drun_cons, drun_g, drun_nil, DR.cons, oprD, nextId, oR15_1, faf, ld0f, ld1f, ld2f, lenl, lenv, car, cva, e1, e2, e3, e4, Bool.not_true, Bool.not_false]
     rfl
    case v1ty => rfl
    case v1tz =>
     repeat' first | exact trivial | refine ⟨rfl, ?_⟩
    case v1tw =>
     intro q hq f s v s' hi
     simp only [List.mem_cons, List.not_mem_nil, or_false] at hq
     rcases hq with rfl | rfl | rfl | rfl | rfl | rfl | rfl | rfl <;> (have e := (DIt.val.inj (Option.some.inj hi)).2.2.1; rw [<- e]; first | exact hbl | exact hbv | exact bint _ | rfl)
   case v1tc => repeat (first | exact Kp.refl | refine Kp.set (by decide) ?_)
   case v1td => simp only [Fr.get_set, reduceEqDiff, ↓reduceIte, Bool.true_or, Bool.false_or]
  | false =>
   cases B2 with
   | true =>
    refine ⟨?v2ta, ?v2tb, ?v2tc, ?v2td⟩
    case v2tb =>
     refine adraw_still (its := ?v2ti) rfl ?v2tx ?v2ty ?v2tz ?v2tw
     case v2tx =>
      simp only [amE, reduceEqDiff, ↓reduceIte, reduceCtorEq, reduceAdd, g76_5, drun_cons, drun_g, drun_nil, DR.cons, oprD, nextId, oR15_1, faf, ld0f, ld1f, ld2f, lenl, lenv, car, cva, e1, e2, e3, e4, Bool.not_true, Bool.not_false]
      rfl
     case v2ty => rfl
     case v2tz =>
      repeat' first | exact trivial | refine ⟨rfl, ?_⟩
     case v2tw =>
      intro q hq f s v s' hi
      simp only [List.mem_cons, List.not_mem_nil, or_false] at hq
      rcases hq with rfl | rfl | rfl | rfl | rfl | rfl | rfl | rfl <;> (have e := (DIt.val.inj (Option.some.inj hi)).2.2.1; rw [<- e]; first | exact hbl | exact hbv | exact bint _ | rfl)
    case v2tc => repeat (first | exact Kp.refl | refine Kp.set (by decide) ?_)
    case v2td => simp only [Fr.get_set, reduceEqDiff, ↓reduceIte, Bool.true_or, Bool.false_or]
   | false =>
    cases B3 with
    | true =>
     refine ⟨?v3ta, ?v3tb, ?v3tc, ?v3td⟩
     case v3tb =>
      refine adraw_still (its := ?v3ti) rfl ?v3tx ?v3ty ?v3tz ?v3tw
      case v3tx =>
       simp only [amE, reduceEqDiff, ↓reduceIte, reduceCtorEq, reduceAdd, g76_5, drun_cons, drun_g, drun_nil, DR.cons, oprD, nextId, oR15_1, faf, ld0f, ld1f, ld2f, lenl, lenv, car, cva, e1, e2, e3, e4, Bool.not_true, Bool.not_false]
       rfl
      case v3ty => rfl
      case v3tz =>
       repeat' first | exact trivial | refine ⟨rfl, ?_⟩
      case v3tw =>
       intro q hq f s v s' hi
       simp only [List.mem_cons, List.not_mem_nil, or_false] at hq
       rcases hq with rfl | rfl | rfl | rfl | rfl | rfl | rfl | rfl <;> (have e := (DIt.val.inj (Option.some.inj hi)).2.2.1; rw [<- e]; first | exact hbl | exact hbv | exact bint _ | rfl)
     case v3tc => repeat (first | exact Kp.refl | refine Kp.set (by decide) ?_)
     case v3td => simp only [Fr.get_set, reduceEqDiff, ↓reduceIte, Bool.true_or, Bool.false_or]
    | false =>
     cases B4 with
     | true =>
      refine ⟨?v4ta, ?v4tb, ?v4tc, ?v4td⟩
      case v4tb =>
       refine adraw_still (its := ?v4ti) rfl ?v4tx ?v4ty ?v4tz ?v4tw
       case v4tx =>
        simp only [amE, reduceEqDiff, ↓reduceIte, reduceCtorEq, reduceAdd, g76_5, drun_cons, drun_g, drun_nil, DR.cons, oprD, nextId, oR15_1, faf, ld0f, ld1f, ld2f, lenl, lenv, car, cva, e1, e2, e3, e4, Bool.not_true, Bool.not_false]
        rfl
       case v4ty => rfl
       case v4tz =>
        repeat' first | exact trivial | refine ⟨rfl, ?_⟩
       case v4tw =>
        intro q hq f s v s' hi
        simp only [List.mem_cons, List.not_mem_nil, or_false] at hq
        rcases hq with rfl | rfl | rfl | rfl | rfl | rfl | rfl | rfl <;> (have e := (DIt.val.inj (Option.some.inj hi)).2.2.1; rw [<- e]; first | exact hbl | exact hbv | exact bint _ | rfl)
      case v4tc => repeat (first | exact Kp.refl | refine Kp.set (by decide) ?_)
      case v4td => simp only [Fr.get_set, reduceEqDiff, ↓reduceIte, Bool.true_or, Bool.false_or]
     | false =>
      refine ⟨?v4fa, ?v4fb, ?v4fc, ?v4fd⟩
      case v4fb =>
       refine adraw_still (its := ?v4fi) rfl ?v4fx ?v4fy ?v4fz ?v4fw
       case v4fx =>
        simp only [amE, reduceEqDiff, ↓reduceIte, reduceCtorEq, reduceAdd, g76_5, drun_cons, drun_g, drun_nil, DR.cons, oprD, nextId, oR15_1, faf, ld0f, ld1f, ld2f, lenl, lenv, car, cva, e1, e2, e3, e4, Bool.not_true, Bool.not_false]
        rfl
       case v4fy => rfl
       case v4fz =>
        repeat' first | exact trivial | refine ⟨rfl, ?_⟩
       case v4fw =>
        intro q hq f s v s' hi
        simp only [List.mem_cons, List.not_mem_nil, or_false] at hq
        rcases hq with rfl | rfl | rfl | rfl | rfl | rfl | rfl | rfl <;> (have e := (DIt.val.inj (Option.some.inj hi)).2.2.1; rw [<- e]; first | exact hbl | exact hbv | exact bint _ | rfl)
      case v4fc => repeat (first | exact Kp.refl | refine Kp.set (by decide) ?_)
      case v4fd => simp only [Fr.get_set, reduceEqDiff, ↓reduceIte, Bool.true_or, Bool.false_or]
 have qD := kD.at (k := 1) (by decide) oR15_1
 have dD := kD.1.trans dR15
 generalize (((B1 || B2) || B3) || B4) = BB at *
 cases BB with
 | true =>
  obtain ⟨fR16, hR16, kR16, oR16_2⟩ : ∃ fr', arun ((gT m).cg Y) [⟨(some 2), .mv (.c (.bool false)), none⟩] fD st = .ok fr' st /\ Kp [] fD fr' /\ fr'.get 2 = some (.bool false) := ⟨_, by simp only [amE, reduceEqDiff, ↓reduceIte, reduceCtorEq, reduceAdd] <;> rfl, Kp.refl.s, gh⟩
  have dR16 := kR16.1.trans dD
  refine ⟨st, fun_of (mf := kf76) (fr := fR16) t76 rfl (.inl ?q16) dR16 (by simp only [kf76, amE, oR16_2, Bool.not_true, Bool.false_and]), Keeps.refl st⟩
  case q16 =>
   rw [<- hA14]
   simp only [amE, reduceEqDiff, ↓reduceIte, reduceCtorEq, reduceAdd, kf76, b00, hR15, hD, hR16, oD]
 | false =>
  rw [Bool.not_false, Bool.true_and]
  obtain ⟨fR17, hR17, kR17, oR17_3⟩ : ∃ fr', arun ((gT m).cg Y) [⟨(some 3), .mv (.c (.int .i64 (.ofNat 0))), none⟩] fD st = .ok fr' st /\ Kp [1] fD fr' /\ fr'.get 3 = some (.int .i64 (.ofNat 0)) := ⟨_, by simp only [amE, reduceEqDiff, ↓reduceIte, reduceCtorEq, reduceAdd] <;> rfl, Kp.refl.s, gh⟩
  have gR17_1 := kR17.g 1 qD
  have dR17 := kR17.1.trans dD
  have hC0 : ∀ k fr s, k <= xv.length -> Kp [1] fR17 fr -> fr.get 3 = some (.int .i64 (.ofNat k)) -> (Keeps st s /\ (vs.drop k).all gr = vs.all gr) ->
    ∃ fr', arun ((gT m).cg Y) cf76_0 fr s = .ok fr' s /\ Kp [3, 1] fr fr' /\ fr'.get 35 = some (.bool (decide (k < xv.length))) /\ (Keeps st s /\ (vs.drop k).all gr = vs.all gr) := by
   intro k fr s hk hkp gi hq
   have q1 := hkp.at (k := 1) (by decide) gR17_1
   have hlen := hsv.len s
   refine ⟨?m00, ?m01, ?m02, ?m03, hq⟩
   case m01 =>
    simp only [amE, reduceEqDiff, ↓reduceIte, reduceCtorEq, reduceAdd, cf76_0, q1, gi, faf, ld1f, hlen, lssD]
    rfl
   case m02 => repeat (first | exact Kp.refl | refine Kp.set (by decide) ?_)
   case m03 => simp only [Fr.get_set, reduceEqDiff, ↓reduceIte]
  have hB0 : ∀ k fr s, k < xv.length -> Kp [1] fR17 fr -> fr.get 3 = some (.int .i64 (.ofNat k)) -> (Keeps st s /\ (vs.drop k).all gr = vs.all gr) ->
    (∃ FR s', acode (gT m) Y m bf76_0 none fr s = .norm FR s' /\ Kp [3, 1] fr FR /\ (Keeps st s' /\ (vs.drop (k + 1)).all gr = vs.all gr)) ∨
    (∃ FR s', acode (gT m) Y m bf76_0 none fr s = .ret FR s' /\ (FR.ds = [] /\ FR.get 2 = some (.bool false) /\ Keeps st s' /\ vs.all gr = false)) := by
   intro k fr s hk hkp gi ⟨hks, hq⟩
   obtain ⟨t, ht, hdr⟩ := drop_at (l := vs) (k := k) (by omega)
   obtain ⟨x, hx, hrx⟩ := hrv.at ht
   obtain ⟨p, ia, ld⟩ := hsv.at hx
   have hsame : Same F st s := Same.of (hks) hF
   have ld := ld s hsame
   have hfz := Tm.fzL_mem (List.mem_of_getElem? ht)
   obtain ⟨s', hcall0, hk'⟩ := rGround_run t m Y F s x (hrx.mono hsame fun _ h => h) (fun i hi => Nat.lt_of_lt_of_le (hF i hi) hks.1) (by omega)
   have hcall : ((gT m).cg Y).fn 116 [.agg x] s = .ret (.bool (gr t)) s' := hcall0
   have q1 := hkp.at (k := 1) (by decide) gR17_1
   rw [hdr, List.all_cons] at hq
   generalize gr t = ok at *
   obtain ⟨fR18, hR18, kR18, oR18_44⟩ : ∃ fr', arun ((gT m).cg Y) g76_0 fr s = .ok fr' s' /\ Kp [1, 3] fr fr' /\ fr'.get 44 = some (.bool (!ok)) := ⟨_, by simp only [amE, reduceEqDiff, ↓reduceIte, reduceCtorEq, reduceAdd, q1, gi, g76_0, faf, ld1f, ia, ld, hcall, unN, Bool.not_true, Bool.not_false] <;> rfl, Kp.refl.s.s.s.s.s.s.s, gh⟩
   cases ok with
   | true =>
    refine .inl ⟨fR18, s', ?q18, kR18.sub (by decide), hks.trans hk', by simpa using hq⟩
    case q18 => simp only [amE, reduceEqDiff, ↓reduceIte, reduceCtorEq, reduceAdd, bf76_0, hR18, oR18_44, Bool.not_true]
   | false =>
    obtain ⟨fR19, hR19, kR19, oR19_2⟩ : ∃ fr', arun ((gT m).cg Y) [⟨(some 2), .mv (.c (.bool false)), none⟩] fR18 s' = .ok fr' s' /\ Kp [] fR18 fr' /\ fr'.get 2 = some (.bool false) := ⟨_, by simp only [amE, reduceEqDiff, ↓reduceIte, reduceCtorEq, reduceAdd] <;> rfl, Kp.refl.s, gh⟩
    refine .inr ⟨fR19, s', ?q19, kR19.1.trans (kR18.1.trans (hkp.1.trans dR17)), oR19_2, hks.trans hk', by rw [<- hq]; rfl⟩
    case q19 => simp only [amE, reduceEqDiff, ↓reduceIte, reduceCtorEq, reduceAdd, bf76_0, hR18, hR19, oR18_44, Bool.not_false]
  rcases floop (Γ := (gT m)) (Y := Y) (m := m) (N := xv.length) (c := 35) (i := 3) (j1 := 36) (j2 := 37) (b := 0) (b1 := 1) (ro := none) (C := cf76_0) (B := bf76_0) (L := [1]) (fr0 := fR17) (by decide) (by decide) (by decide) hsv.2.1
   (Q := fun k _ s => Keeps st s /\ (vs.drop k).all gr = vs.all gr) (fun _ _ _ _ _ _ h => h) hC0 hB0 xv.length 0 fR17 st m (by omega) (by omega) Kp.refl oR17_3 ⟨Keeps.refl st, rfl⟩
   with ⟨FR, s2, h1, h2, h3, h4⟩ | ⟨FR, s2, h1, h2, h3, h4, h5⟩
  rotate_left
  ·rw [h5, Bool.false_and]
   refine ⟨s2, fun_of (mf := kf76) (fr := FR) t76 rfl (.inl ?w3) h2 (by simp only [kf76, amE, h3]), h4⟩
   case w3 =>
    rw [<- hA14]
    simp only [amE, reduceEqDiff, ↓reduceIte, reduceCtorEq, reduceAdd, kf76, b00, hR15, hD, hR17, oD, h1]
  rw [hxv, List.drop_length, List.all_nil] at h4
  rw [<- h4, Bool.true_and]
  have z1 := h2.at (k := 1) (by decide) gR17_1
  have dF := h2.1.trans dR17
  obtain ⟨fR20, hR20, kR20, oR20_4⟩ : ∃ fr', arun ((gT m).cg Y) [⟨(some 4), .mv (.c (.int .i64 (.ofNat 0))), none⟩] FR s2 = .ok fr' s2 /\ Kp [1] FR fr' /\ fr'.get 4 = some (.int .i64 (.ofNat 0)) := ⟨_, by simp only [amE, reduceEqDiff, ↓reduceIte, reduceCtorEq, reduceAdd] <;> rfl, Kp.refl.s, gh⟩
  have gR20_1 := kR20.g 1 z1
  have dR20 := kR20.1.trans dF
  have hC1 : ∀ k fr s, k <= xs.length -> Kp [1] fR20 fr -> fr.get 4 = some (.int .i64 (.ofNat k)) -> (Keeps s2 s /\ Dv.goodL gr (l.drop k) = Dv.goodL gr l) ->
    ∃ fr', arun ((gT m).cg Y) cf76_1 fr s = .ok fr' s /\ Kp [4, 1] fr fr' /\ fr'.get 49 = some (.bool (decide (k < xs.length))) /\ (Keeps s2 s /\ Dv.goodL gr (l.drop k) = Dv.goodL gr l) := by
   intro k fr s hk hkp gi hq
   have q1 := hkp.at (k := 1) (by decide) gR20_1
   have hlen := hsl.len s
   refine ⟨?m10, ?m11, ?m12, ?m13, hq⟩
   case m11 =>
    simp only [amE, reduceEqDiff, ↓reduceIte, reduceCtorEq, reduceAdd, cf76_1, q1, gi, faf, ld2f, hlen, lssD]
    rfl
   case m12 => repeat (first | exact Kp.refl | refine Kp.set (by decide) ?_)
   case m13 => simp only [Fr.get_set, reduceEqDiff, ↓reduceIte]
  have hB1 : ∀ k fr s, k < xs.length -> Kp [1] fR20 fr -> fr.get 4 = some (.int .i64 (.ofNat k)) -> (Keeps s2 s /\ Dv.goodL gr (l.drop k) = Dv.goodL gr l) ->
    (∃ FR s', acode (gT m) Y m bf76_1 none fr s = .norm FR s' /\ Kp [4, 1] fr FR /\ (Keeps s2 s' /\ Dv.goodL gr (l.drop (k + 1)) = Dv.goodL gr l)) ∨
    (∃ FR s', acode (gT m) Y m bf76_1 none fr s = .ret FR s' /\ (FR.ds = [] /\ FR.get 2 = some (.bool false) /\ Keeps s2 s' /\ Dv.goodL gr l = false)) := by
   intro k fr s hk hkp gi ⟨hks, hq⟩
   obtain ⟨t, ht, hdr⟩ := drop_at (l := l) (k := k) (by omega)
   obtain ⟨x, hx, hrx⟩ := hrs.at ht
   obtain ⟨p, ia, ld⟩ := hsl.at hx
   have hsame : Same F st s := Same.of (h3.trans hks) hF
   have ld := ld s hsame
   have hfz := Dv.fzL_mem (List.mem_of_getElem? ht)
   obtain ⟨s', hcall0, hk'⟩ := ih t.fz (by omega) t rfl m Y F s x (hrx.mono hsame fun _ h => h) (fun i hi => Nat.lt_of_lt_of_le (hF i hi) (h3.trans hks).1) (by omega)
   have hcall : ((gT m).cg Y).fn 76 [.agg x] s = .ret (.bool (t.good gr)) s' := hcall0
   have q1 := hkp.at (k := 1) (by decide) gR20_1
   rw [hdr, goodL_cons] at hq
   generalize Dv.good gr t = ok at *
   obtain ⟨fR21, hR21, kR21, oR21_58⟩ : ∃ fr', arun ((gT m).cg Y) g76_2 fr s = .ok fr' s' /\ Kp [1, 4] fr fr' /\ fr'.get 58 = some (.bool (!ok)) := ⟨_, by simp only [amE, reduceEqDiff, ↓reduceIte, reduceCtorEq, reduceAdd, q1, gi, g76_2, faf, ld2f, ia, ld, hcall, unN, Bool.not_true, Bool.not_false] <;> rfl, Kp.refl.s.s.s.s.s.s.s, gh⟩
   cases ok with
   | true =>
    refine .inl ⟨fR21, s', ?q21, kR21.sub (by decide), hks.trans hk', by simpa using hq⟩
    case q21 => simp only [amE, reduceEqDiff, ↓reduceIte, reduceCtorEq, reduceAdd, bf76_1, hR21, oR21_58, Bool.not_true]
   | false =>
    obtain ⟨fR22, hR22, kR22, oR22_2⟩ : ∃ fr', arun ((gT m).cg Y) [⟨(some 2), .mv (.c (.bool false)), none⟩] fR21 s' = .ok fr' s' /\ Kp [] fR21 fr' /\ fr'.get 2 = some (.bool false) := ⟨_, by simp only [amE, reduceEqDiff, ↓reduceIte, reduceCtorEq, reduceAdd] <;> rfl, Kp.refl.s, gh⟩
    refine .inr ⟨fR22, s', ?q22, kR22.1.trans (kR21.1.trans (hkp.1.trans dR20)), oR22_2, hks.trans hk', by rw [<- hq]; rfl⟩
    case q22 => simp only [amE, reduceEqDiff, ↓reduceIte, reduceCtorEq, reduceAdd, bf76_1, hR21, hR22, oR21_58, Bool.not_false]
  rcases floop (Γ := (gT m)) (Y := Y) (m := m) (N := xs.length) (c := 49) (i := 4) (j1 := 50) (j2 := 51) (b := 2) (b1 := 3) (ro := none) (C := cf76_1) (B := bf76_1) (L := [1]) (fr0 := fR20) (by decide) (by decide) (by decide) hsl.2.1
   (Q := fun k _ s => Keeps s2 s /\ Dv.goodL gr (l.drop k) = Dv.goodL gr l) (fun _ _ _ _ _ _ h => h) hC1 hB1 xs.length 0 fR20 s2 m (by omega) (by omega) Kp.refl oR20_4 ⟨Keeps.refl s2, rfl⟩
   with ⟨FR2, s3, i1, i2, i3, i4⟩ | ⟨FR2, s3, i1, i2, i3, i4, i5⟩
  ·rw [hxl, List.drop_length] at i4
   have i5 : Dv.goodL gr l = true := by rw [<- i4]; simp only [Dv.goodL]
   rw [i5]
   refine ⟨s3, fun_of (mf := kf76) (fr := FR2.set 2 (some (.bool true))) t76 rfl (.inl ?w5) (i2.1.trans dR20) ?w6, h3.trans i3⟩
   case w5 =>
    rw [<- hA14]
    simp only [amE, reduceEqDiff, ↓reduceIte, reduceCtorEq, reduceAdd, kf76, b00, b22, hR15, hD, hR17, h1, hR20, oD, i1]
   case w6 => simp only [kf76, amE, Fr.get_set, ↓reduceIte]
  ·rw [i5]
   refine ⟨s3, fun_of (mf := kf76) (fr := FR2) t76 rfl (.inl ?w7) i2 (by simp only [kf76, amE, i3]), h3.trans i4⟩
   case w7 =>
    rw [<- hA14]
    simp only [amE, reduceEqDiff, ↓reduceIte, reduceCtorEq, reduceAdd, kf76, b00, b22, hR15, hD, hR17, h1, hR20, oD, i1]
end
end Go.AM.D16
