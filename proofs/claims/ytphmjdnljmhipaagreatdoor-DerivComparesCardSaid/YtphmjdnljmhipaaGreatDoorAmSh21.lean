import Derived.Test.YtphmjdnljmhipaaGreatDoorAmSh20
import Derived.Test.YtphmjdnljmhipaaGreatDoorAmSh6
set_option linter.unusedSimpArgs false
set_option linter.unusedVariables false
set_option maxRecDepth 100000
namespace Go.AM.D16
open Go Go.AM
open Nat (reduceEqDiff reduceAdd)
def WyZ (P : Nat -> Prop) (s : St) (sl : AV) (l : List Int) : Prop := (sl = .nilsl /\ l = []) \/ ∃ id, sl = .own id 0 l.length 1 none l.length /\ P id /\ s.get id = some (.row (l.map (AV.int .i64))) /\ 1 <= l.length
theorem WyZ.mono {P P' : Nat -> Prop} {s s' : St} {sl : AV} {l : List Int} (h : WyZ P s sl l) (k : Same P s s') (hP : ∀ i, P i -> P' i) : WyZ P' s' sl l := by
 rcases h with h | ⟨id, h1, h2, h3, h4⟩
 ·exact .inl h
 ·exact .inr ⟨id, h1, hP _ h2, k.get h2 h3, h4⟩
theorem WyZ.len {P : Nat -> Prop} {s : St} {sl : AV} {l : List Int} (h : WyZ P s sl l) (s' : St) : (bif lenFits 0 sl then lenA s' sl else none) = some (.int .i64 (.ofNat l.length)) := by
 rcases h with ⟨rfl, rfl⟩ | ⟨id, rfl, _⟩ <;> rfl
theorem WyZ.app {P : Nat -> Prop} {s : St} {sl : AV} {l : List Int} (h : WyZ P s sl l) (k : Int) (hw : l.length <= 100000) :
  ∃ sl1 sl2 s2, sliceA 1 sl none (some (.int .i64 (.ofNat l.length))) (some (.int .i64 (.ofNat l.length))) = some sl1 /\ appendA 8 1 s sl1 1 [.int .i64 k] = some (sl2, s2) /\ Keeps s s2 /\ s2.next = s.next + 1 /\ WyZ (fun i => i = s.next) s2 sl2 (l ++ [k]) := by
 rcases h with ⟨rfl, rfl⟩ | ⟨id, rfl, hp, hg, hw1⟩
 ·exact ⟨.nilsl, .own s.next 0 1 1 none 1, s.new (.row [.int .i64 k]), rfl, rfl, Keeps.new _ _, rfl, .inr ⟨s.next, rfl, rfl, by rw [St.get_new, if_pos rfl]; rfl, Nat.le_refl _⟩⟩
 ·refine ⟨.own id 0 l.length 1 (some l.length) 0, .own s.next 0 (l.length + 1) 1 none (l.length + 1), s.new (.row (l.map (AV.int .i64) ++ [.int .i64 k])), ?_, ?_, Keeps.new _ _, rfl, .inr ⟨s.next, by simp, rfl, by rw [St.get_new, if_pos rfl]; simp, by simp⟩⟩
  ·have h1 : l.length.ble l.length = true := Nat.ble_eq_true_of_le (Nat.le_refl _)
   have h0 : Nat.ble 0 l.length = true := Nat.ble_eq_true_of_le (Nat.zero_le _)
   show sliceN 1 (.own id 0 l.length 1 none l.length) none (some l.length) (some l.length) = _
   simp only [sliceN, Option.getD_none, Option.getD_some, h1, h0, Option.isSome_some, Nat.zero_mul, Nat.sub_zero]
   rfl
  ·have hcl : (l.map (AV.int .i64)).length = l.length := by simp
   have h0 : Nat.beq 1 0 = false := rfl
   have h1 : ((l.length + 1) * 8).ble 140737488355328 = true := Nat.ble_eq_true_of_le (by omega)
   have h2 : (l.length + 1).ble 140737488355328 = true := Nat.ble_eq_true_of_le (by omega)
   have h3 : (0 + l.length * 1).ble (l.map (AV.int .i64)).length = true := Nat.ble_eq_true_of_le (by omega)
   have h4 : fitsA (l.length + 1) 0 (some l.length) = some false := by
    have : (l.length + 1).ble l.length = false := by
     cases hc : (l.length + 1).ble l.length with
     | false => rfl
     | true => have := Nat.le_of_ble_eq_true hc; omega
    simp only [fitsA, this]
   have h6 : [AV.int .i64 k].all AV.one = true := rfl
   have h7 : ((l.map (AV.int .i64)).drop 0).take (l.length * 1) = l.map (AV.int .i64) := by rw [List.drop_zero, List.take_of_length_le (by omega)]
   unfold appendA
   simp only [h0, cond_false, hg, h1, h2, h3, h4, h6, h7]; rfl
theorem cloneZ {P : Nat -> Prop} {st : St} {sl : AV} {l : List Int} (h : WyZ P st sl l) (n : Nat) (Y : Yenv) (hw : l.length <= 100000) : ∃ v st', R (n + 1) Y 45 [sl] st = .ret v st' /\ Keeps st st' /\ ZR (fun i => st.next <= i /\ i < st'.next) st' v l := by
 have b00 : Nat.beq 0 0 = true := rfl
 rcases h with ⟨rfl, rfl⟩ | ⟨id, rfl, hp, hg, hw1⟩
 ·refine ⟨.nilsl, st, fun_of (mf := kf45) (fr := ?a0) t45 rfl (.inl ?a1) ?a2 ?a3, Keeps.refl st, .inl ⟨rfl, .inl rfl⟩⟩
  case a1 =>
   have e : eqNilA 1 .eql .nilsl .nilsl = some (.bool true) := rfl
   simp only [amE, reduceEqDiff, ↓reduceIte, reduceCtorEq, reduceAdd, kf45, e]
   rfl
  case a2 => rfl
  case a3 => simp only [kf45, amE, Fr.get_set, reduceEqDiff, ↓reduceIte]
 ·have hcl : (l.map (AV.int .i64)).length = l.length := by simp
  have c1 : contentA 1 st (.own id 0 l.length 1 none l.length) = some (l.length, l.map (AV.int .i64)) := by
   simp only [contentA, hg]
   have h1 : (0 + l.length * 1).ble (l.map (AV.int .i64)).length = true := Nat.ble_eq_true_of_le (by omega)
   rw [h1, List.drop_zero, List.take_of_length_le (by omega)]; rfl
  have a1 : appendA 8 1 st (.lst 0 [] true) l.length (l.map (AV.int .i64)) = some (.own st.next 0 (0 + l.length) 1 none (0 + l.length), st.new (.row ([] ++ l.map (AV.int .i64)))) := by
   have h0 : l.length.beq 0 = false := by
    cases hl : l.length with
    | zero => omega
    | succ w => rfl
   have h1 : ((0 + l.length) * 8).ble 140737488355328 = true := Nat.ble_eq_true_of_le (by omega)
   have h2 : (0 + l.length).ble 140737488355328 = true := Nat.ble_eq_true_of_le (by omega)
   unfold appendA
   simp only [h0, cond_false, h1, h2]; rfl
  refine ⟨.own st.next 0 (0 + l.length) 1 none (0 + l.length), st.new (.row ([] ++ l.map (AV.int .i64))), fun_of (mf := kf45) (fr := ?b0) t45 rfl (.inl ?b1) ?b2 ?b3, Keeps.new _ _, .inr ⟨st.next, by rw [Nat.zero_add], ⟨Nat.le_refl _, Nat.lt_succ_self _⟩, by rw [St.get_new, if_pos rfl]; rfl⟩⟩
  case b1 =>
   have e : eqNilA 1 .eql (.own id 0 l.length 1 none l.length) .nilsl = some (.bool false) := rfl
   have fl : fillA [] [] = some [] := rfl
   simp only [amE, reduceEqDiff, ↓reduceIte, reduceCtorEq, reduceAdd, kf45, e, c1, a1, fl, tag0]
   rfl
  case b2 => rfl
  case b3 => simp only [kf45, amE, Fr.get_set, reduceEqDiff, ↓reduceIte]
def OutC (o : Nat) (P : Nat -> Prop) (s : St) (sl : AV) (ls : List (List Int)) : Prop := OutR P s sl ls /\ ∀ id n, sl = .own id 0 n 1 none n -> id ≠ o
theorem OutR.one {P : Nat -> Prop} {s : St} {sl : AV} {ls : List (List Int)} (h : OutR P s sl ls) : AV.one sl = true := by
 rcases h with ⟨rfl, _⟩ | ⟨id, cells, rfl, _⟩ <;> rfl
theorem OutR.beq {P : Nat -> Prop} {s : St} {sl : AV} {ls : List (List Int)} (h : OutR P s sl ls) : avBeq sl sl = true := by
 rcases h with ⟨rfl, _⟩ | ⟨id, cells, rfl, _⟩
 ·rfl
 ·simp only [avBeq, Nat.beq_refl, onBeq, Bool.and_true]
theorem OutC.put {o : Nat} {P : Nat -> Prop} {s : St} {sl : AV} {ls : List (List Int)} (h : OutC o P s sl ls) (ho : ¬ P o) (x : AO) : OutC o P (s.put o x) sl ls := by
 refine ⟨?_, h.2⟩
 rcases h with ⟨h | ⟨id, cells, h1, h2, h3, h4, h5⟩, hno⟩
 ·exact .inl h
 ·have hne := hno id _ h1
  exact .inr ⟨id, cells, h1, h2, h3, by rw [St.get_put, if_neg hne]; exact h4, h5.mono (fun i hi => by rw [St.get_put, if_neg (fun e : i = o => ho (e ▸ hi))]) fun _ h => h⟩
theorem OutC.app {o : Nat} {P : Nat -> Prop} {s : St} {sl v : AV} {ls : List (List Int)} {l : List Int} (h : OutC o P s sl ls) (hv : ZR P s v l) (hP : ∀ i, P i -> i < s.next) (ho : o < s.next) (hc : ls.length <= 100000) :
  ∃ sl' s', appendA 24 1 s sl 1 [v] = some (sl', s') /\ s'.next = s.next + 1 /\ Same P s s' /\ s'.get o = s.get o /\ OutC o P s' sl' (ls ++ [l]) := by
 -- append, once with o among what is kept
 have h2 : OutR (fun i => P i \/ i = o) s sl ls := by
  rcases h with ⟨h | ⟨id, cells, h1, h2, h3, h4, h5⟩, hno⟩
  ·exact .inl h
  ·exact .inr ⟨id, cells, h1, h2, fun hp => hp.elim h3 (hno id _ h1), h4, h5.mono (Same.refl _ _) fun i hi => .inl hi⟩
 obtain ⟨sl', s', e1, e2, e3, e4⟩ := h.1.app hv hP hc
 obtain ⟨sl2, s2, f1, f2, f3, f4⟩ := h2.app (hv.mono (Same.refl _ _) fun i hi => .inl hi) (fun i hi => hi.elim (hP i) fun e => e ▸ ho) hc
 rw [e1] at f1
 obtain ⟨rfl, rfl⟩ : sl' = sl2 /\ s' = s2 := by simpa using f1
 refine ⟨sl', s', e1, e2, e3, f3 o (.inr rfl), e4, fun id n hid => ?_⟩
 rcases f4 with ⟨rfl, _⟩ | ⟨id2, cells, h1, _, h3, _⟩
 ·cases hid
 ·rw [h1] at hid
  injection hid with a1
  exact fun e => h3 (.inr (a1.trans e))
theorem OutC.keep {o : Nat} {P P' : Nat -> Prop} {s s' : St} {sl : AV} {ls : List (List Int)} (h : OutC o P s sl ls) (k : Keeps s s') (hb : ∀ i, P i -> i < s.next) (hP : ∀ i, P i -> P' i) (hP' : ∀ i, P' i -> P i \/ s.next <= i) : OutC o P' s' sl ls :=
 ⟨h.1.keep k hb hP hP', h.2⟩
theorem visitC_run (d : Dv) : ∀ (n : Nat) (Y : Yenv) (F P : Nat -> Prop) (st : St) (cs : List AV) (way so : AV) (p : List Int) (ls : List (List Int)) (o v : Nat), RepD F st d cs -> (∀ i, F i -> P i) -> (∀ i, P i -> i < st.next) -> P v -> ¬ P o -> o < st.next ->
  WyZ P st way p -> st.get o = some (.row [so]) -> OutC o P st so ls -> st.get v = some (.row [.func (.func 44) [] [.ptr o 0, .ptr v 0]]) -> ls.length + d.leaves <= 90000 -> p.length + d.depth <= 90000 -> d.fz <= n ->
  ∃ so' st' P', R n Y 44 [.agg cs, way, .ptr o 0, .ptr v 0] st = .ret (.tuple []) st' /\ st.next <= st'.next /\ Same P st st' /\ (∀ i, P i -> P' i) /\ (∀ i, P' i -> i < st'.next) /\ ¬ P' o /\ st'.get o = some (.row [so']) /\ OutC o P' st' so' (ls ++ lvP d p) := by
 induction hs : d.fz using Nat.strongRecOn generalizing d with
 | _ s ih =>
 intro n Y F P st cs way so p ls o v hr hFP hP hv ho hol hway hgo hout hgv hc hw hn
 cases d with
 | mk r nv ev vs nl ex l =>
 simp only [RepD] at hr
 obtain ⟨sv, xv, sl, xs, rfl, hsv, hrv, hsl, hrl⟩ := hr
 simp only [Dv.fz] at hs
 obtain ⟨m, rfl⟩ : ∃ m, n = m + 1 := ⟨n - 1, by omega⟩
 have hxl := hrl.len
 have b00 : Nat.beq 0 0 = true := rfl
 have hF : ∀ i, F i -> i < st.next := fun i hi => hP i (hFP i hi)
 have hlen := hsl.len st
 have hw' : p.length + (Dv.depthL l + 1) <= 90000 := by simpa only [Dv.depth] using hw
 have hlv : Dv.leaves (.mk r nv ev vs nl ex l) = (if l.length = 0 then 1 else Dv.leavesL l) := by conv => lhs; unfold Dv.leaves
 have hlp : lvP (.mk r nv ev vs nl ex l) p = (if l.length = 0 then [p] else []) ++ lvL l 0 p := by
  conv => lhs; unfold lvP
  by_cases h : l.length = 0
  ·have : l = [] := List.eq_nil_of_length_eq_zero h
   subst this; rw [lvL_nil]; simp
  ·rw [if_neg h, if_neg h]; rfl
 rw [hlv] at hc
 -- the leaf itself
 obtain ⟨l0, hl0'⟩ : ∃ l0, l0 = ls ++ (if l.length = 0 then [p] else []) := ⟨_, rfl⟩
 have hc1 : ls.length + (if l.length = 0 then 1 else Dv.leavesL l) = l0.length + Dv.leavesL l := by
  rw [hl0', List.length_append]
  by_cases h : l.length = 0
  ·have : l = [] := List.eq_nil_of_length_eq_zero h
   subst this; simp [leavesL_nil]
  ·rw [if_neg h, if_neg h]; simp
 rw [hlp, <- List.append_assoc, <- hl0']
 rw [hc1] at hc
 obtain ⟨cl, sc, hcl, kcl, hclo⟩ := cloneZ hway (m - 1) Y (by omega)
 have hm1 : m - 1 + 1 = m := by omega
 rw [hm1] at hcl
 have hcl' : ((gT m).cg Y).fn 45 [way] st = .ret cl sc := hcl
 have lso := ld0 hgo
 have hgoc := kcl.get hol hgo
 have lsoc := ld0 hgoc
 have bso := hout.1.beq
 have eq0 : binB false .eql (.int .i64 (.ofNat xs.length)) (.int .i64 (.ofNat 0)) = some (.bool (decide (l.length = 0))) := by
  rw [hxl]
  show some (AV.bool (Int.ofNat l.length == Int.ofNat 0)) = _
  congr 2
  by_cases h : l.length = 0
  ·rw [h]; rfl
  ·rw [decide_eq_false h]; simp; exact fun e => h (by rw [e]; rfl)
 obtain ⟨fA1, hA1⟩ : ∃ fA, fA = frOf 0 [.agg [.int .i64 r, sv, sl], way, .ptr o 0, .ptr v 0] Fr.nil := ⟨_, rfl⟩
 have gA1_0 : fA1.get 0 = some (.agg [.int .i64 r, sv, sl]) := by rw [hA1]; simp only [frOf, Fr.get_set, reduceAdd, reduceEqDiff, ↓reduceIte]
 have gA1_1 : fA1.get 1 = some (way) := by rw [hA1]; simp only [frOf, Fr.get_set, reduceAdd, reduceEqDiff, ↓reduceIte]
 have gA1_2 : fA1.get 2 = some (.ptr o 0) := by rw [hA1]; simp only [frOf, Fr.get_set, reduceAdd, reduceEqDiff, ↓reduceIte]
 have gA1_3 : fA1.get 3 = some (.ptr v 0) := by rw [hA1]; simp only [frOf, Fr.get_set, reduceAdd, reduceEqDiff, ↓reduceIte]
 have dA1 : fA1.ds = [] := by rw [hA1]; rfl
 obtain ⟨fR2, hR2, kR2, oR2_4⟩ : ∃ fr', arun ((gT m).cg Y) [⟨(some 4), .box true (.t 0), none⟩] fA1 st = .ok fr' st /\ Kp [0, 1, 2, 3] fA1 fr' /\ fr'.get 4 = some (.fptr [.int .i64 r, sv, sl] 0) := ⟨_, by simp only [amE, reduceEqDiff, ↓reduceIte, reduceCtorEq, reduceAdd, gA1_0] <;> rfl, Kp.refl.s, gh⟩
 have gR2_1 := kR2.g 1 gA1_1
 have gR2_2 := kR2.g 2 gA1_2
 have gR2_3 := kR2.g 3 gA1_3
 have dR2 := kR2.1.trans dA1
 obtain ⟨fR3, hR3, kR3, oR3_11⟩ : ∃ fr', arun ((gT m).cg Y) g44_3 fR2 st = .ok fr' st /\ Kp [1, 2, 3, 4] fR2 fr' /\ fr'.get 11 = some (.bool (decide (l.length = 0))) := ⟨_, by simp only [amE, reduceEqDiff, ↓reduceIte, reduceCtorEq, reduceAdd, oR2_4, g44_3, faf, ld2f, hlen, eq0] <;> rfl, Kp.refl.s.s.s.s, gh⟩
 have gR3_1 := kR3.g 1 gR2_1
 have gR3_2 := kR3.g 2 gR2_2
 have gR3_3 := kR3.g 3 gR2_3
 have gR3_4 := kR3.g 4 oR2_4
 have dR3 := kR3.1.trans dR2
 obtain ⟨fD, sD, soD, PD, hD, kD, nD, smD, hPD1, hPD2, hPDo, gD, oD⟩ : ∃ fD sD soD PD, acode (gT m) Y m (.cond (.t 11) (.draw g44_4 [(0, some 2), (0, some 4)]) .skip) none fR3 st = .norm fD sD /\ Kp [1, 2, 3, 4] fR3 fD /\ st.next <= sD.next /\ Same P st sD /\ (∀ i, P i -> PD i) /\ (∀ i, PD i -> i < sD.next) /\ ¬ PD o /\ sD.get o = some (.row [soD]) /\ OutC o PD sD soD l0 := by
  generalize hB : decide (l.length = 0) = B at *
  cases B with
  | true =>
   have hl0 : l.length = 0 := of_decide_eq_true hB
   have hc2 : l0 = ls ++ [p] := by rw [hl0', if_pos hl0]
   have kn := kcl.1
   have hPc : ∀ i, (P i \/ (st.next <= i /\ i < sc.next)) -> i < sc.next := fun i hi => by
    rcases hi with hi | hi
    ·have := hP i hi; omega
    ·omega
   obtain ⟨so1, s3, happ, hn3, sm3, hgo3, hout3⟩ := (hout.keep (P' := fun i => P i \/ (st.next <= i /\ i < sc.next)) kcl hP (fun i hi => .inl hi) fun i hi => hi.elim .inl fun h => .inr h.1).app (hclo.mono (Same.refl _ _) fun i hi => .inr hi) hPc (by omega) (by omega)
   have hno : ¬ (P o \/ (st.next <= o /\ o < sc.next)) := fun h => h.elim ho fun h => by omega
   have hone := hclo.one
   have sto := stw1 (hgo3.trans hgoc) hout3.1.one
   obtain ⟨s4, hs4⟩ : ∃ s4, s4 = s3.put o (.row [so1]) := ⟨_, rfl⟩
   rw [<- hs4] at sto
   have fl : fillA [.nilsl] [(0, 1, cl)] = some [cl] := by cases cl <;> first | rfl | (simp [AV.one] at hone)
   have ct : contentA 1 sc (.lst 1 [cl] true) = some (1, [cl]) := rfl
   obtain ⟨fR4, hR4, kR4⟩ : ∃ fr', adraw ((gT m).cg Y) g44_4 [(0, some 2), (0, some 4)] fR3 st = .ok fr' s4 /\ Kp [1, 2, 3, 4] fR3 fr' := by
    refine ⟨?r40, ?r41, ?r42⟩
    case r41 =>
     refine adraw_ok (its := ?r4i) ?r4x ?r4y ?r4z
     case r4x =>
      simp only [amE, reduceEqDiff, ↓reduceIte, reduceCtorEq, reduceAdd, drun_cons, drun_nil, DR.cons, oprD, nextId, preA, gR3_1, gR3_2, g44_4, lso, lsoc, hcl', fl, ct, happ, tag0, sto]
      rfl
     case r4y => rfl
     case r4z =>
      simp only [List.all_cons, List.all_nil, Bool.and_true, Bool.and_eq_true]
      refine ⟨chk_of (i := 0) (k := 2) rfl rfl rfl rfl ?r4k0, chk_of (i := 0) (k := 4) rfl rfl rfl rfl ?r4k1⟩
      case r4k0 =>
       right
       refine ⟨?r4s0, ?r4l0, bso⟩
       case r4l0 =>
        simp only [amE, reduceEqDiff, ↓reduceIte, reduceCtorEq, reduceAdd, oprD, gR3_1, gR3_2, g44_4, lso, lsoc, hcl', fl, ct, happ, tag0, sto]
        rfl
      case r4k1 =>
       right
       refine ⟨?r4s1, ?r4l1, bso⟩
       case r4l1 =>
        simp only [amE, reduceEqDiff, ↓reduceIte, reduceCtorEq, reduceAdd, oprD, gR3_1, gR3_2, g44_4, lso, lsoc, hcl', fl, ct, happ, tag0, sto]
        rfl
    case r42 => repeat (first | exact Kp.refl | refine Kp.set (by decide) ?_)
   refine ⟨fR4, s4, so1, fun i => P i \/ (st.next <= i /\ i < sc.next), ?d4, kR4, by rw [hs4]; show st.next <= s3.next; omega, fun i hi => by rw [hs4, St.get_put, if_neg (fun e : i = o => ho (e ▸ hi)), sm3 i (.inl hi), kcl.2 i (hP i hi)], fun i hi => .inl hi, fun i hi => by have := hPc i hi; rw [hs4]; show i < s3.next; omega, hno, by rw [hs4, St.get_put, if_pos rfl], ?e4⟩
   case d4 => simp only [amE, reduceEqDiff, ↓reduceIte, reduceCtorEq, reduceAdd, oR3_11, hR4]
   case e4 =>
    rw [hc2, hs4]
    exact hout3.put hno _
  | false =>
   have hl0 : ¬ l.length = 0 := of_decide_eq_false hB
   have hc2 : l0 = ls := by rw [hl0', if_neg hl0, List.append_nil]
   refine ⟨fR3, st, so, P, ?dd, Kp.refl, Nat.le_refl _, Same.refl _ _, fun _ h => h, hP, ho, hgo, by rw [hc2]; exact hout⟩
   case dd => simp only [amE, reduceEqDiff, ↓reduceIte, reduceCtorEq, reduceAdd, oR3_11]
 have xD1 := kD.at (k := 1) (by decide) gR3_1
 have xD2 := kD.at (k := 2) (by decide) gR3_2
 have xD3 := kD.at (k := 3) (by decide) gR3_3
 have xD4 := kD.at (k := 4) (by decide) gR3_4
 have dD := kD.1.trans dR3
 have hlenD := hsl.len sD
 have hPD : ∀ i, P i -> i < sD.next := fun i hi => Nat.lt_of_lt_of_le (hP i hi) nD
 have hsameD : Same F st sD := fun i hi => smD i (hFP i hi)
 obtain ⟨fR5, hR5, kR5, oR5_18, oR5_19, oR5_20⟩ : ∃ fr', arun ((gT m).cg Y) g44_5 fD sD = .ok fr' sD /\ Kp [1, 2, 3] fD fr' /\ fr'.get 18 = some (sl) /\ fr'.get 19 = some (.int .i64 (.ofNat xs.length)) /\ fr'.get 20 = some (.int .i64 (.ofNat 0)) := ⟨_, by simp only [amE, reduceEqDiff, ↓reduceIte, reduceCtorEq, reduceAdd, xD4, g44_5, faf, ld2f, hlenD] <;> rfl, Kp.refl.s.s.s.s, gn (gn gh), gn gh, gh⟩
 have gR5_1 := kR5.g 1 xD1
 have gR5_2 := kR5.g 2 xD2
 have gR5_3 := kR5.g 3 xD3
 have dR5 := kR5.1.trans dD
 have hB : ∀ k fr s, k < xs.length -> Kp [1, 2, 3, 18, 19] fR5 fr -> fr.get 20 = some (.int .i64 (.ofNat k)) ->
   (sD.next <= s.next /\ Same PD sD s /\ ∃ so Pk, (∀ i, PD i -> Pk i) /\ (∀ i, Pk i -> i < s.next) /\ ¬ Pk o /\ s.get o = some (.row [so]) /\ OutC o Pk s so (l0 ++ lvL (l.take k) 0 p)) ->
   (∃ FR s', acode (gT m) Y m bf44_0 none fr s = .norm FR s' /\ Kp [20, 1, 2, 3, 18, 19] fr FR /\ (sD.next <= s'.next /\ Same PD sD s' /\ ∃ so Pk, (∀ i, PD i -> Pk i) /\ (∀ i, Pk i -> i < s'.next) /\ ¬ Pk o /\ s'.get o = some (.row [so]) /\ OutC o Pk s' so (l0 ++ lvL (l.take (k + 1)) 0 p))) ∨
   (∃ FR s', acode (gT m) Y m bf44_0 none fr s = .ret FR s' /\ False) := by
  intro k fr s hk hkp g20 ⟨hnx, hsm, so, Pk, hPk, hPb, hPo, hgo, hout⟩
  obtain ⟨t, ht, hdr⟩ := drop_at (l := l) (k := k) (by omega)
  obtain ⟨x, hx, hrx⟩ := hrl.at ht
  have hsame : Same F st s := hsameD.trans fun i hi => hsm i (hPD1 i (hFP i hi))
  obtain ⟨pp, ia, ld⟩ := hsl.at hx
  have ld := ld s hsame
  obtain ⟨t1, sto, ks, gox, hnx1⟩ := next_el s (zs := [(.int .i64 (.ofNat 0)), .nilsl, .nilsl]) rfl hrx.cells3
  have hmem := List.mem_of_getElem? ht
  have hfz := Dv.fzL_mem hmem
  have hdp := depthL_mem hmem
  have lx := load_row gox hrx.cells3.1
  have htake : l.take (k + 1) = l.take k ++ [t] := by rw [List.take_add_one, ht]; rfl
  have hlt := leavesL_take l (k + 1)
  rw [htake, leavesL_snoc] at hlt
  have hPs : ∀ i, P i -> i < s.next := fun i hi => Nat.lt_of_lt_of_le (hPD i hi) hnx
  have hll := lvL_len (l.take k) 0 p
  have smt1 : Same P st t1 := (smD.trans fun i hi => hsm i (hPD1 i hi)).trans (Same.of ks hPs)
  have hway1 := hway.mono smt1 fun _ h => h
  have lnw := hway1.len t1
  obtain ⟨w1, w2, t2, hsl1, happ, k2, hn2, hway2⟩ := hway1.app (.ofNat k) (by omega)
  have hgv1 : t1.get v = some (.row [.func (.func 44) [] [.ptr o 0, .ptr v 0]]) := smt1.get hv hgv
  have hgv2 := k2.get (by have := hPs v hv; have := ks.1; omega) hgv1
  have lv1 := ld0 hgv1
  have lv2 := ld0 hgv2
  have gox2 := k2.get (i := s.next) (by omega) gox
  have lx2 := load_row gox2 hrx.cells3.1
  have hk02 : Keeps s t2 := ks.trans k2
  have bx : avBeq (.agg x) (.agg x) = true := by simp only [avBeq]; exact RepD.beq t x hrx
  have bv : avBeq (.func (.func 44) [] [.ptr o 0, .ptr v 0]) (.func (.func 44) [] [.ptr o 0, .ptr v 0]) = true := by simp only [avBeq, avsBeq, fnBeq, Nat.beq_refl, Bool.and_true]
  have hol' : o < s.next := by omega
  obtain ⟨so', t3, P3, hcall, hn3, sm3, hP3, hPb3, hPo3, hgo3, hout3⟩ := ih t.fz (by omega) t rfl m Y F (fun i => Pk i \/ i = t1.next) t2 x w2 so (p ++ [.ofNat k]) (l0 ++ lvL (l.take k) 0 p) o v (hrx.mono (hsame.trans (Same.of hk02 fun i hi => hPs i (hFP i hi))) fun _ h => h)
   (fun i hi => .inl (hPk i (hPD1 i (hFP i hi)))) (fun i hi => by
    have := hk02.1
    rcases hi with hi | hi
    ·have := hPb i hi; omega
    ·omega) (.inl (hPk v (hPD1 v hv))) (not_or.2 ⟨hPo, by omega⟩) (by have := hk02.1; omega)
   (hway2.mono (Same.refl _ _) fun i hi => .inr hi) (hk02.get hol' hgo) (hout.keep hk02 hPb (fun i hi => .inl hi) fun i hi => by
    rcases hi with hi | hi
    ·exact .inl hi
    ·exact .inr (by omega)) hgv2 (by simp only [List.length_append]; omega) (by simp only [List.length_append, List.length_cons, List.length_nil]; omega) (by omega)
  have hcall' : ((gT m).cg Y).fn 44 [.agg x, w2, .ptr o 0, .ptr v 0] t2 = .ret (.tuple []) t3 := hcall
  have fl : fillA [.int .i64 (.ofNat 0)] [(0, 1, .int .i64 (.ofNat k))] = some [.int .i64 (.ofNat k)] := rfl
  have ct : contentA 1 t1 (.lst 1 [.int .i64 (.ofNat k)] true) = some (1, [.int .i64 (.ofNat k)]) := rfl
  have q1 := hkp.at (k := 1) (by decide) gR5_1
  have q2 := hkp.at (k := 2) (by decide) gR5_2
  have q3 := hkp.at (k := 3) (by decide) gR5_3
  have q18 := hkp.at (k := 18) (by decide) oR5_18
  have q19 := hkp.at (k := 19) (by decide) oR5_19
  obtain ⟨fR6, hR6, kR6, oR6_7, oR6_6⟩ : ∃ fr', arun ((gT m).cg Y) g44_0 fr s = .ok fr' t1 /\ Kp [1, 2, 3, 18, 19, 20] fr fr' /\ fr'.get 7 = some (.ptr s.next 0) /\ fr'.get 6 = some (.int .i64 (.ofNat k)) := ⟨_, by simp only [amE, reduceEqDiff, ↓reduceIte, reduceCtorEq, reduceAdd, q18, g20, g44_0, ia, ld, sto] <;> rfl, Kp.refl.s.s.s.s.s, gn gh, gh⟩
  have gR6_1 := kR6.g 1 q1
  have gR6_3 := kR6.g 3 q3
  obtain ⟨fR7, hR7, kR7⟩ : ∃ fr', adraw ((gT m).cg Y) g44_1 [(0, some 10), (0, some 11), (1, some 10), (1, some 11)] fR6 t1 = .ok fr' t3 /\ Kp [1, 2, 3, 18, 19, 20] fR6 fr' := by
   refine ⟨?r70, ?r71, ?r72⟩
   case r71 =>
    refine adraw_ok (its := ?r7i) ?r7x ?r7y ?r7z
    case r7x =>
     simp only [amE, reduceEqDiff, ↓reduceIte, reduceCtorEq, reduceAdd, drun_cons, drun_nil, DR.cons, oprD, nextId, preA, gR6_1, gR6_3, oR6_7, oR6_6, g44_1, nd_slice, Option.map_none, lv1, lv2, lx, lx2, lnw, hsl1, fl, ct, happ, tag0, hcall', Bool.not_true, Bool.not_false]
     rfl
    case r7y => rfl
    case r7z =>
     simp only [List.all_cons, List.all_nil, Bool.and_true, Bool.and_eq_true]
     refine ⟨chk_of (i := 0) (k := 10) rfl rfl rfl rfl ?r7k0, chk_of (i := 0) (k := 11) rfl rfl rfl rfl ?r7k1, chk_of (i := 1) (k := 10) rfl rfl rfl rfl ?r7k2, chk_of (i := 1) (k := 11) rfl rfl rfl rfl ?r7k3⟩
     case r7k0 =>
      right
      refine ⟨?r7s0, ?r7l0, bv⟩
      case r7l0 =>
       simp only [amE, reduceEqDiff, ↓reduceIte, reduceCtorEq, reduceAdd, oprD, gR6_1, gR6_3, oR6_7, oR6_6, g44_1, nd_slice, Option.map_none, lv1, lv2, lx, lx2, lnw, hsl1, fl, ct, happ, tag0, hcall', Bool.not_true, Bool.not_false]
       rfl
     case r7k1 =>
      right
      refine ⟨?r7s1, ?r7l1, bv⟩
      case r7l1 =>
       simp only [amE, reduceEqDiff, ↓reduceIte, reduceCtorEq, reduceAdd, oprD, gR6_1, gR6_3, oR6_7, oR6_6, g44_1, nd_slice, Option.map_none, lv1, lv2, lx, lx2, lnw, hsl1, fl, ct, happ, tag0, hcall', Bool.not_true, Bool.not_false]
       rfl
     case r7k2 =>
      right
      refine ⟨?r7s2, ?r7l2, bx⟩
      case r7l2 =>
       simp only [amE, reduceEqDiff, ↓reduceIte, reduceCtorEq, reduceAdd, oprD, gR6_1, gR6_3, oR6_7, oR6_6, g44_1, nd_slice, Option.map_none, lv1, lv2, lx, lx2, lnw, hsl1, fl, ct, happ, tag0, hcall', Bool.not_true, Bool.not_false]
       rfl
     case r7k3 =>
      right
      refine ⟨?r7s3, ?r7l3, bx⟩
      case r7l3 =>
       simp only [amE, reduceEqDiff, ↓reduceIte, reduceCtorEq, reduceAdd, oprD, gR6_1, gR6_3, oR6_7, oR6_6, g44_1, nd_slice, Option.map_none, lv1, lv2, lx, lx2, lnw, hsl1, fl, ct, happ, tag0, hcall', Bool.not_true, Bool.not_false]
       rfl
   case r72 => repeat (first | exact Kp.refl | refine Kp.set (by decide) ?_)
  refine .inl ⟨fR7, t3, ?q7, (kR6.sub (by decide)).trans (kR7.sub (by decide)), by have := hk02.1; omega, ?z7, so', P3, fun i hi => hP3 i (.inl (hPk i hi)), hPb3, hPo3, hgo3, ?y7⟩
  case q7 => simp only [amE, reduceEqDiff, ↓reduceIte, reduceCtorEq, reduceAdd, bf44_0, hR6, hR7]
  case z7 => exact (hsm.trans (Same.of hk02 fun i hi => hPb i (hPk i hi))).trans fun i hi => sm3 i (.inl (hPk i hi))
  case y7 =>
   rw [htake, lvL_snoc, <- List.append_assoc]
   have hk2 : (l.take k).length = k := by rw [List.length_take]; omega
   rw [hk2, Nat.zero_add]
   exact hout3
 rcases kloop (Γ := (gT m)) (Y := Y) (m := m) (N := xs.length) (c := 21) (i := 20) (n := 19) (i2 := 37) (ro := none) (L := [1, 2, 3, 18, 19]) (fr0 := fR5) (by decide) (by decide) (by decide) (by decide) oR5_19 hsl.2.1
  (Q := fun k _ s => sD.next <= s.next /\ Same PD sD s /\ ∃ so Pk, (∀ i, PD i -> Pk i) /\ (∀ i, Pk i -> i < s.next) /\ ¬ Pk o /\ s.get o = some (.row [so]) /\ OutC o Pk s so (l0 ++ lvL (l.take k) 0 p)) (fun _ _ _ _ _ _ h => h) hB xs.length 0 fR5 sD m (by omega) (by omega) Kp.refl oR5_20
  ⟨Nat.le_refl _, Same.refl _ _, soD, PD, fun _ h => h, hPD2, hPDo, gD, by simpa only [List.take_zero, lvL_nil, List.append_nil] using oD⟩
  with ⟨FR, s', h1, h2, h3, h4, so', Pk, h7, h8, h9, h5, h6⟩ | ⟨FR, s', h1, h2⟩
 ·rw [hxl, List.take_length] at h6
  refine ⟨so', s', Pk, fun_of (mf := kf44) (fr := FR) t44 rfl (.inr ?w1) (h2.1.trans dR5) rfl, Nat.le_trans nD h3, smD.trans fun i hi => h4 i (hPD1 i hi), fun i hi => h7 i (hPD1 i hi), h8, h9, h5, h6⟩
  case w1 =>
   rw [<- hA1]
   show acode _ _ _ (.seq _ (.seq (.seq _ (.cond (.t 11) _ .skip)) _)) _ _ _ = _
   rw [seq_reg hR2, seq_reg2 hR3 hD]
   simp only [amE, reduceEqDiff, ↓reduceIte, reduceCtorEq, reduceAdd, hD, hR5, h1, b00]
 ·exact absurd h2 id
theorem leavesC_run (d : Dv) (n : Nat) (Y : Yenv) (F : Nat -> Prop) (st : St) (cs : List AV) (hr : RepD F st d cs) (hF : ∀ i, F i -> i < st.next) (hn : d.fz + 2 <= n) :
  ∃ x st', R n Y 12 [.agg cs] st = .ret (.tuple [x, .int .i64 (.ofNat (if isDv d = true then 0 else 160))]) st' /\ Keeps st st' /\ LR (fun i => i < st'.next) st' x (if isDv d = true then lvP d [] else []) := by
 obtain ⟨m, rfl⟩ : ∃ m, n = m + 1 := ⟨n - 1, by omega⟩
 have b00 : Nat.beq 0 0 = true := rfl
 obtain ⟨st1, c1, k1⟩ := isDeriv_run d m Y F st cs hr hF (by omega)
 have c1' : ((gT m).cg Y).fn 41 [.agg cs] st = .ret (.bool (isDv d)) st1 := c1
 have hr1 := hr.mono (Same.of k1 hF) fun _ h => h
 have hF1 : ∀ i, F i -> i < st1.next := fun i hi => Nat.lt_of_lt_of_le (hF i hi) k1.1
 have hc3 := hr.cells3
 generalize hB : isDv d = B at *
 obtain ⟨a, b, c, rfl⟩ : ∃ a b c, cs = [a, b, c] := by
  match cs, hc3.1 with
  | [a, b, c], _ => exact ⟨a, b, c, rfl⟩
 obtain ⟨fA8, hA8⟩ : ∃ fA, fA = frOf 0 [.agg [a, b, c]] Fr.nil := ⟨_, rfl⟩
 have gA8_0 : fA8.get 0 = some (.agg [a, b, c]) := by rw [hA8]; simp only [frOf, Fr.get_set, reduceAdd, reduceEqDiff, ↓reduceIte]
 have dA8 : fA8.ds = [] := by rw [hA8]; rfl
 obtain ⟨fR9, hR9, kR9, oR9_1⟩ : ∃ fr', arun ((gT m).cg Y) [⟨(some 1), .box true (.t 0), none⟩, ⟨(some 2), .mv (.c .nilsl), none⟩, ⟨(some 3), .mv (.c (.int .i64 (.ofNat 0))), none⟩] fA8 st = .ok fr' st /\ Kp [] fA8 fr' /\ fr'.get 1 = some (.fptr [a, b, c] 0) := ⟨_, by simp only [amE, reduceEqDiff, ↓reduceIte, reduceCtorEq, reduceAdd, gA8_0] <;> rfl, Kp.refl.s.s.s, gn (gn gh)⟩
 have dR9 := kR9.1.trans dA8
 obtain ⟨fR10, hR10, kR10, oR10_8⟩ : ∃ fr', arun ((gT m).cg Y) g12_1 fR9 st = .ok fr' st1 /\ Kp [1] fR9 fr' /\ fr'.get 8 = some (.bool (!B)) := ⟨_, by simp only [amE, reduceEqDiff, ↓reduceIte, reduceCtorEq, reduceAdd, oR9_1, g12_1, ld3f, c1', unN, Bool.not_true, Bool.not_false] <;> rfl, Kp.refl.s.s.s, gh⟩
 have gR10_1 := kR10.g 1 oR9_1
 have dR10 := kR10.1.trans dR9
 cases B with
 | false =>
  obtain ⟨fR11, hR11, kR11, oR11_2, oR11_3⟩ : ∃ fr', arun ((gT m).cg Y) [⟨(some 2), .mv (.c .nilsl), none⟩, ⟨(some 3), .mv (.c (.int .i64 (.ofNat 160))), none⟩] fR10 st1 = .ok fr' st1 /\ Kp [] fR10 fr' /\ fr'.get 2 = some (.nilsl) /\ fr'.get 3 = some (.int .i64 (.ofNat 160)) := ⟨_, by simp only [amE, reduceEqDiff, ↓reduceIte, reduceCtorEq, reduceAdd] <;> rfl, Kp.refl.s.s, gn gh, gh⟩
  have dR11 := kR11.1.trans dR10
  refine ⟨.nilsl, st1, fun_of (mf := kf12) (fr := fR11) t12 rfl (.inl ?q11) dR11 (by simp only [kf12, amE, oR11_2, oR11_3]; rfl), k1, .inl ⟨rfl, rfl⟩⟩
  case q11 =>
   rw [<- hA8]
   simp only [amE, reduceEqDiff, ↓reduceIte, reduceCtorEq, reduceAdd, kf12, hR9, hR10, hR11, oR10_8, Bool.not_false]
 | true =>
  obtain ⟨hgood, hsz, hdp⟩ := (isDv_iff d).1 hB
  have hlv := leaves_le d
  obtain ⟨s2, hs2⟩ : ∃ s2, s2 = st1.new (.row [.nilsl]) := ⟨_, rfl⟩
  obtain ⟨s3, hs3⟩ : ∃ s3, s3 = s2.new (.row [.nilfn]) := ⟨_, rfl⟩
  have n2 : s2.next = st1.next + 1 := by rw [hs2]; rfl
  have n3 : s3.next = st1.next + 2 := by rw [hs3]; show s2.next + 1 = _; omega
  have go3 : s3.get st1.next = some (.row [.nilsl]) := by rw [hs3, St.get_new, if_neg (by omega), hs2, St.get_new, if_pos rfl]
  have gv3 : s3.get s2.next = some (.row [.nilfn]) := by rw [hs3, St.get_new, if_pos rfl]
  have k3 : Keeps st1 s3 := by rw [hs3, hs2]; exact (Keeps.new _ _).trans (Keeps.new _ _)
  have sto := stw1 (v := .func (.func 44) [] [.ptr st1.next 0, .ptr s2.next 0]) gv3 rfl
  obtain ⟨s4, hs4⟩ : ∃ s4, s4 = s3.put s2.next (.row [.func (.func 44) [] [.ptr st1.next 0, .ptr s2.next 0]]) := ⟨_, rfl⟩
  rw [<- hs4] at sto
  have n4 : s4.next = s3.next := by rw [hs4]; rfl
  have k4 : Keeps st1 s4 := by rw [hs4]; exact k3.put' _ _ (by omega)
  have gv4 : s4.get s2.next = some (.row [.func (.func 44) [] [.ptr st1.next 0, .ptr s2.next 0]]) := by rw [hs4, St.get_put, if_pos rfl]
  have go4 : s4.get st1.next = some (.row [.nilsl]) := by rw [hs4, St.get_put, if_neg (by omega)]; exact go3
  obtain ⟨so, st2, P', c2, hnx, hsm, -, hPb', -, hgo, hout⟩ := visitC_run d m Y F (fun i => i < st1.next \/ i = s2.next) s4 [a, b, c] .nilsl .nilsl [] [] st1.next s2.next (hr1.mono (Same.of k4 hF1) fun _ h => h)
   (fun i hi => .inl (hF1 i hi)) (fun i hi => by omega) (.inr rfl) (by omega) (by omega) (.inl ⟨rfl, rfl⟩) go4 ⟨.inl ⟨rfl, rfl⟩, fun id n h => by cases h⟩ gv4 (by simp only [List.length_nil]; omega) (by simp only [List.length_nil]; omega) (by omega)
  have c2' : ((gT m).cg Y).fn 44 [.agg [a, b, c], .nilsl, .ptr st1.next 0, .ptr s2.next 0] s4 = .ret (.tuple []) st2 := c2
  have lv := ld0 gv4
  have lo := ld0 hgo
  have kf : Keeps st st2 := k1.trans ⟨by omega, fun i hi => (hsm i (.inl hi)).trans (k4.2 i hi)⟩
  obtain ⟨fR12, hR12, kR12, oR12_4⟩ : ∃ fr', arun ((gT m).cg Y) [⟨(some 4), .alloc [.nilsl], none⟩] fR10 st1 = .ok fr' s2 /\ Kp [1] fR10 fr' /\ fr'.get 4 = some (.ptr st1.next 0) := ⟨_, by simp only [amE, reduceEqDiff, ↓reduceIte, reduceCtorEq, reduceAdd, <- hs2] <;> rfl, Kp.refl.s, gh⟩
  have gR12_1 := kR12.g 1 gR10_1
  have dR12 := kR12.1.trans dR10
  obtain ⟨fR13, hR13, kR13, oR13_5⟩ : ∃ fr', arun ((gT m).cg Y) [⟨(some 5), .alloc [.nilfn], none⟩] fR12 s2 = .ok fr' s3 /\ Kp [1, 4] fR12 fr' /\ fr'.get 5 = some (.ptr s2.next 0) := ⟨_, by simp only [amE, reduceEqDiff, ↓reduceIte, reduceCtorEq, reduceAdd, <- hs3] <;> rfl, Kp.refl.s, gh⟩
  have gR13_1 := kR13.g 1 gR12_1
  have gR13_4 := kR13.g 4 oR12_4
  have dR13 := kR13.1.trans dR12
  obtain ⟨fR14, hR14, kR14⟩ : ∃ fr', arun ((gT m).cg Y) [⟨(some 9), .mkfn 44 [] [(.t 4), (.t 5)], none⟩, ⟨none, .store 1 (.t 5) (.t 9), none⟩] fR13 s3 = .ok fr' s4 /\ Kp [1, 4, 5] fR13 fr' := ⟨_, by simp only [amE, reduceEqDiff, ↓reduceIte, reduceCtorEq, reduceAdd, gR13_4, oR13_5, nd_mkfn, sto] <;> rfl, Kp.refl.s⟩
  have gR14_1 := kR14.g 1 gR13_1
  have gR14_4 := kR14.g 4 gR13_4
  have gR14_5 := kR14.g 5 oR13_5
  have dR14 := kR14.1.trans dR13
  obtain ⟨fR15, hR15, kR15⟩ : ∃ fr', arun ((gT m).cg Y) g12_6 fR14 s4 = .ok fr' st2 /\ Kp [1, 4, 5] fR14 fr' := ⟨_, by simp only [amE, reduceEqDiff, ↓reduceIte, reduceCtorEq, reduceAdd, gR14_1, gR14_5, g12_6, ld3f, lv, c2'] <;> rfl, Kp.refl.s.s.s⟩
  have gR15_4 := kR15.g 4 gR14_4
  have dR15 := kR15.1.trans dR14
  obtain ⟨fR16, hR16, kR16, oR16_2, oR16_3⟩ : ∃ fr', arun ((gT m).cg Y) [⟨(some 13), .load false 1 (.t 4), none⟩, ⟨(some 2), .mv (.t 13), none⟩, ⟨(some 3), .mv (.c (.int .i64 (.ofNat 0))), none⟩] fR15 st2 = .ok fr' st2 /\ Kp [1, 4, 5] fR15 fr' /\ fr'.get 2 = some (so) /\ fr'.get 3 = some (.int .i64 (.ofNat 0)) := ⟨_, by simp only [amE, reduceEqDiff, ↓reduceIte, reduceCtorEq, reduceAdd, gR15_4, lo] <;> rfl, Kp.refl.s.s.s, gn gh, gh⟩
  have dR16 := kR16.1.trans dR15
  refine ⟨so, st2, fun_of (mf := kf12) (fr := fR16) t12 rfl (.inl ?q16) dR16 (by simp only [kf12, amE, oR16_2, oR16_3]; rfl), kf, hout.1.LR hPb'⟩
  case q16 =>
   rw [<- hA8]
   simp only [amE, reduceEqDiff, ↓reduceIte, reduceCtorEq, reduceAdd, kf12, hR9, hR10, hR12, hR13, hR14, hR15, hR16, oR10_8, Bool.not_true]
end Go.AM.D16
