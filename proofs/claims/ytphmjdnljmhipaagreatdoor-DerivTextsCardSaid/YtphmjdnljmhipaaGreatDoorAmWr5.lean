import Derived.Test.YtphmjdnljmhipaaGreatDoorAmWr3
import Derived.Test.YtphmjdnljmhipaaGreatDoorAmRef
set_option linter.unusedSimpArgs false
set_option linter.unusedVariables false
set_option maxRecDepth 100000
namespace Go.AM.D16
open Go Go.AM
noncomputable section
open Nat (reduceEqDiff reduceAdd)
mutual
def Tm.i6 : Tm -> Prop
 | .mk _ n _ _ l => in64 n = true /\ Tm.i6L l
def Tm.i6L : List Tm -> Prop
 | [] => True
 | t :: l => t.i6 /\ Tm.i6L l
end
mutual
def Dv.i6 : Dv -> Prop
 | .mk _ _ _ vs _ _ l => Tm.i6L vs /\ Dv.i6L l
def Dv.i6L : List Dv -> Prop
 | [] => True
 | t :: l => t.i6 /\ Dv.i6L l
end
theorem Tm.i6_at : ∀ {l : List Tm} {k : Nat} {t : Tm}, Tm.i6L l -> l[k]? = some t -> t.i6
 | x :: l, 0, t, h, e => by simp only [List.getElem?_cons_zero, Option.some.injEq] at e; subst e; simp only [Tm.i6L] at h; exact h.1
 | x :: l, k + 1, t, h, e => by simp only [List.getElem?_cons_succ] at e; simp only [Tm.i6L] at h; exact Tm.i6_at h.2 e
theorem Dv.i6_at : ∀ {l : List Dv} {k : Nat} {t : Dv}, Dv.i6L l -> l[k]? = some t -> t.i6
 | x :: l, 0, t, h, e => by simp only [List.getElem?_cons_zero, Option.some.injEq] at e; subst e; simp only [Dv.i6L] at h; exact h.1
 | x :: l, k + 1, t, h, e => by simp only [List.getElem?_cons_succ] at e; simp only [Dv.i6L] at h; exact Dv.i6_at h.2 e
theorem txTs_at : ∀ {l : List Tm} {k : Nat} {x : List Nat}, (txTs l)[k]? = some x -> ∃ t, l[k]? = some t /\ x = txT t
 | [], k, x, h => by simp [txTs] at h
 | t :: l, 0, x, h => by simp only [txTs, List.getElem?_cons_zero, Option.some.injEq] at h; exact ⟨t, rfl, h.symm⟩
 | t :: l, k + 1, x, h => by simp only [txTs, List.getElem?_cons_succ] at h; obtain ⟨t', h1, h2⟩ := txTs_at (l := l) (k := k) h; exact ⟨t', by rw [List.getElem?_cons_succ]; exact h1, h2⟩
theorem txDs_at : ∀ {l : List Dv} {k : Nat} {x : List Nat}, (txDs l)[k]? = some x -> ∃ t, l[k]? = some t /\ x = txD t
 | [], k, x, h => by simp [txDs] at h
 | t :: l, 0, x, h => by simp only [txDs, List.getElem?_cons_zero, Option.some.injEq] at h; exact ⟨t, rfl, h.symm⟩
 | t :: l, k + 1, x, h => by simp only [txDs, List.getElem?_cons_succ] at h; obtain ⟨t', h1, h2⟩ := txDs_at (l := l) (k := k) h; exact ⟨t', by rw [List.getElem?_cons_succ]; exact h1, h2⟩
theorem txTs_len : ∀ l : List Tm, (txTs l).length = l.length
 | [] => rfl
 | t :: l => by simp [txTs, txTs_len l]
theorem txDs_len : ∀ l : List Dv, (txDs l).length = l.length
 | [] => rfl
 | t :: l => by simp [txDs, txDs_len l]
theorem dgA_ne : ∀ f u : Nat, dgA f u ≠ []
 | 0, u => by simp [dgA]
 | f + 1, u => by
  unfold dgA
  cases u.ble 9 <;> simp
theorem itoaA_ne : ∀ n : Int, itoaA n ≠ []
 | .ofNat u => dgA_ne u u
 | .negSucc u => by simp [itoaA]
theorem itoa_at (n : Nat) (Y : Yenv) {x : Int} (h : in64 x = true) (st : St) : R (n + 1) Y 84 [.int .i64 x] st = .ret (.str (itoaA x)) st := by
 have t : tbl 84 = none := by kernel_rfl
 unfold R
 simp only [arunC, t]
 show itoaR [.int .i64 x] st = _
 simp only [itoaR, h, cond_true]
def g86_1 : List MOper := [⟨(some 4), .mv (.t 0), none⟩, ⟨(some 5), .faddr 1 (.t 3), none⟩, ⟨(some 6), .load false 1 (.t 5), none⟩, ⟨(some 7), .call (.c (.func (.func 84) [] [])) [(.t 6)], none⟩, ⟨(some 8), .call (.c (.func (.func 83) [] [])) [(.t 4), (.t 7)], none⟩]
def g86_2 : List MOper := [⟨(some 9), .mv (.t 0), none⟩, ⟨(some 10), .faddr 2 (.t 3), none⟩, ⟨(some 11), .load false 1 (.t 10), none⟩, ⟨(some 12), .call (.c (.func (.func 85) [] [])) [(.t 9), (.c (.int .u8 (.ofNat 40))), (.t 11), (.c (.int .u8 (.ofNat 41))), (.c (.func (.func 86) [] []))], none⟩]
def kf86 : MFunc := ⟨13, (.seq (.region [⟨(some 3), .box true (.t 1), none⟩])
 (.seq (.region g86_1)
 (.region g86_2))), []⟩
theorem t86 : tbl 86 = some kf86 := by kernel_rfl
def g54_1 : List MOper := [⟨(some 4), .mv (.t 0), none⟩, ⟨(some 5), .faddr 0 (.t 3), none⟩, ⟨(some 6), .load false 1 (.t 5), none⟩, ⟨(some 7), .call (.c (.func (.func 84) [] [])) [(.t 6)], none⟩, ⟨(some 8), .call (.c (.func (.func 83) [] [])) [(.t 4), (.t 7)], none⟩]
def g54_2 : List MOper := [⟨(some 9), .mv (.t 0), none⟩, ⟨(some 10), .faddr 1 (.t 3), none⟩, ⟨(some 11), .load false 1 (.t 10), none⟩, ⟨(some 12), .call (.c (.func (.func 85) [] [])) [(.t 9), (.c (.int .u8 (.ofNat 123))), (.t 11), (.c (.int .u8 (.ofNat 125))), (.c (.func (.func 86) [] []))], none⟩]
def g54_3 : List MOper := [⟨(some 13), .mv (.t 0), none⟩, ⟨(some 14), .faddr 2 (.t 3), none⟩, ⟨(some 15), .load false 1 (.t 14), none⟩, ⟨(some 16), .call (.c (.func (.func 87) [] [])) [(.t 13), (.c (.int .u8 (.ofNat 40))), (.t 15), (.c (.int .u8 (.ofNat 41))), (.c (.func (.func 54) [] []))], none⟩]
def kf54 : MFunc := ⟨17, (.seq (.region [⟨(some 3), .box true (.t 1), none⟩])
 (.seq (.region g54_1)
 (.seq (.region g54_2)
 (.region g54_3)))), []⟩
theorem t54 : tbl 54 = some kf54 := by kernel_rfl
def g21_1 : List MOper := [⟨(some 5), .load true 3 (.t 1), none⟩, ⟨(some 6), .call (.c (.func (.func 41) [] [])) [(.t 5)], none⟩, ⟨(some 7), .un .not (.t 6), none⟩]
def g21_5 : List MOper := [⟨(some 10), .call (.c (.func (.func 55) [] [])) [(.t 4)], none⟩, ⟨(some 11), .bin false .gtr (.t 10) (.c (.int .i64 (.ofNat 100000))), none⟩]
def g21_7 : List MOper := [⟨(some 12), .call (.c (.func (.func 56) [] [])) [(.t 4)], none⟩, ⟨(some 2), .mv (.t 12), none⟩, ⟨(some 3), .mv (.c (.int .i64 (.ofNat 0))), none⟩]
def kf21 : MFunc := ⟨13, (.seq (.region [⟨(some 1), .box true (.t 0), none⟩, ⟨(some 2), .mv (.c (.str [])), none⟩, ⟨(some 3), .mv (.c (.int .i64 (.ofNat 0))), none⟩])
 (.seq (.seq (.region g21_1)
 (.cond (.t 7)
 (.seq (.region [⟨(some 2), .mv (.c (.str [])), none⟩, ⟨(some 3), .mv (.c (.int .i64 (.ofNat 160))), none⟩])
 .ret)
 .skip))
 (.seq (.region [⟨(some 4), .allocT 113 [.nilptr, .nilsl], none⟩])
 (.seq (.region [⟨(some 8), .load true 3 (.t 1), none⟩, ⟨(some 9), .call (.c (.func (.func 54) [] [])) [(.t 4), (.t 8)], none⟩])
 (.seq (.seq (.region g21_5)
 (.cond (.t 11)
 (.seq (.region [⟨(some 2), .mv (.c (.str [])), none⟩, ⟨(some 3), .mv (.c (.int .i64 (.ofNat 2))), none⟩])
 .ret)
 .skip))
 (.seq (.region g21_7)
 .ret)))))), [.t 2, .t 3]⟩
theorem t21 : tbl 21 = some kf21 := by kernel_rfl
theorem val_run (t : Tm) : ∀ (n : Nat) (Y : Yenv) (F : Nat -> Prop) (st : St) (cs : List AV) (b : Nat) (l : List Nat) (p sl : AV), RepT F st t cs -> (∀ i, F i -> i < b) -> Bl b st l p sl -> t.i6 -> l.length + (txT t).length <= 140737488355328 -> t.fz <= n ->
  ∃ v s', R n Y 86 [.ptr b 0, .agg cs] st = .ret (.tuple []) s' /\ Bl b s' (l ++ txT t) (.ptr b 0) v /\ Up b st s' := by
 induction hs : t.fz using Nat.strongRecOn generalizing t with
 | _ s ih =>
 intro n Y F st cs b l p sl hr hF h hi hb hn
 cases t with
 | mk k0 n0 nl ex ts =>
 simp only [RepT] at hr
 obtain ⟨sv, xs, rfl, hsl, hrs⟩ := hr
 simp only [Tm.fz] at hs
 simp only [Tm.i6] at hi
 simp only [txT] at hb ⊢
 simp only [List.length_append] at hb
 have hxl := hrs.len
 obtain ⟨k, rfl⟩ : ∃ k, n = k + 5 := ⟨n - 5, by omega⟩
 have hit := itoa_at (k + 3) Y hi.1 st
 obtain ⟨v1, s1, q1, hw1, h1, k1⟩ := ws_run h (itoaA_ne n0) (by omega) (k + 1) Y
 have sm := h.same k1 hF
 obtain ⟨v2, s2, hw2, h2, k2⟩ := btw_run (f := 85) (g := 86) (n := k) (o := 40) (c := 41) (Y := Y) t85 rfl h1 (hsl.mono sm fun _ h => h) hF (by rw [txTs_len, hxl]) (by omega) (by simp only [List.length_append]; omega)
  fun j x tx hx htx s' l' p' sv' hbl hup hlen => by
   obtain ⟨t, ht, rfl⟩ := txTs_at htx
   obtain ⟨x', hx', hrx⟩ := hrs.at ht
   rw [hx] at hx'; injection hx' with hx'; subst hx'
   have hfz := Tm.fzL_mem (List.mem_of_getElem? ht)
   exact ih t.fz (by omega) t rfl (k + 3) Y F s' x b l' p' sv' (RepT.mono (sm.trans (h1.same hup hF)) (fun _ h => h) t x hrx) hF hbl (Tm.i6_at hi.2 ht) hlen (by omega)
 rw [List.append_assoc] at h2
 refine ⟨v2, s2, fun_of (mf := kf86) (fr := ?f0) t86 rfl (.inr ?x0) ?d0 ?r0, h2, k1.trans k2⟩
 case x0 => simp only [amE, reduceEqDiff, ↓reduceIte, reduceCtorEq, reduceAdd, kf86, g86_1, g86_2, cg_fn, faf, ld1f, ld2f, hit, hw1, hw2] <;> rfl
 case d0 => rfl
 case r0 => rfl
theorem wr_run (t : Dv) : ∀ (n : Nat) (Y : Yenv) (F : Nat -> Prop) (st : St) (cs : List AV) (b : Nat) (l : List Nat) (p sl : AV), RepD F st t cs -> (∀ i, F i -> i < b) -> Bl b st l p sl -> t.i6 -> t.good gr = true -> l.length + (txD t).length <= 140737488355328 -> t.fz <= n ->
  ∃ v s', R n Y 54 [.ptr b 0, .agg cs] st = .ret (.tuple []) s' /\ Bl b s' (l ++ txD t) (.ptr b 0) v /\ Up b st s' := by
 induction hs : t.fz using Nat.strongRecOn generalizing t with
 | _ s ih =>
 intro n Y F st cs b l p sl hr hF h hi hg hb hn
 cases t with
 | mk r0 nv ev vs nl ex ds =>
 simp only [RepD] at hr
 obtain ⟨s1v, x1, s2v, x2, rfl, hsl1, hrs1, hsl2, hrs2⟩ := hr
 simp only [Dv.fz] at hs
 simp only [Dv.i6] at hi
 simp only [txD] at hb ⊢
 simp only [List.length_append] at hb
 obtain ⟨g1, g2, _, _, _, g6⟩ := good_mk hg
 have hr64 : in64 r0 = true := by
  obtain ⟨u, rfl⟩ := Int.eq_ofNat_of_zero_le (show 0 <= r0 by omega)
  exact Nat.ble_eq_true_of_le (by omega)
 have hxl1 := hrs1.len
 have hxl2 := hrs2.len
 obtain ⟨k, rfl⟩ : ∃ k, n = k + 5 := ⟨n - 5, by omega⟩
 have hit := itoa_at (k + 3) Y hr64 st
 obtain ⟨v1, s1, q1, hw1, h1, k1⟩ := ws_run h (itoaA_ne r0) (by omega) (k + 1) Y
 have sm := h.same k1 hF
 obtain ⟨v2, s2, hw2, h2, k2⟩ := btw_run (f := 85) (g := 86) (n := k) (o := 123) (c := 125) (Y := Y) t85 rfl h1 (hsl1.mono sm fun _ h => h) hF (by rw [txTs_len, hxl1]) (by omega) (by simp only [List.length_append]; omega)
  fun j x tx hx htx s' l' p' sv' hbl hup hlen => by
   obtain ⟨t, ht, rfl⟩ := txTs_at htx
   obtain ⟨x', hx', hrx⟩ := hrs1.at ht
   rw [hx] at hx'; injection hx' with hx'; subst hx'
   have hfz := Tm.fzL_mem (List.mem_of_getElem? ht)
   exact val_run t (k + 3) Y F s' x b l' p' sv' (RepT.mono (sm.trans (h1.same hup hF)) (fun _ h => h) t x hrx) hF hbl (Tm.i6_at hi.1 ht) hlen (by omega)
 have sm2 := sm.trans (h1.same k2 hF)
 obtain ⟨v3, s3, hw3, h3, k3⟩ := btw_run (f := 87) (g := 54) (n := k) (o := 40) (c := 41) (Y := Y) t87 rfl h2 (hsl2.mono sm2 fun _ h => h) hF (by rw [txDs_len, hxl2]) (by omega) (by simp only [List.length_append]; omega)
  fun j x tx hx htx s' l' p' sv' hbl hup hlen => by
   obtain ⟨t, ht, rfl⟩ := txDs_at htx
   obtain ⟨x', hx', hrx⟩ := hrs2.at ht
   rw [hx] at hx'; injection hx' with hx'; subst hx'
   have hm := List.mem_of_getElem? ht
   have hfz := Dv.fzL_mem hm
   exact ih t.fz (by omega) t rfl (k + 3) Y F s' x b l' p' sv' (RepD.mono (sm2.trans (h2.same hup hF)) (fun _ h => h) t x hrx) hF hbl (Dv.i6_at hi.2 ht) (goodL_mem g6 t hm) hlen (by omega)
 rw [List.append_assoc, List.append_assoc, <- List.append_assoc (itoaA r0)] at h3
 refine ⟨v3, s3, fun_of (mf := kf54) (fr := ?f0) t54 rfl (.inr ?x0) ?d0 ?r0, h3, (k1.trans k2).trans k3⟩
 case x0 => simp only [amE, reduceEqDiff, ↓reduceIte, reduceCtorEq, reduceAdd, kf54, g54_1, g54_2, g54_3, cg_fn, faf, ld0f, ld1f, ld2f, hit, hw1, hw2, hw3] <;> rfl
 case d0 => rfl
 case r0 => rfl
end
end Go.AM.D16
set_option maxRecDepth 100000
namespace Go.AM.D16
open Go Go.AM
open Nat (reduceEqDiff reduceAdd)
theorem nd_allocT {Γ : Cg} {dst : Option Nat} {gd : Option (Nat × Bool)} {ms : List MOper} {fr : Fr} {st : St} {a b} : arun Γ (⟨dst, (MOp.allocT a b), gd⟩ :: ms) fr st = match wantedA fr gd with
 | some true => (match opr Γ fr st (MOp.allocT a b) with
  | .val v st' => arun Γ ms (Fr.put fr dst v) st'
  | .pan v st' => .pan fr v st'
  | .stuck => .stuck)
 | some false => arun Γ ms (Fr.put fr dst .undef) st
 | none => .stuck := arun_nd rfl
def sumL : List (List Nat) -> Nat
 | [] => 0
 | x :: l => x.length + 1 + sumL l
theorem cmr_len : ∀ l : List (List Nat), (cmr l).length = sumL l
 | [] => rfl
 | x :: l => by simp only [cmr, sumL, List.length_cons, List.length_append, cmr_len l]; omega
theorem brk_len (o c : Nat) (l : List (List Nat)) : (brk o c l).length <= sumL l + 1 := by
 cases l with
 | nil => simp [brk]
 | cons x l => simp only [brk, cm, sumL, List.length_cons, List.length_append, List.length_nil, cmr_len]; omega
mutual
theorem txT_len : ∀ t : Tm, t.i6 -> (txT t).length + 1 <= 24 * t.size
 | .mk k n nl ex l, h => by
  simp only [Tm.i6] at h
  simp only [txT, Tm.size, List.length_append]
  have h1 := itoaA_len h.1
  have h2 := brk_len 40 41 (txTs l)
  have h3 := txTs_sum l h.2
  omega
theorem txTs_sum : ∀ l : List Tm, Tm.i6L l -> sumL (txTs l) <= 24 * Tm.sizeL l
 | [], _ => Nat.le_refl _
 | t :: l, h => by
  simp only [Tm.i6L] at h
  simp only [txTs, sumL, Tm.sizeL]
  have h1 := txT_len t h.1
  have h2 := txTs_sum l h.2
  omega
end
theorem gr_size {t : Tm} (h : gr t = true) : t.size <= 2000 := by
 have h1 : isTr t = true := by simp only [gr, Bool.and_eq_true] at h; exact h.1
 rw [<- rIs_eq] at h1
 simp only [rIs, Bool.and_eq_true] at h1
 have := ((rcT_spec t 2000 1 (by decide) (by decide) (by decide) (by decide)).1.1 h1.1).1
 omega
theorem all_size : ∀ l : List Tm, l.all gr = true -> Tm.sizeL l <= 2000 * l.length
 | [], _ => Nat.le_refl _
 | t :: l, h => by
  simp only [List.all_cons, Bool.and_eq_true] at h
  simp only [Tm.sizeL, List.length_cons]
  have h1 := gr_size h.1
  have h2 := all_size l h.2
  omega
theorem good_vals {r : Int} {nv ev nl ex : Bool} {vs : List Tm} {l : List Dv} (h : Dv.good gr (.mk r nv ev vs nl ex l) = true) : vs.all gr = true := by
 simp only [Dv.good, Bool.and_eq_true, decide_eq_true_eq, beq_iff_eq] at h
 exact h.1.2
mutual
theorem txD_len : ∀ d : Dv, d.i6 -> d.good gr = true -> (txD d).length + 1 <= 4000000 * d.size
 | .mk r nv ev vs nl ex l, h, hg => by
  obtain ⟨g1, g2, _, g4, _, g6⟩ := good_mk hg
  have hr64 : in64 r = true := by
   obtain ⟨u, rfl⟩ := Int.eq_ofNat_of_zero_le (show 0 <= r by omega)
   exact Nat.ble_eq_true_of_le (by omega)
  simp only [Dv.i6] at h
  simp only [txD, Dv.size, List.length_append]
  have h1 := itoaA_len hr64
  have h2 := brk_len 123 125 (txTs vs)
  have h3 := txTs_sum vs h.1
  have h4 := all_size vs (good_vals hg)
  have h5 := vaN_le r
  have h6 := brk_len 40 41 (txDs l)
  have h7 := txDs_sum l h.2 g6
  omega
theorem txDs_sum : ∀ l : List Dv, Dv.i6L l -> Dv.goodL gr l = true -> sumL (txDs l) <= 4000000 * Dv.sizeL l
 | [], _, _ => Nat.le_refl _
 | t :: l, h, hg => by
  simp only [Dv.i6L] at h
  simp only [Dv.goodL, Bool.and_eq_true] at hg
  simp only [txDs, sumL, Dv.sizeL]
  have h1 := txD_len t h.1 hg.1
  have h2 := txDs_sum l h.2 hg.2
  omega
end
theorem dgA_8 : ∀ (f u : Nat), u <= f -> ∀ c ∈ dgA f u, c < 256
 | 0, u, hu, c, h => by simp only [dgA, List.mem_singleton] at h; omega
 | f + 1, u, hu, c, h => by
  unfold dgA at h
  cases hb : u.ble 9
  ·rw [hb] at h
   simp only [cond_false, List.mem_append, List.mem_singleton] at h
   rcases h with h | h
   ·exact dgA_8 f (u / 10) (by omega) c h
   ·omega
  ·rw [hb] at h
   have := Nat.le_of_ble_eq_true hb
   simp only [cond_true, List.mem_singleton] at h
   omega
theorem itoaA_8 (n : Int) : ∀ c ∈ itoaA n, c < 256 := by
 intro c h
 cases n with
 | ofNat u => exact dgA_8 u u (Nat.le_refl _) c h
 | negSucc u =>
  have h' : c ∈ 45 :: dgA (u + 1) (u + 1) := h
  rcases List.mem_cons.1 h' with rfl | h'
  ·decide
  ·exact dgA_8 (u + 1) (u + 1) (Nat.le_refl _) c h'
theorem cmr_8 : ∀ {l : List (List Nat)}, (∀ x ∈ l, ∀ c ∈ x, c < 256) -> ∀ c ∈ cmr l, c < 256
 | [], _, c, h => by simp [cmr] at h
 | x :: l, hl, c, h => by
  simp only [cmr, List.mem_cons, List.mem_append] at h
  rcases h with rfl | h | h
  ·decide
  ·exact hl x List.mem_cons_self c h
  ·exact cmr_8 (fun y hy => hl y (List.mem_cons_of_mem _ hy)) c h
theorem brk_8 {o c : Nat} (ho : o < 256) (hc : c < 256) {l : List (List Nat)} (hl : ∀ x ∈ l, ∀ c ∈ x, c < 256) : ∀ d ∈ brk o c l, d < 256 := by
 intro d h
 cases l with
 | nil => simp [brk] at h
 | cons x l =>
  simp only [brk, cm, List.mem_cons, List.mem_append, List.mem_singleton] at h
  rcases h with rfl | (h | h) | h
  ·exact ho
  ·exact hl x List.mem_cons_self d h
  ·exact cmr_8 (fun y hy => hl y (List.mem_cons_of_mem _ hy)) d h
  ·rcases h with rfl | h
   ·exact hc
   ·simp at h
mutual
theorem txT_8 : ∀ t : Tm, ∀ c ∈ txT t, c < 256
 | .mk k n nl ex l, c, h => by
  simp only [txT, List.mem_append] at h
  rcases h with h | h
  ·exact itoaA_8 n c h
  ·exact brk_8 (by decide) (by decide) (txTs_8 l) c h
theorem txTs_8 : ∀ l : List Tm, ∀ x ∈ txTs l, ∀ c ∈ x, c < 256
 | [], x, h => by simp [txTs] at h
 | t :: l, x, h => by
  simp only [txTs, List.mem_cons] at h
  rcases h with rfl | h
  ·exact txT_8 t
  ·exact txTs_8 l x h
end
mutual
theorem txD_8 : ∀ t : Dv, ∀ c ∈ txD t, c < 256
 | .mk r nv ev vs nl ex l, c, h => by
  simp only [txD, List.mem_append] at h
  rcases h with (h | h) | h
  ·exact itoaA_8 r c h
  ·exact brk_8 (by decide) (by decide) (txTs_8 vs) c h
  ·exact brk_8 (by decide) (by decide) (txDs_8 l) c h
theorem txDs_8 : ∀ l : List Dv, ∀ x ∈ txDs l, ∀ c ∈ x, c < 256
 | [], x, h => by simp [txDs] at h
 | t :: l, x, h => by
  simp only [txDs, List.mem_cons] at h
  rcases h with rfl | h
  ·exact txD_8 t
  ·exact txDs_8 l x h
end
def wrS (d : Dv) : List Nat := if isDv d = true then (if (txD d).length > 100000 then [] else txD d) else []
def wrE (d : Dv) : Nat := if isDv d = true then (if (txD d).length > 100000 then 2 else 0) else 160
theorem Write_run (d : Dv) (n : Nat) (Y : Yenv) (F : Nat -> Prop) (st : St) (cs : List AV) (hr : RepD F st d cs) (hF : ∀ i, F i -> i < st.next) (hi : d.i6) (hn : d.fz + 4 <= n) :
  ∃ st', R n Y 21 [.agg cs] st = .ret (.tuple [.str (wrS d), .int .i64 (.ofNat (wrE d))]) st' /\ Keeps st st' := by
 obtain ⟨m, rfl⟩ : ∃ m, n = m + 3 := ⟨n - 3, by omega⟩
 have hc3 := hr.cells3
 have ld3 : ∀ s, loadA true 3 s (.fptr cs 0) = some (.agg cs) := fun s => by
  simp only [loadA, cellsAt, Option.bind_some, List.drop_zero, ofCells, cond_true]
  rw [List.take_of_length_le (by omega), hc3.1]; rfl
 obtain ⟨s1, hd, k1⟩ := isDeriv_run d (m + 2) Y F st cs hr hF (by omega)
 unfold wrS wrE
 by_cases hdv : isDv d = true
 ·rw [hdv] at hd
  rw [if_pos hdv, if_pos hdv]
  obtain ⟨hg, hsz, _⟩ := (isDv_iff d).1 hdv
  have hlen := txD_len d hi hg
  have bl0 : Bl s1.next ((s1.new (.row [.nilptr, .nilsl])).tag s1.next 113) [] .nilptr .nilsl := ⟨by simp, by rw [St.get_tag, St.get_new, if_pos rfl], by show (s1.bt.set s1.next (some 113)).get s1.next = some 113; rw [Tr.get_set, if_pos rfl], .inl rfl, .inl ⟨rfl, rfl⟩⟩
  have hF1 : ∀ i, F i -> i < s1.next := fun i h => Nat.lt_of_lt_of_le (hF i h) k1.1
  have sm : Same F st ((s1.new (.row [.nilptr, .nilsl])).tag s1.next 113) := fun i h => by
   have := hF1 i h
   rw [St.get_tag, St.get_new, if_neg (by omega)]; exact k1.2 i (hF i h)
  obtain ⟨v, s3, hw, bl3, up3⟩ := wr_run d (m + 2) Y F _ cs s1.next [] .nilptr .nilsl (RepD.mono sm (fun _ h => h) d cs hr) hF1 bl0 hi hg (by simp only [List.length_nil]; omega) (by omega)
  rw [List.nil_append] at bl3
  have hln := ln_run bl3 (m + 1) Y
  have kpt : ∀ s', s3.next <= s'.next -> (∀ i, i < s1.next -> s'.get i = s3.get i) -> Keeps st s' := fun s' h1 h2 => by
   have h3 := up3.next
   simp only [St.next_tag, St.next_new] at h3
   refine ⟨by have := k1.1; omega, fun i hi => ?_⟩
   have hi1 : i < s1.next := Nat.lt_of_lt_of_le hi k1.1
   rw [h2 i hi1, up3.get i (by simp; omega) (by omega) (bl0.nbf (by omega)), St.get_tag, St.get_new, if_neg (by omega)]
   exact k1.2 i hi
  by_cases hl : (txD d).length > 100000
  ·rw [if_pos hl, if_pos hl]
   have gt : binB false .gtr (.int .i64 (.ofNat (txD d).length)) (.int .i64 (.ofNat 100000)) = some (.bool true) := by
    show some (AV.bool (decide ((Int.ofNat (txD d).length) > Int.ofNat 100000))) = _
    congr 2
    simp; omega
   refine ⟨s3, fun_of (mf := kf21) (fr := ?f0) t21 rfl (.inl ?x0) ?d0 ?r0, kpt s3 (Nat.le_refl _) fun _ _ => rfl⟩
   case x0 => simp only [amE, reduceEqDiff, ↓reduceIte, reduceCtorEq, reduceAdd, kf21, g21_1, g21_5, nd_allocT, cg_fn, ld3, hd, unN, hw, hln, gt, Bool.not_true, Bool.not_false] <;> rfl
   case d0 => rfl
   case r0 => rfl
  ·rw [if_neg hl, if_neg hl]
   have gt : binB false .gtr (.int .i64 (.ofNat (txD d).length)) (.int .i64 (.ofNat 100000)) = some (.bool false) := by
    show some (AV.bool (decide ((Int.ofNat (txD d).length) > Int.ofNat 100000))) = _
    congr 2
    simp; omega
   obtain ⟨s4, hst, n4, g4⟩ := str_run bl3 (txD_8 d) (by omega) (m + 1) Y
   refine ⟨s4, fun_of (mf := kf21) (fr := ?f1) t21 rfl (.inl ?x1) ?d1 ?r1, kpt s4 n4 g4⟩
   case x1 => simp only [amE, reduceEqDiff, ↓reduceIte, reduceCtorEq, reduceAdd, kf21, g21_1, g21_5, g21_7, nd_allocT, cg_fn, ld3, hd, unN, hw, hln, gt, hst, Bool.not_true, Bool.not_false] <;> rfl
   case d1 => rfl
   case r1 => rfl
 ·have hdf : isDv d = false := by cases h : isDv d; rfl; exact absurd h hdv
  rw [hdf] at hd
  rw [if_neg hdv, if_neg hdv]
  refine ⟨s1, fun_of (mf := kf21) (fr := ?f2) t21 rfl (.inl ?x2) ?d2 ?r2, k1⟩
  case x2 => simp only [amE, reduceEqDiff, ↓reduceIte, reduceCtorEq, reduceAdd, kf21, g21_1, cg_fn, ld3, hd, unN, Bool.not_true, Bool.not_false] <;> rfl
  case d2 => rfl
  case r2 => rfl
end Go.AM.D16
