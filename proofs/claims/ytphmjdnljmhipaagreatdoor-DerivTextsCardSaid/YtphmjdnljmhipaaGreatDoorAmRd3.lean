import Derived.Test.YtphmjdnljmhipaaGreatDoorAmRd2
set_option linter.unusedSimpArgs false
set_option linter.unusedVariables false
set_option maxRecDepth 100000
namespace Go.AM.D16
open Go Go.AM
open Nat (reduceEqDiff reduceAdd)
def pB {α : Type} (one : Nat -> PR α) (rest : Nat -> PR (List α)) (s : List Nat) (p o : Nat) : PR (List α) :=
 if sgn s p o = true then (match one (p + 1) with
  | .err e => .err e
  | .ok t p2 => match rest p2 with
   | .err e => .err e
   | .ok l p3 => .ok (t :: l) p3) else .ok [] p
def pN {α : Type} (one : Nat -> PR α) (rest : Nat -> PR (List α)) (s : List Nat) (p c : Nat) : PR (List α) :=
 if sgn s p 44 = true then (match one (p + 1) with
  | .err e => .err e
  | .ok t p2 => match rest p2 with
   | .err e => .err e
   | .ok l p3 => .ok (t :: l) p3) else if sgn s p c = true then .ok [] (p + 1) else .err p
mutual
def pT (s : List Nat) : Nat -> Nat -> PR Tm
 | 0, p => .err p
 | f + 1, p => match nm s p with
  | .err e => .err e
  | .ok n p1 => match pB (fun p => pT s f p) (fun p => pTl s f 41 p) s p1 40 with
   | .err e => .err e
   | .ok l p2 => .ok (.mk 2 (.ofNat n) false false l) p2
def pTl (s : List Nat) : Nat -> Nat -> Nat -> PR (List Tm)
 | 0, _, p => .err p
 | f + 1, c, p => pN (fun p => pT s f p) (fun p => pTl s f c p) s p c
end
mutual
def pD (s : List Nat) : Nat -> Nat -> PR Dv
 | 0, p => .err p
 | f + 1, p => match nm s p with
  | .err e => .err e
  | .ok n p1 => match pB (fun p => pT s f p) (fun p => pTl s f 125 p) s p1 123 with
   | .err e => .err e
   | .ok vs p2 => match pB (fun p => pD s f p) (fun p => pDl s f p) s p2 40 with
    | .err e => .err e
    | .ok l p3 => .ok (.mk (.ofNat n) false false vs false false l) p3
def pDl (s : List Nat) : Nat -> Nat -> PR (List Dv)
 | 0, p => .err p
 | f + 1, p => pN (fun p => pD s f p) (fun p => pDl s f p) s p 41
end
theorem sgn_lt {s : List Nat} {p c : Nat} (h : sgn s p c = true) : p < s.length := by
 unfold sgn at h
 exact (List.getElem?_eq_some_iff.1 (of_decide_eq_true h)).1
theorem nmL_pos {s : List Nat} : ∀ (j i p n : Nat), p <= s.length -> match nmL s j i p n with | .ok _ p' => p <= p' /\ p' <= s.length | .err p' => p <= p' /\ p' <= s.length
 | 0, i, p, n, h => ⟨Nat.le_refl _, h⟩
 | j + 1, i, p, n, h => by
  unfold nmL
  by_cases hd : dgt s p = true
  ·rw [if_pos hd]
   by_cases hb : (0 < i /\ n = 0) \/ 9 <= i
   ·rw [if_pos hb]; exact ⟨Nat.le_refl _, h⟩
   ·rw [if_neg hb]
    have hp := (dgt_ch hd).2.2.2
    have ih := nmL_pos (s := s) j (i + 1) (p + 1) (10 * n + (ch s p - 48)) (by omega)
    cases hx : nmL s j (i + 1) (p + 1) (10 * n + (ch s p - 48)) <;> rw [hx] at ih <;> simp only at ih ⊢ <;> omega
  ·rw [if_neg hd]; exact ⟨Nat.le_refl _, h⟩
theorem nm_pos {s : List Nat} {p x p' : Nat} (h : nm s p = .ok x p') : p < p' /\ p' <= s.length := by
 unfold nm at h
 by_cases hd : dgt s p = true
 ·rw [if_pos hd] at h
  have hp := (dgt_ch hd).2.2.2
  unfold nmL at h
  rw [if_pos hd, if_neg (show ¬ (((0 : Nat) < 0 /\ (0 : Nat) = 0) \/ 9 <= (0 : Nat)) by decide)] at h
  have := nmL_pos (s := s) 10 (0 + 1) (p + 1) (10 * 0 + (ch s p - 48)) (by omega)
  rw [h] at this
  simp only at this
  omega
 ·rw [if_neg hd] at h; cases h
section
variable {α : Type}
def RL (Rep : α -> List AV -> Prop) : List α -> List (List AV) -> Prop
 | [], xs => xs = []
 | t :: l, xs => ∃ x ys, xs = x :: ys /\ Rep t x /\ RL Rep l ys
theorem RL.mono {R1 R2 : α -> List AV -> Prop} (h : ∀ t x, R1 t x -> R2 t x) : ∀ {l : List α} {xs : List (List AV)}, RL R1 l xs -> RL R2 l xs
 | [], _, k => k
 | t :: l, _, ⟨x, ys, e, h1, h2⟩ => ⟨x, ys, e, h t x h1, RL.mono h h2⟩
theorem RL.snoc {R1 : α -> List AV -> Prop} : ∀ {l : List α} {xs : List (List AV)} {t : α} {x : List AV}, RL R1 l xs -> R1 t x -> RL R1 (l ++ [t]) (xs ++ [x])
 | [], xs, t, x, h, k => by
  have h' : xs = [] := h
  subst h'; exact ⟨x, [], rfl, k, rfl⟩
 | y :: l, _, t, x, ⟨a, ys, e, h1, h2⟩, k => by
  subst e
  exact ⟨a, ys ++ [x], rfl, h1, h2.snoc k⟩
theorem RL.len {R1 : α -> List AV -> Prop} : ∀ {l : List α} {xs : List (List AV)}, RL R1 l xs -> xs.length = l.length
 | [], xs, h => by
  have h' : xs = [] := h
  subst h'; rfl
 | y :: l, _, ⟨a, ys, e, h1, h2⟩ => by subst e; simp [RL.len h2]
end
theorem RL.tms {F : Nat -> Prop} {st : St} : ∀ {l : List Tm} {xs : List (List AV)}, RL (RepT F st) l xs -> RepTs F st l xs
 | [], xs, h => by simp only [RepTs]; exact h
 | t :: l, _, ⟨x, ys, e, h1, h2⟩ => by simp only [RepTs]; exact ⟨x, ys, e, h1, RL.tms h2⟩
theorem RL.dvs {F : Nat -> Prop} {st : St} : ∀ {l : List Dv} {xs : List (List AV)}, RL (RepD F st) l xs -> RepDs F st l xs
 | [], xs, h => by simp only [RepDs]; exact h
 | t :: l, _, ⟨x, ys, e, h1, h2⟩ => by simp only [RepDs]; exact ⟨x, ys, e, h1, RL.dvs h2⟩
structure Gl (lo : Nat) (s : St) (sl : AV) (xs : List (List AV)) (G : Nat -> Prop) : Prop where
 g : ∀ i, G i -> lo <= i /\ i < s.next
 x : ∀ x ∈ xs, x.length = 3 /\ x.all AV.one = true
 sl : (sl = .nilsl /\ xs = []) \/ (sl = .lst xs.length xs.flatten true) \/ ∃ id, sl = .own id 0 xs.length 3 none xs.length /\ lo <= id /\ id < s.next /\ s.get id = some (.row xs.flatten) /\ ¬ G id
theorem Gl.to {q lo : Nat} {s s2 : St} {sl : AV} {xs : List (List AV)} {G G2 : Nat -> Prop} (h : Gl lo s sl xs G) (k : Keep1 q s s2) (hq : q < lo) (hlo : lo <= s.next) (hG2 : ∀ i, G2 i -> s.next <= i /\ i < s2.next) : Gl lo s2 sl xs (fun i => G i \/ G2 i) := by
 refine ⟨fun i hi => ?_, h.x, ?_⟩
 ·rcases hi with hi | hi
  ·have := h.g i hi; have := k.1; omega
  ·have := hG2 i hi; omega
 ·rcases h.sl with h | h | ⟨id, h1, h2, h3, h4, h5⟩
  ·exact .inl h
  ·exact .inr (.inl h)
  ·exact .inr (.inr ⟨id, h1, h2, by have := k.1; omega, (k.2 id h3 (by omega)).trans h4, fun hg => hg.elim h5 fun hg => by have := hG2 id hg; omega⟩)
theorem Gl.app {bytes lo : Nat} {s : St} {sl : AV} {xs : List (List AV)} {y : List AV} {G : Nat -> Prop} (h : Gl lo s sl xs G) (hlo : lo <= s.next) (hb : (xs.length + 1) * bytes <= 140737488355328) (hb' : xs.length + 1 <= 140737488355328)
  (hy : y.length = 3 /\ y.all AV.one = true) :
  ∃ sl' s3, appendA bytes 3 s sl 1 y = some (sl', s3) /\ s3.next = s.next + 1 /\ (∀ i, i < s.next -> (i < lo \/ G i) -> s3.get i = s.get i) /\ Gl lo s3 sl' (xs ++ [y]) G := by
 have hfl := flat_len h.x
 have hx' : ∀ z ∈ xs ++ [y], z.length = 3 /\ z.all AV.one = true := fun z hz => by
  rcases List.mem_append.1 hz with hz | hz
  ·exact h.x z hz
  ·rw [List.mem_singleton] at hz; subst hz; exact hy
 have hff : (xs ++ [y]).flatten = xs.flatten ++ y := by simp
 have b1 : Nat.beq 1 0 = false := rfl
 have a1 : ((xs.length + 1) * bytes).ble 140737488355328 = true := Nat.ble_eq_true_of_le hb
 have a2 : (xs.length + 1).ble 140737488355328 = true := Nat.ble_eq_true_of_le hb'
 have hg' : ∀ s3 : St, s3.next = s.next + 1 -> ∀ i, G i -> lo <= i /\ i < s3.next := fun s3 hn i hi => by have := h.g i hi; omega
 have hnG : ¬ G s.next := fun hg => by have := h.g _ hg; omega
 rcases h.sl with ⟨rfl, rfl⟩ | rfl | ⟨id, rfl, h2, h3, h4, h5⟩
 ·have a1' : (1 * bytes).ble 140737488355328 = true := Nat.ble_eq_true_of_le (by simpa using hb)
  have a2' : Nat.ble 1 140737488355328 = true := rfl
  refine ⟨.own s.next 0 1 3 none 1, s.new (.row y), by unfold appendA; simp only [b1, cond_false, a1', a2']; rfl, rfl, fun i hi _ => by rw [St.get_new, if_neg (by omega)], hg' _ rfl, hx', .inr (.inr ⟨s.next, rfl, hlo, by simp, by rw [St.get_new, if_pos rfl]; simp, hnG⟩)⟩
 ·have a3 : (xs.length * 3).ble xs.flatten.length = true := Nat.ble_eq_true_of_le (by omega)
  have tk : xs.flatten.take (xs.length * 3) = xs.flatten := List.take_of_length_le (by omega)
  refine ⟨.own s.next 0 (xs.length + 1) 3 none (xs.length + 1), s.new (.row (xs.flatten ++ y)), by unfold appendA; simp only [b1, cond_false, a1, a2, a3, tk]; rfl, rfl, fun i hi _ => by rw [St.get_new, if_neg (by omega)], hg' _ rfl, hx', .inr (.inr ⟨s.next, by simp, hlo, by simp, by rw [St.get_new, if_pos rfl, hff], hnG⟩)⟩
 ·have a3 : (0 + xs.length * 3).ble xs.flatten.length = true := Nat.ble_eq_true_of_le (by omega)
  have a4 : fitsA (xs.length + 1) xs.length none = none := by
   have : (xs.length + 1).ble xs.length = false := by
    cases hc : (xs.length + 1).ble xs.length with
    | false => rfl
    | true => have := Nat.le_of_ble_eq_true hc; omega
   simp only [fitsA, this]; rfl
  have a5 : (xs.length * 3).beq xs.flatten.length = true := by rw [hfl]; exact Nat.beq_refl _
  have hn : (s.del id).next = s.next := rfl
  refine ⟨.own s.next 0 (xs.length + 1) 3 none (xs.length + 1), (s.del id).new (.row (xs.flatten ++ y)), by unfold appendA; simp only [b1, cond_false, h4, a1, a2, a3, a4, a5, hy.2]; rfl, rfl, fun i hi hk => ?_, hg' _ rfl, hx', .inr (.inr ⟨s.next, by simp, hlo, by simp, by rw [St.get_new, if_pos hn.symm, hff], hnG⟩)⟩
  have hne : i ≠ id := fun e => by subst e; exact hk.elim (fun h => by omega) h5
  rw [St.get_new, if_neg (by rw [hn]; omega), St.get_del, if_neg hne]
theorem Gl.slr {lo : Nat} {s : St} {sl : AV} {xs : List (List AV)} {G : Nat -> Prop} (h : Gl lo s sl xs G) (hb : xs.length <= 9223372036854775807) : SlR (fun i => lo <= i /\ i < s.next) s sl xs := by
 refine ⟨h.x, hb, ?_⟩
 rcases h.sl with h | h | ⟨id, h1, h2, h3, h4, _⟩
 ·exact .inl h
 ·exact .inr (.inl ⟨true, h⟩)
 ·exact .inr (.inr ⟨id, none, xs.length, h1, ⟨h2, h3⟩, h4⟩)
noncomputable def g90_0 : List MOper := [⟨(some 8), .mv (.c .nilsl), none⟩]
noncomputable def g90_1 : List MOper := [⟨(some 10), .mv (.t 0), none⟩, ⟨(some 11), .mv (.t 1), none⟩, ⟨(some 12), .call (.c (.func (.func 122) [] [])) [(.t 10), (.t 11)], none⟩, ⟨(some 13), .un .not (.t 12), none⟩]
noncomputable def g90_2 : List MOper := [⟨(some 8), .mv (.c .nilsl), none⟩]
noncomputable def g90_3 (zs : List AV) (by_ : Nat) : List MOper := [⟨(some 14), .mv (.t 3), none⟩, ⟨(some 15), .call (.t 14) [], none⟩, ⟨(some 16), .bslice 1 zs [(0, 3, (.t 15))], none⟩, ⟨(some 9), .mv (.t 16), none⟩]
noncomputable def g90_4 : List MOper := [⟨(some 17), .mv (.t 0), none⟩, ⟨(some 18), .call (.c (.func (.func 122) [] [])) [(.t 17), (.c (.int .u8 (.ofNat 44)))], none⟩]
noncomputable def g90_5 (zs : List AV) (by_ : Nat) : List MOper := [⟨(some 19), .mv (.t 9), none⟩, ⟨(some 20), .mv (.t 3), none⟩, ⟨(some 21), .call (.t 20) [], none⟩, ⟨(some 22), .bslice 1 zs [(0, 3, (.t 21))], none⟩, ⟨(some 23), .append by_ 3 none (.t 19) (.t 22), none⟩, ⟨(some 9), .mv (.t 23), none⟩]
noncomputable def g90_6 : List MOper := [⟨(some 24), .mv (.t 0), none⟩, ⟨(some 25), .mv (.t 2), none⟩, ⟨(some 26), .call (.c (.func (.func 122) [] [])) [(.t 24), (.t 25)], none⟩, ⟨(some 27), .un .not (.t 26), none⟩]
noncomputable def g90_7 : List MOper := [⟨(some 28), .build [] [], none⟩, ⟨(some 29), .mkif 122 (.t 28), none⟩, ⟨none, .panic (.t 29), none⟩]
noncomputable def g90_8 : List MOper := [⟨(some 30), .mv (.t 9), none⟩, ⟨(some 8), .mv (.t 30), none⟩]
noncomputable def bl90_0 (zs : List AV) (by_ : Nat) : MCode := (.seq (.seq (.region g90_4) (.cond (.t 18) .skip (.exit 0))) (.block 1 (.region (g90_5 zs by_))))
noncomputable def kf90 (zs : List AV) (by_ : Nat) : MFunc := ⟨31, (.seq (.region g90_0) (.seq (.seq (.region g90_1) (.cond (.t 13) (.seq (.region g90_2) .ret) .skip)) (.seq (.region (g90_3 zs by_)) (.seq (.block 0 (.loop (bl90_0 zs by_))) (.seq (.seq (.region g90_6) (.cond (.t 27) (.region g90_7) .skip)) (.seq (.region g90_8) .ret)))))), [.t 8]⟩
theorem t90 : tbl 90 = some (kf90 [(.int .i64 (.ofNat 0)), (.int .i64 (.ofNat 0)), .nilsl] 40) := by kernel_rfl
theorem t92 : tbl 92 = some (kf90 [(.int .i64 (.ofNat 0)), .nilsl, .nilsl] 56) := by kernel_rfl
def OneR {α : Type} (Rep : (Nat -> Prop) -> St -> α -> List AV -> Prop) (q : Nat) (s : List Nat) (m : Nat) (Y : Yenv) (g : Nat) (st : St) : PR α -> Prop
 | .ok t p => ∃ cs st2, R m Y g [.ptr q 0] st = .ret (.agg cs) st2 /\ Rdr q st2 s p /\ Keep1 q st st2 /\ Rep (fun i => st.next <= i /\ i < st2.next) st2 t cs
 | .err p => ∃ st2, R m Y g [.ptr q 0] st = .pan wrong st2 /\ Rdr q st2 s p /\ Keep1 q st st2
def Kq (q lo : Nat) (a b : St) : Prop := a.next <= b.next /\ ∀ i, i < lo -> i ≠ q -> b.get i = a.get i
theorem Kq.of {q lo : Nat} {a b : St} (h : Keep1 q a b) (hlo : lo <= a.next) : Kq q lo a b := ⟨h.1, fun i hi hq => h.2 i (by omega) hq⟩
theorem Kq.trans {q lo : Nat} {a b c : St} (h : Kq q lo a b) (k : Kq q lo b c) : Kq q lo a c := ⟨Nat.le_trans h.1 k.1, fun i hi hq => (k.2 i hi hq).trans (h.2 i hi hq)⟩
def LoopR {α : Type} (Rep : (Nat -> Prop) -> St -> α -> List AV -> Prop) (q lo : Nat) (s : List Nat) (run : CR) (c : Nat) (l0 : List α) (st : St) (ds : List DA) : PR (List α) -> Prop
 | .ok l p => ∃ FR st2 sl xs G, run = .exit 0 FR st2 /\ FR.ds = ds /\ FR.get 0 = some (.ptr q 0) /\ FR.get 2 = some (.int .u8 (.ofNat c)) /\ FR.get 9 = some sl /\ Rdr q st2 s (p - 1) /\ sgn s (p - 1) c = true /\ 0 < p /\ Kq q lo st st2 /\ Gl lo st2 sl xs G /\ xs.length <= p /\ RL (Rep G st2) (l0 ++ l) xs
 | .err p => (∃ FR st2, run = .pan FR wrong st2 /\ FR.ds = ds /\ Rdr q st2 s p /\ Kq q lo st st2) \/ (∃ FR st2, run = .exit 0 FR st2 /\ FR.ds = ds /\ FR.get 0 = some (.ptr q 0) /\ FR.get 2 = some (.int .u8 (.ofNat c)) /\ Rdr q st2 s p /\ sgn s p c = false /\ Kq q lo st st2)
section
variable {α : Type} {Rep : (Nat -> Prop) -> St -> α -> List AV -> Prop} {q m g by_ c FM : Nat} {Y : Yenv} {s : List Nat} {zs : List AV} {one : Nat -> Nat -> PR α} {rs : Nat -> Nat -> PR (List α)}
theorem sev_loop (hrs : ∀ f p, rs (f + 1) p = pN (one f) (rs f) s p c) (hpos : ∀ f p t p2, one f p = .ok t p2 -> p < p2 /\ p2 <= s.length)
  (hmono : ∀ {F1 F2 : Nat -> Prop} {s1 s2 : St} {t : α} {cs : List AV}, Same F1 s1 s2 -> (∀ i, F1 i -> F2 i) -> Rep F1 s1 t cs -> Rep F2 s2 t cs) (hc3 : ∀ {F : Nat -> Prop} {s1 : St} {t : α} {cs : List AV}, Rep F s1 t cs -> cs.length = 3 /\ cs.all AV.one = true)
  (hfill : ∀ x : List AV, x.length = 3 -> fillA zs [(0, 3, .agg x)] = some x) (hby : by_ <= 1000) (hm : 1 <= m) (hl : s.length <= 100000)
  (hg : ∀ f p st, Rdr q st s p -> p <= s.length -> s.length + 1 - p <= f -> f < FM -> q < st.next -> OneR Rep q s m Y g st (one f p)) {lo : Nat} (hq : q < lo) :
  ∀ (f p : Nat) (fr : Fr) (st : St) (fuel : Nat) (l0 : List α) (sl : AV) (xs : List (List AV)) (G : Nat -> Prop), s.length + 1 - p <= f -> f <= FM -> f < fuel -> Rdr q st s p -> p <= s.length -> fr.get 0 = some (.ptr q 0) -> fr.get 2 = some (.int .u8 (.ofNat c)) -> fr.get 3 = some (.func (.func g) [.ptr q 0] []) -> fr.get 9 = some sl ->
   Gl lo st sl xs G -> RL (Rep G st) l0 xs -> lo <= st.next -> l0.length <= p ->
   LoopR Rep q lo s (aloop (acode (gT m) Y m (bl90_0 zs by_) none) fuel fr st) c l0 st fr.ds (rs f p)
 | 0, p, _, _, _, _, _, _, _, h1, _, _, _, h3, _, _, _, _, _, _, _, _ => by omega
 | f + 1, p, fr, st, 0, _, _, _, _, _, _, h2, _, _, _, _, _, _, _, _, _, _ => by omega
 | f + 1, p, fr, st, fuel + 1, l0, sl, xs, G, hf, hfm, hfu, h, hp, g0, g2, g3, g9, hgl, hrl, hlo, hl0 => by
  have b11 : Nat.beq 1 1 = true := rfl
  rw [hrs]
  obtain ⟨st1, hi, k1, h1, n1⟩ := isc_run (c := 44) h (by omega) (m - 1) Y
  rw [Nat.sub_add_cancel hm] at hi
  obtain ⟨f1, hA, kA, oA⟩ : ∃ fr', arun ((gT m).cg Y) g90_4 fr st = .ok fr' st1 /\ Kp [0, 2, 3, 9] fr fr' /\ fr'.get 18 = some (.bool (sgn s p 44)) := ⟨_, by simp only [amE, reduceEqDiff, ↓reduceIte, reduceCtorEq, reduceAdd, g90_4, g0, cg_fn, hi] <;> rfl, Kp.refl.s.s, gh⟩
  unfold pN
  cases hs : sgn s p 44 with
  | false =>
   rw [hs] at oA h1
   rw [if_neg (by decide)] at h1 ⊢
   have hrun : aloop (acode (gT m) Y m (bl90_0 zs by_) none) (fuel + 1) fr st = .exit 0 f1 st1 := by
    rw [aloop]
    simp only [amE, reduceEqDiff, ↓reduceIte, reduceCtorEq, reduceAdd, bl90_0, hA, oA]
   have gl1 := hgl.to (G2 := fun _ => False) k1 hq hlo (fun _ h => h.elim)
   cases hc : sgn s p c with
   | true =>
    rw [if_pos rfl]
    refine ⟨f1, st1, sl, xs, _, hrun, kA.1, kA.at (by decide) g0, kA.at (by decide) g2, kA.at (by decide) g9, h1, hc, by omega, Kq.of k1 hlo, gl1, by have := hrl.len; omega, ?_⟩
    rw [List.append_nil]
    exact RL.mono (fun t x hx => hmono (fun i hi => k1.2 i (hgl.g i hi).2 (by have := (hgl.g i hi).1; omega)) (fun i hi => .inl hi) hx) hrl
   | false =>
    rw [if_neg (by decide)]
    exact .inr ⟨f1, st1, hrun, kA.1, kA.at (by decide) g0, kA.at (by decide) g2, h1, hc, Kq.of k1 hlo⟩
  | true =>
   rw [hs] at oA h1
   rw [if_pos rfl] at h1 ⊢
   have hpl := sgn_lt hs
   have q0 := kA.at (k := 0) (by decide) g0
   have q2 := kA.at (k := 2) (by decide) g2
   have q3 := kA.at (k := 3) (by decide) g3
   have q9 := kA.at (k := 9) (by decide) g9
   have hone := hg f (p + 1) st1 h1 (by omega) (by omega) (by omega) (by have := k1.1; omega)
   cases ho : one f (p + 1) with
   | err e =>
    rw [ho] at hone
    obtain ⟨st2, hc2, h2, k2⟩ := hone
    simp only [LoopR]
    refine .inl ⟨?fe, st2, ?xe, ?de, h2, (Kq.of k1 hlo).trans (Kq.of k2 (by have := k1.1; omega))⟩
    case xe =>
     rw [aloop]
     simp only [amE, reduceEqDiff, ↓reduceIte, reduceCtorEq, reduceAdd, bl90_0, b11, hA, oA, g90_5, q3, q9, cg_fn, hc2] <;> rfl
    case de => exact kA.1
   | ok t p2 =>
    rw [ho] at hone
    obtain ⟨cs, st2, hc2, h2, k2, hrep⟩ := hone
    obtain ⟨hp1, hp2⟩ := hpos _ _ _ _ ho
    have hcs := hc3 hrep
    have k12 := k1.trans k2
    have gl2 := hgl.to (G2 := fun i => st1.next <= i /\ i < st2.next) k12 hq hlo (fun i hi => by have := k1.1; omega)
    have hlo2 : lo <= st2.next := Nat.le_trans hlo k12.1
    have hxl := hrl.len
    obtain ⟨sl', s3, ha, n3, kp3, gl3⟩ := gl2.app (bytes := by_) hlo2 (by
     have : (xs.length + 1) * by_ <= 100002 * 1000 := Nat.mul_le_mul (by omega) hby
     omega) (by omega) hcs
    have hfi := hfill cs hcs.1
    have cn : contentA 3 st2 (.lst 1 cs true) = some (1, cs) := by
     have c1 : (1 * 3).ble cs.length = true := by rw [hcs.1]; rfl
     simp only [contentA, c1, cond_true]
     rw [List.take_of_length_le (by rw [hcs.1]; decide)]
    obtain ⟨f2, hB, kB, oB⟩ : ∃ fr', arun ((gT m).cg Y) (g90_5 zs by_) f1 st1 = .ok fr' s3 /\ Kp [0, 2, 3] f1 fr' /\ fr'.get 9 = some sl' := ⟨_, by simp only [amE, reduceEqDiff, ↓reduceIte, reduceCtorEq, reduceAdd, g90_5, q3, q9, cg_fn, hc2, hfi, cn, ha, tag0] <;> rfl, Kp.refl.s.s.s.s.s.s, gh⟩
    have hst : acode (gT m) Y m (bl90_0 zs by_) none fr st = .norm f2 s3 := by simp only [amE, reduceEqDiff, ↓reduceIte, reduceCtorEq, reduceAdd, bl90_0, b11, hA, oA, hB]
    have hkq : Kq q lo st s3 := ((Kq.of k1 hlo).trans (Kq.of k2 (by have := k1.1; omega))).trans ⟨by omega, fun i hi _ => kp3 i (by omega) (.inl hi)⟩
    have hr3 : Rdr q s3 s p2 := (kp3 q (by have := k12.1; omega) (.inl hq)).trans h2
    have same3 : Same (fun i => G i \/ st1.next <= i /\ i < st2.next) st2 s3 := fun i hi => kp3 i (gl2.g i hi).2 (.inr hi)
    have rl3 : RL (Rep (fun i => G i \/ st1.next <= i /\ i < st2.next) s3) (l0 ++ [t]) (xs ++ [cs]) :=
     (RL.mono (fun t' x hx => hmono (Same.trans (fun i hi => k12.2 i (hgl.g i hi).2 (by have := (hgl.g i hi).1; omega)) (fun i hi => same3 i (.inl hi))) (fun i hi => .inl hi) hx) hrl).snoc (hmono (fun i hi => same3 i (.inr hi)) (fun i hi => .inr hi) hrep)
    have ih := sev_loop hrs hpos hmono hc3 hfill hby hm hl hg hq f p2 f2 s3 fuel (l0 ++ [t]) sl' (xs ++ [cs]) _ (by omega) (by omega) (by omega) hr3 hp2 (kB.at (by decide) q0) (kB.at (by decide) q2) (kB.at (by decide) q3) oB gl3 rl3 (by omega) (by simp; omega)
    have hds : f2.ds = fr.ds := kB.1.trans kA.1
    rw [aloop, hst]
    simp only []
    cases hr : rs f p2 with
    | err e =>
     rw [hr] at ih
     simp only [LoopR] at ih ⊢
     rcases ih with ⟨FR, s9, e1, e2, e3, e4⟩ | ⟨FR, s9, e1, e2, e3, e4, e5, e6, e7⟩
     ·exact .inl ⟨FR, s9, e1, e2.trans hds, e3, hkq.trans e4⟩
     ·exact .inr ⟨FR, s9, e1, e2.trans hds, e3, e4, e5, e6, hkq.trans e7⟩
    | ok l p3 =>
     rw [hr] at ih
     simp only [LoopR] at ih ⊢
     obtain ⟨FR, s9, sl9, xs9, G9, e1, e2, e3, e4, e5, e6, e7, e8, e9, e10, e12, e11⟩ := ih
     exact ⟨FR, s9, sl9, xs9, G9, e1, e2.trans hds, e3, e4, e5, e6, e7, e8, hkq.trans e9, e10, e12, by rw [List.append_assoc] at e11; exact e11⟩
def SevR {α : Type} (Rep : (Nat -> Prop) -> St -> α -> List AV -> Prop) (q : Nat) (s : List Nat) (run : FR) (st : St) : PR (List α) -> Prop
 | .ok l p => ∃ sl xs st2, run = .ret sl st2 /\ Rdr q st2 s p /\ Keep1 q st st2 /\ SlR (fun i => st.next <= i /\ i < st2.next) st2 sl xs /\ RL (Rep (fun i => st.next <= i /\ i < st2.next) st2) l xs
 | .err p => ∃ st2, run = .pan wrong st2 /\ Rdr q st2 s p /\ Keep1 q st st2
theorem sev_run {f' o : Nat} (hf : tbl f' = some (kf90 zs by_)) (hrs : ∀ f p, rs (f + 1) p = pN (one f) (rs f) s p c) (hpos : ∀ f p t p2, one f p = .ok t p2 -> p < p2 /\ p2 <= s.length)
  (hmono : ∀ {F1 F2 : Nat -> Prop} {s1 s2 : St} {t : α} {cs : List AV}, Same F1 s1 s2 -> (∀ i, F1 i -> F2 i) -> Rep F1 s1 t cs -> Rep F2 s2 t cs) (hc3 : ∀ {F : Nat -> Prop} {s1 : St} {t : α} {cs : List AV}, Rep F s1 t cs -> cs.length = 3 /\ cs.all AV.one = true)
  (hfill : ∀ x : List AV, x.length = 3 -> fillA zs [(0, 3, .agg x)] = some x) (hby : by_ <= 1000) (hm : 1 <= m) (hl : s.length <= 100000)
  (hg : ∀ f p st, Rdr q st s p -> p <= s.length -> s.length + 1 - p <= f -> f < FM -> q < st.next -> OneR Rep q s m Y g st (one f p))
  {f p : Nat} {st : St} (h : Rdr q st s p) (hp : p <= s.length) (hq : q < st.next) (hfp : s.length - p <= f) (hfm : f < FM) (hfu : f < m) :
  SevR Rep q s (R (m + 1) Y f' [.ptr q 0, .int .u8 (.ofNat o), .int .u8 (.ofNat c), .func (.func g) [.ptr q 0] []] st) st (pB (one f) (rs f) s p o) := by
 have b00 : Nat.beq 0 0 = true := rfl
 obtain ⟨st1, hi, k1, h1, n1⟩ := isc_run (c := o) h (by omega) (m - 1) Y
 rw [Nat.sub_add_cancel hm] at hi
 unfold pB
 cases hs : sgn s p o with
 | false =>
  rw [hs] at hi h1
  rw [if_neg (by decide)] at h1 ⊢
  refine ⟨.nilsl, [], st1, fun_of (mf := kf90 zs by_) (fr := ?f0) hf rfl (.inl ?x0) ?d0 ?r0, h1, k1, SlR.nil _ _, rfl⟩
  case x0 => simp only [amE, reduceEqDiff, ↓reduceIte, reduceCtorEq, reduceAdd, kf90, g90_0, g90_1, g90_2, cg_fn, hi, unN, Bool.not_false] <;> rfl
  case d0 => rfl
  case r0 => rfl
 | true =>
  rw [hs] at hi h1
  rw [if_pos rfl] at h1 ⊢
  have hpl := sgn_lt hs
  have hone := hg f (p + 1) st1 h1 (by omega) (by omega) hfm (by omega)
  cases ho : one f (p + 1) with
  | err e =>
   rw [ho] at hone
   obtain ⟨st2, hc2, h2, k2⟩ := hone
   refine ⟨st2, fun_pan (mf := kf90 zs by_) (fr := ?f1) hf rfl ?x1 ?d1, h2, k1.trans k2⟩
   case x1 => simp only [amE, reduceEqDiff, ↓reduceIte, reduceCtorEq, reduceAdd, kf90, g90_0, g90_1, g90_3, cg_fn, hi, unN, Bool.not_true, hc2] <;> rfl
   case d1 => rfl
  | ok t p2 =>
   rw [ho] at hone
   obtain ⟨cs, st2, hc2, h2, k2, hrep⟩ := hone
   obtain ⟨hp1, hp2⟩ := hpos _ _ _ _ ho
   have hcs := hc3 hrep
   have hfi := hfill cs hcs.1
   have k12 := k1.trans k2
   obtain ⟨fr1, hpre, q0, q2, q3, q9, qd⟩ : ∃ fr1, (∀ L T, acode (gT m) Y m (.seq (.region g90_0) (.seq (.seq (.region g90_1) (.cond (.t 13) (.seq (.region g90_2) .ret) .skip)) (.seq (.region (g90_3 zs by_)) (.seq L T)))) none (frOf 0 [.ptr q 0, .int .u8 (.ofNat o), .int .u8 (.ofNat c), .func (.func g) [.ptr q 0] []] Fr.nil) st = match acode (gT m) Y m L none fr1 st2 with | .norm fr s => acode (gT m) Y m T none fr s | r => r) /\ fr1.get 0 = some (.ptr q 0) /\ fr1.get 2 = some (.int .u8 (.ofNat c)) /\ fr1.get 3 = some (.func (.func g) [.ptr q 0] []) /\ fr1.get 9 = some (.lst 1 cs true) /\ fr1.ds = [] := by
    refine ⟨?f, fun L T => ?x, ?a, ?b, ?c, ?d, ?e⟩
    case x =>
     simp only [amE, reduceEqDiff, ↓reduceIte, reduceCtorEq, reduceAdd, g90_0, g90_1, g90_3, cg_fn, hi, unN, Bool.not_true, hc2, hfi]
     rfl
    case a => simp only [Fr.get_set, reduceEqDiff, ↓reduceIte]
    case b => simp only [Fr.get_set, reduceEqDiff, ↓reduceIte]
    case c => simp only [Fr.get_set, reduceEqDiff, ↓reduceIte]
    case d => simp only [Fr.get_set, reduceEqDiff, ↓reduceIte]
    case e => rfl
   have gl0 : Gl st.next st2 (.lst 1 cs true) [cs] (fun i => st1.next <= i /\ i < st2.next) := ⟨fun i hi => by omega, fun x hx => by rw [List.mem_singleton] at hx; subst hx; exact hcs, .inr (.inl (by simp))⟩
   have key := sev_loop (Rep := Rep) (Y := Y) (FM := FM) (by_ := by_) hrs hpos hmono hc3 hfill hby hm hl hg hq f p2 fr1 st2 m [t] (.lst 1 cs true) [cs] _ (by omega) (by omega) hfu h2 hp2 q0 q2 q3 q9 gl0 ⟨cs, [], rfl, hrep, rfl⟩ (by have := k12.1; omega) (by simp; omega)
   have kk : ∀ {s9 : St}, Kq q st.next st2 s9 -> Keep1 q st s9 := fun h => ⟨by have := k12.1; have := h.1; omega, fun i hi hq => (h.2 i hi hq).trans (k12.2 i hi hq)⟩
   simp only []
   cases hr : rs f p2 with
   | err e =>
    rw [hr] at key
    simp only [LoopR] at key
    rcases key with ⟨FR, s9, e1, e2, e3, e4⟩ | ⟨FR, s9, e1, e2, e3, e4, e5, e6, e7⟩
    ·refine ⟨s9, fun_pan (mf := kf90 zs by_) (fr := FR) hf rfl ((hpre _ _).trans ?x2) (e2.trans qd), e3, kk e4⟩
     case x2 => simp only [amE, reduceEqDiff, ↓reduceIte, reduceCtorEq, reduceAdd, e1]
    ·obtain ⟨s10, hi2, k10, h10, n10⟩ := isc_run (c := c) e5 (by omega) (m - 1) Y
     rw [Nat.sub_add_cancel hm, e6] at hi2
     rw [e6, if_neg (by decide)] at h10
     refine ⟨s10, fun_pan (mf := kf90 zs by_) (fr := ?f3) hf rfl ((hpre _ _).trans ?x3) ?d3, h10, (kk e7).trans k10⟩
     case x3 => simp only [amE, reduceEqDiff, ↓reduceIte, reduceCtorEq, reduceAdd, e1, b00, g90_6, g90_7, e3, e4, cg_fn, hi2, unN, Bool.not_false, fillA, panicR] <;> rfl
     case d3 => exact e2.trans qd
   | ok l p3 =>
    rw [hr] at key
    simp only [LoopR] at key
    obtain ⟨FR, s9, sl9, xs9, G9, e1, e2, e3, e4, e5, e6, e7, e8, e9, e10, e12, e11⟩ := key
    obtain ⟨s10, hi2, k10, h10, n10⟩ := isc_run (c := c) e6 (by omega) (m - 1) Y
    rw [Nat.sub_add_cancel hm, e7] at hi2
    rw [e7, if_pos rfl, show p3 - 1 + 1 = p3 by omega] at h10
    have gl9 := e10.to (G2 := fun _ => False) k10 hq (by have := k12.1; have := e9.1; omega) (fun _ h => h.elim)
    have hp3 : p3 - 1 < s.length := sgn_lt e7
    have hxl := e11.len
    refine ⟨sl9, xs9, s10, fun_of (mf := kf90 zs by_) (fr := ?f4) hf rfl (.inl ((hpre _ _).trans ?x4)) ?d4 ?r4, h10, (kk e9).trans k10, gl9.slr (by omega), ?rl⟩
    case x4 => simp only [amE, reduceEqDiff, ↓reduceIte, reduceCtorEq, reduceAdd, e1, b00, g90_6, g90_8, e3, e4, e5, cg_fn, hi2, unN, Bool.not_true] <;> rfl
    case d4 => exact e2.trans qd
    case r4 => simp only [kf90, amE, reduceEqDiff, ↓reduceIte]
    case rl => exact RL.mono (fun t x hx => hmono (fun i hi => k10.2 i (e10.g i hi).2 (by have := (e10.g i hi).1; omega)) (fun i hi => by have := e10.g i hi; have := k10.1; omega) hx) e11
end
end Go.AM.D16
