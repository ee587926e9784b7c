import Derived.Test.YtphmjdnljmhipaaGreatDoorAmSym3
set_option linter.unusedSimpArgs false
set_option linter.unusedVariables false
set_option maxRecDepth 100000
namespace Go.AM.D16
open Go Go.AM
noncomputable section
open Nat (reduceEqDiff reduceAdd)
def lb (c i n i2 : Nat) (B : MCode) : MCode := .seq (.region [⟨(some c), .bin false .lss (.t i) (.t n), none⟩]) (.seq (.cond (.t c) .skip (.exit 0)) (.seq (.block 1 B) (.region [⟨(some i2), .bin false .add (.t i) (.c (.int .i64 (.ofNat 1))), none⟩, ⟨(some i), .mv (.t i2), none⟩])))
theorem rloop {Γ : Gam} {Y : Yenv} {m N c i n i2 : Nat} {ro : Option Nat} {B : MCode} {Inv Post : Fr -> St -> Prop} (h1 : i ≠ c) (h2 : n ≠ c) (h3 : n ≠ i2) (h4 : n ≠ i) (hN : N <= 9223372036854775807)
  (hI : ∀ fr st s v, (s = c \/ s = i \/ s = i2) -> Inv fr st -> Inv (fr.set s v) st)
  (hB : ∀ k fr st, k < N -> Inv fr st -> fr.get i = some (.int .i64 (.ofNat k)) -> fr.get n = some (.int .i64 (.ofNat N)) ->
   ∃ FR st', (acode Γ Y m B ro fr st = .norm FR st' /\ Inv FR st' /\ FR.get i = some (.int .i64 (.ofNat k)) /\ FR.get n = some (.int .i64 (.ofNat N))) \/ (acode Γ Y m B ro fr st = .ret FR st' /\ Post FR st')) :
  ∀ (j k : Nat) (fr : Fr) (st : St) (fuel : Nat), k + j = N -> j < fuel -> Inv fr st -> fr.get i = some (.int .i64 (.ofNat k)) -> fr.get n = some (.int .i64 (.ofNat N)) ->
   ∃ FR st', (aloop (acode Γ Y m (lb c i n i2 B) ro) fuel fr st = .exit 0 FR st' /\ Inv FR st') \/ (aloop (acode Γ Y m (lb c i n i2 B) ro) fuel fr st = .ret FR st' /\ Post FR st')
 | _, _, _, _, 0, _, hf, _, _, _ => by omega
 | 0, k, fr, st, fuel + 1, hk, _, hi, gi, gn => by
  have hl : binB false .lss (.int .i64 (.ofNat k)) (.int .i64 (.ofNat N)) = some (.bool false) := by rw [lssN]; simp; omega
  refine ⟨fr.set c (some (.bool false)), st, .inl ⟨?_, hI _ _ _ _ (.inl rfl) hi⟩⟩
  rw [aloop]
  simp only [amE, reduceEqDiff, ↓reduceIte, reduceCtorEq, reduceAdd, lb, gi, gn, hl]
 | j + 1, k, fr, st, fuel + 1, hk, hf, hi, gi, gn => by
  have hl : binB false .lss (.int .i64 (.ofNat k)) (.int .i64 (.ofNat N)) = some (.bool true) := by rw [lssN]; simp; omega
  have had := add1 (i := k) (by omega)
  have b11 : Nat.beq 1 1 = true := rfl
  rcases hB k (fr.set c (some (.bool true))) st (by omega) (hI _ _ _ _ (.inl rfl) hi) (by rw [Fr.get_set, if_neg h1]; exact gi) (by rw [Fr.get_set, if_neg h2]; exact gn) with ⟨FR, st', ⟨hb, hi', gi', gn'⟩ | ⟨hb, hp⟩⟩
  ·have hst : acode Γ Y m (lb c i n i2 B) ro fr st = .norm ((FR.set i2 (some (.int .i64 (.ofNat (k + 1))))).set i (some (.int .i64 (.ofNat (k + 1))))) st' := by
    simp only [amE, reduceEqDiff, ↓reduceIte, reduceCtorEq, reduceAdd, lb, gi, gn, hl, hb, gi', had]
   obtain ⟨F2, s2, h⟩ := rloop h1 h2 h3 h4 hN hI hB j (k + 1) ((FR.set i2 (some (.int .i64 (.ofNat (k + 1))))).set i (some (.int .i64 (.ofNat (k + 1))))) st' fuel (by omega) (by omega)
    (hI _ _ _ _ (.inr (.inl rfl)) (hI _ _ _ _ (.inr (.inr rfl)) hi')) (by rw [Fr.get_set, if_pos rfl]) (by rw [Fr.get_set, if_neg h4, Fr.get_set, if_neg h3]; exact gn')
   refine ⟨F2, s2, ?_⟩
   rw [aloop, hst]
   exact h
  ·refine ⟨FR, st', .inr ⟨?_, hp⟩⟩
   rw [aloop]
   simp only [amE, reduceEqDiff, ↓reduceIte, reduceCtorEq, reduceAdd, lb, gi, gn, hl, hb]
def Mt (id : Nat) (st : St) : Prop := id < st.next /\ ∃ v, st.get id = some (.row [.int .i64 v])
theorem load_int {st : St} {id : Nat} {v : Int} (h : st.get id = some (.row [.int .i64 v])) : loadA false 1 st (.ptr id 0) = some (.int .i64 v) := by
 simp only [loadA, cellsAt, h, Option.bind_some, List.drop_zero]; rfl
theorem store_int {st : St} {id : Nat} {v u : Int} (h : st.get id = some (.row [.int .i64 v])) : storeA 1 st (.ptr id 0) (.int .i64 u) = some (st.put id (.row [.int .i64 u])) := by
 simp only [storeA, h]; rfl
theorem load_fld {st : St} {id : Nat} {x y z : AV} (h : st.get id = some (.row [x, y, z])) : loadA false 1 st (.ptr id 2) = some z := by
 simp only [loadA, cellsAt, h, Option.bind_some]; rfl
theorem Mt.new {id : Nat} {st : St} (h : Mt id st) (o o' : AO) : Mt id ((st.new o).put st.next o') := by
 refine ⟨by have := h.1; simp; omega, ?_⟩
 obtain ⟨v, hv⟩ := h.2
 refine ⟨v, ?_⟩
 rw [St.get_put, if_neg (by have := h.1; omega), St.get_new, if_neg (by have := h.1; omega)]
 exact hv
theorem Mt.put {id : Nat} {st : St} (h : Mt id st) (v : Int) : Mt id (st.put id (.row [.int .i64 v])) := ⟨h.1, v, by rw [St.get_put, if_pos rfl]⟩
def Kp (l : List Nat) (fr fr' : Fr) : Prop := fr'.ds = fr.ds /\ ∀ k ∈ l, fr'.get k = fr.get k
theorem Kp.refl {l : List Nat} {fr : Fr} : Kp l fr fr := ⟨rfl, fun _ _ => rfl⟩
theorem Kp.set {l : List Nat} {fr fr' : Fr} {s : Nat} {v : Option AV} (hs : s ∉ l) (h : Kp l fr fr') : Kp l fr (fr'.set s v) :=
 ⟨h.1, fun k hk => by rw [Fr.get_set, if_neg (fun e : k = s => hs (e ▸ hk))]; exact h.2 k hk⟩
theorem Kp.trans {l : List Nat} {a b c : Fr} (h : Kp l a b) (k : Kp l b c) : Kp l a c := ⟨k.1.trans h.1, fun x hx => (k.2 x hx).trans (h.2 x hx)⟩
theorem Kp.at {l : List Nat} {a b : Fr} (h : Kp l a b) {k : Nat} {v : Option AV} (hk : k ∈ l) (hv : a.get k = v) : b.get k = v := (h.2 k hk).trans hv
theorem arun_app {Γ : Cg} {b : List MOper} {fr1 : Fr} {st1 : St} : ∀ {a : List MOper} {fr : Fr} {st : St}, arun Γ a fr st = .ok fr1 st1 -> arun Γ (a ++ b) fr st = arun Γ b fr1 st1
 | [], fr, st, h => by simp only [arun, RR.ok.injEq] at h; obtain ⟨rfl, rfl⟩ := h; rfl
 | m :: a, fr, st, h => by
  rw [List.cons_append]
  unfold arun at h
  conv => lhs; unfold arun
  revert h
  split
  ·rename_i hw
   cases hd : m.op.isDefer with
   | true =>
    simp only [cond_true]
    split
    ·exact fun h => arun_app h
    ·exact fun h => nomatch h
   | false =>
    simp only [cond_false]
    split
    ·exact fun h => arun_app h
    ·exact fun h => nomatch h
    ·exact fun h => nomatch h
  ·exact fun h => arun_app h
  ·exact fun h => nomatch h
def n66O : List MOper := [⟨(some 13), .iaddr 3 (.t 9) (.t 11), none⟩, ⟨(some 14), .load true 3 (.t 13), none⟩, ⟨(some 8), .alloc [(.int .i64 (.ofNat 0)), (.int .i64 (.ofNat 0)), .nilsl], none⟩, ⟨none, .store 3 (.t 8) (.t 14), none⟩]
theorem n66 {Γ : Cg} {fr : Fr} {st : St} {id k : Nat} {nl ex : Bool} {xs : List (List AV)} {x : List AV} (hm : Mt id st) (g9 : fr.get 9 = some (slAV nl ex xs)) (g11 : fr.get 11 = some (.int .i64 (.ofNat k))) (h3 : ∀ y ∈ xs, y.length = 3 /\ y.all AV.one = true) (hnl : nl = true -> xs = []) (hx : xs[k]? = some x) :
  ∃ fr' st1, arun Γ n66O fr st = .ok fr' st1 /\ Kp [0, 2, 9, 10, 11] fr fr' /\ fr'.get 8 = some (.ptr st.next 0) /\ Mt id st1 /\ st1.get st.next = some (.row x) /\ id ≠ st.next := by
 have ia := iaddr_sl (ex := ex) (fun y hy => (h3 y hy).1) hnl hx
 have ld := load_sl (fun y hy => (h3 y hy).1) hx st
 have hx3 := h3 x (List.mem_of_getElem? hx)
 have sto := store_new (st := st) (zs := [(.int .i64 (.ofNat 0)), (.int .i64 (.ofNat 0)), .nilsl]) rfl hx3.1 hx3.2
 refine ⟨?n66f, ?n66s, ?n66r, ?n66k, ?n66g, ?n66m, ?n66t, ?n66u⟩
 case n66r =>
  simp only [amE, reduceEqDiff, ↓reduceIte, reduceCtorEq, reduceAdd, n66O, g9, g11, ia, ld, sto]
  rfl
 case n66k => repeat (first | exact Kp.refl | refine Kp.set (by decide) ?_)
 case n66g => simp only [Fr.get_set, ↓reduceIte]
 case n66m => exact hm.new _ _
 case n66t => rw [St.get_put, if_pos rfl]
 case n66u => have := hm.1; omega
def d66O : List MOper := [⟨(some 15), .mv (.t 0), none⟩, ⟨(some 16), .nilchk (.t 15), none⟩, ⟨(some 17), .faddr 0 (.t 16), none⟩, ⟨(some 18), .load false 1 (.t 17), none⟩, ⟨(some 19), .bin false .sub (.t 18) (.c (.int .i64 (.ofNat 1))), none⟩, ⟨(some 20), .nilchk (.t 15), none⟩, ⟨(some 21), .faddr 0 (.t 20), none⟩, ⟨none, .store 1 (.t 21) (.t 19), none⟩]
theorem d66 {Γ : Cg} {fr : Fr} {st : St} {id : Nat} (hm : Mt id st) (hp : fr.get 0 = some (.ptr id 0)) :
  ∃ fr' u, arun Γ d66O fr st = .ok fr' (st.put id (.row [.int .i64 u])) /\ Kp [0, 2, 8, 9, 10, 11] fr fr' := by
 obtain ⟨v, hv⟩ := hm.2
 have lm := load_int hv
 have n0 : nilchkA (.ptr id 0) = some (.ptr id 0) := rfl
 have fa : faddrA 0 (.ptr id 0) = some (.ptr id 0) := rfl
 obtain ⟨u, hu⟩ : ∃ u, binB false .sub (.int .i64 v) (.int .i64 (.ofNat 1)) = some (.int .i64 u) := ⟨_, rfl⟩
 have sm := store_int (u := u) hv
 refine ⟨?d66f, u, ?d66r, ?d66k⟩
 case d66r =>
  simp only [amE, reduceEqDiff, ↓reduceIte, reduceCtorEq, reduceAdd, d66O, hp, n0, fa, lm, hu, sm]
  rfl
 case d66k => repeat (first | exact Kp.refl | refine Kp.set (by decide) ?_)
def l66O : List MOper := [⟨(some 22), .mv (.t 0), none⟩, ⟨(some 23), .nilchk (.t 22), none⟩, ⟨(some 24), .faddr 0 (.t 23), none⟩, ⟨(some 25), .load false 1 (.t 24), none⟩, ⟨(some 26), .bin false .lss (.t 25) (.c (.int .i64 (.ofNat 0))), none⟩, ⟨(some 27), .mv (.t 26), none⟩, ⟨(some 28), .mv (.t 2), (some (27, false))⟩, ⟨(some 29), .bin false .gtr (.t 28) (.c (.int .i64 (.ofNat 250))), (some (27, false))⟩, ⟨(some 30), .pick (.t 27) (.c (.bool true)) (.t 29), none⟩, ⟨(some 31), .mv (.t 30), none⟩]
theorem l66 {Γ : Cg} {fr : Fr} {st : St} {id : Nat} {d : Int} (hm : Mt id st) (hp : fr.get 0 = some (.ptr id 0)) (hq : fr.get 2 = some (.int .i64 d)) :
  ∃ fr' b, arun Γ l66O fr st = .ok fr' st /\ Kp [0, 2, 8, 9, 10, 11] fr fr' /\ fr'.get 31 = some (.bool b) := by
 obtain ⟨v, hv⟩ := hm.2
 have lm := load_int hv
 have n0 : nilchkA (.ptr id 0) = some (.ptr id 0) := rfl
 have fa : faddrA 0 (.ptr id 0) = some (.ptr id 0) := rfl
 obtain ⟨x, hx⟩ : ∃ x, binB false .lss (.int .i64 v) (.int .i64 (.ofNat 0)) = some (.bool x) := ⟨_, rfl⟩
 obtain ⟨y, hy⟩ : ∃ y, binB false .gtr (.int .i64 d) (.int .i64 (.ofNat 250)) = some (.bool y) := ⟨_, rfl⟩
 cases x with
 | true =>
  refine ⟨?l66ftrue, true, ?l66rtrue, ?l66ktrue, ?l66gtrue⟩
  case l66rtrue =>
   simp only [amE, reduceEqDiff, ↓reduceIte, reduceCtorEq, reduceAdd, l66O, hp, hq, n0, fa, lm, hx, hy, Bool.not_true, Bool.not_false]
   rfl
  case l66ktrue => repeat (first | exact Kp.refl | refine Kp.set (by decide) ?_)
  case l66gtrue => simp only [Fr.get_set, ↓reduceIte]
 | false =>
  refine ⟨?l66ffalse, y, ?l66rfalse, ?l66kfalse, ?l66gfalse⟩
  case l66rfalse =>
   simp only [amE, reduceEqDiff, ↓reduceIte, reduceCtorEq, reduceAdd, l66O, hp, hq, n0, fa, lm, hx, hy, Bool.not_true, Bool.not_false]
   rfl
  case l66kfalse => repeat (first | exact Kp.refl | refine Kp.set (by decide) ?_)
  case l66gfalse => simp only [Fr.get_set, ↓reduceIte]
def r66O : List MOper := [⟨(some 32), .mv (.t 0), (some (31, false))⟩, ⟨(some 33), .faddr 2 (.t 8), (some (31, false))⟩, ⟨(some 34), .load false 1 (.t 33), (some (31, false))⟩, ⟨(some 35), .mv (.t 2), (some (31, false))⟩, ⟨(some 36), .bin false .add (.t 35) (.c (.int .i64 (.ofNat 1))), (some (31, false))⟩, ⟨(some 37), .call (.c (.func (.func 66) [] [])) [(.t 32), (.t 34), (.t 36)], (some (31, false))⟩, ⟨(some 38), .un .not (.t 37), (some (31, false))⟩, ⟨(some 39), .pick (.t 31) (.c (.bool true)) (.t 38), none⟩]
theorem r66 {Γ : Cg} {fr : Fr} {st : St} {id o : Nat} {d : Int} {x y z : AV} {c : Bool} (hm : Mt id st) (g31 : fr.get 31 = some (.bool c)) (g0 : fr.get 0 = some (.ptr id 0)) (g2 : fr.get 2 = some (.int .i64 d)) (g8 : fr.get 8 = some (.ptr o 0)) (ho : st.get o = some (.row [x, y, z]))
  (hr : ∀ d1, ∃ r st', Γ.fn 66 [.ptr id 0, z, .int .i64 d1] st = .ret (.bool r) st' /\ Mt id st') : ∃ fr' st' b, arun Γ r66O fr st = .ok fr' st' /\ Kp [0, 2, 9, 10, 11] fr fr' /\ fr'.get 39 = some (.bool b) /\ Mt id st' := by
 cases c with
 | true =>
  refine ⟨?a1, st, true, ?b1, ?c1, ?d1, hm⟩
  case b1 =>
   simp only [amE, reduceEqDiff, ↓reduceIte, reduceCtorEq, reduceAdd, r66O, g31, Bool.not_true, Bool.not_false]
   rfl
  case c1 => repeat (first | exact Kp.refl | refine Kp.set (by decide) ?_)
  case d1 => simp only [Fr.get_set, ↓reduceIte]
 | false =>
  have lf := load_fld ho
  have fa2 : faddrA 2 (.ptr o 0) = some (.ptr o 2) := rfl
  obtain ⟨d1, hd1⟩ : ∃ d1, binB false .add (.int .i64 d) (.int .i64 (.ofNat 1)) = some (.int .i64 d1) := ⟨_, rfl⟩
  obtain ⟨r, st', hr, hm'⟩ := hr d1
  have unt : unA .not (.bool r) = some (.bool (!r)) := rfl
  refine ⟨?a2, st', !r, ?b2, ?c2, ?d2, hm'⟩
  case b2 =>
   simp only [amE, reduceEqDiff, ↓reduceIte, reduceCtorEq, reduceAdd, r66O, g31, g0, g2, g8, fa2, lf, hd1, hr, unt, Bool.not_false]
   rfl
  case c2 => repeat (first | exact Kp.refl | refine Kp.set (by decide) ?_)
  case d2 => simp only [Fr.get_set, ↓reduceIte]
def t66C : MCode := (.cond (.t 39)
 (.seq (.region [⟨(some 6), .mv (.c (.bool false)), none⟩])
 .ret)
 .skip)
def b66 : MCode := (.seq (.region n66O) (.seq (.region d66O) (.seq (.region (l66O ++ r66O)) t66C)))
def kf66 : MFunc := ⟨41, (.seq (.region [⟨(some 6), .mv (.c (.bool false)), none⟩])
 (.seq (.seq (.region [⟨(some 9), .mv (.t 1), none⟩, ⟨(some 10), .len 0 (.t 9), none⟩, ⟨(some 11), .mv (.c (.int .i64 (.ofNat 0))), none⟩])
 (.block 0 (.loop (lb 12 11 10 40 b66))))
 (.seq (.region [⟨(some 6), .mv (.c (.bool true)), none⟩])
 .ret))), [.t 6]⟩
theorem t66 : tbl 66 = some kf66 := by kernel_rfl
def Inv66 (id : Nat) (sl : AV) (d : Int) (fr : Fr) (st : St) : Prop := fr.ds = [] /\ fr.get 0 = some (.ptr id 0) /\ fr.get 2 = some (.int .i64 d) /\ fr.get 9 = some sl /\ Mt id st
def PostB (r : Nat) (id : Nat) (fr : Fr) (st : St) : Prop := fr.ds = [] /\ Mt id st /\ ∃ b, fr.get r = some (.bool b)
theorem Tm.cellsL3 (l : List Tm) : ∀ y ∈ Tm.cellsL l, y.length = 3 /\ y.all AV.one = true := fun y hy => by
 rw [Tm.cellsL_eq] at hy
 obtain ⟨t, _, rfl⟩ := List.mem_map.1 hy
 exact t.cells3
theorem Tm.cellsL_len (l : List Tm) : (Tm.cellsL l).length = l.length := by rw [Tm.cellsL_eq]; simp
theorem Tm.cellsL_at {l : List Tm} {k : Nat} {x : Tm} (h : l[k]? = some x) : (Tm.cellsL l)[k]? = some x.cells := by rw [Tm.cellsL_eq, List.getElem?_map, h]; rfl
theorem meterTerms : ∀ (s : Nat) (l : List Tm) (nl ex : Bool) (d : Int) (n : Nat) (Y : Yenv) (id : Nat) (st : St), Tm.fzL l + l.length = s -> s + 1 < n -> Tm.okL l -> (nl = true -> l = []) -> l.length <= 9223372036854775807 -> Mt id st ->
  ∃ b st', R n Y 66 [.ptr id 0, slAV nl ex (Tm.cellsL l), .int .i64 d] st = .ret (.bool b) st' /\ Mt id st' := by
 intro s
 induction s using Nat.strongRecOn with
 | _ s ih =>
 intro l nl ex d n Y id st hs hn hok hnl hlen hm
 obtain ⟨m, rfl⟩ : ∃ m, n = m + 1 := ⟨n - 1, by omega⟩
 have hl0 := len_sl nl ex (Tm.cellsL l) (fun h => by rw [hnl h]; rfl) st
 rw [Tm.cellsL_len] at hl0
 have hB : ∀ k fr st, k < l.length -> Inv66 id (slAV nl ex (Tm.cellsL l)) d fr st -> fr.get 11 = some (.int .i64 (.ofNat k)) -> fr.get 10 = some (.int .i64 (.ofNat l.length)) ->
   ∃ FR st', (acode (gT m) Y m b66 none fr st = .norm FR st' /\ Inv66 id (slAV nl ex (Tm.cellsL l)) d FR st' /\ FR.get 11 = some (.int .i64 (.ofNat k)) /\ FR.get 10 = some (.int .i64 (.ofNat l.length))) \/ (acode (gT m) Y m b66 none fr st = .ret FR st' /\ PostB 6 id FR st') := by
  intro k fr st hk ⟨hds, g0, g2, g9, hm⟩ g11 g10
  have hx : l[k]? = some l[k] := List.getElem?_eq_getElem hk
  generalize l[k] = x at hx
  have hmem : x ∈ l := List.mem_of_getElem? hx
  obtain ⟨fr1, st1, e1, k1, g8, hm1, hg1, hne⟩ := n66 (Γ := (gT m).cg Y) hm g9 g11 (Tm.cellsL3 l) (fun h => by rw [hnl h]; rfl) (Tm.cellsL_at hx)
  obtain ⟨fr2, u, e2, k2⟩ := d66 (Γ := (gT m).cg Y) hm1 (k1.at (by decide) g0)
  have hm2 := hm1.put u
  have hg2 : (st1.put id (.row [.int .i64 u])).get st.next = some (.row x.cells) := by rw [St.get_put, if_neg (by omega)]; exact hg1
  generalize st1.put id (.row [.int .i64 u]) = st2 at *
  obtain ⟨fr3, c, e3, k3, g31⟩ := l66 (Γ := (gT m).cg Y) (d := d) hm2 (k2.at (by decide) (k1.at (by decide) g0)) (k2.at (by decide) (k1.at (by decide) g2))
  have hokx := Tm.okL_mem hok x hmem
  have hfz := Tm.fzL_mem hmem
  cases x with
  | mk kk nn nl1 ex1 l1 =>
  simp only [Tm.ok] at hokx
  simp only [Tm.fz] at hfz
  simp only [Tm.cells] at hg2
  have K3 : Kp [0, 2, 9, 10, 11] fr fr3 := ⟨k3.1.trans (k2.1.trans k1.1), fun q hq => (k3.2 q (by simp at hq ⊢; omega)).trans ((k2.2 q (by simp at hq ⊢; omega)).trans (k1.2 q hq))⟩
  obtain ⟨fr4, st4, b, e4, k4, g39, hm4⟩ := r66 (Γ := (gT m).cg Y) (d := d) hm2 g31 (K3.at (by decide) g0) (K3.at (by decide) g2) (k3.at (by decide) (k2.at (by decide) g8)) hg2
   (fun d1 => ih (Tm.fzL l1 + l1.length) (by omega) l1 nl1 ex1 d1 m Y id st2 rfl (by omega) hokx.2.2 hokx.1 hokx.2.1 hm2)
  have K4 := K3.trans k4
  have e34 : arun ((gT m).cg Y) (l66O ++ r66O) fr2 st2 = .ok fr4 st4 := by rw [arun_app e3, e4]
  cases b with
  | true =>
   refine ⟨fr4.set 6 (some (.bool false)), st4, .inr ⟨?_, K4.1.trans hds, hm4, false, by rw [Fr.get_set, if_pos rfl]⟩⟩
   simp only [amE, reduceEqDiff, ↓reduceIte, reduceCtorEq, reduceAdd, b66, t66C, e1, e2, e34, g39]
  | false =>
   refine ⟨fr4, st4, .inl ⟨?_, ⟨K4.1.trans hds, K4.at (by decide) g0, K4.at (by decide) g2, K4.at (by decide) g9, hm4⟩, K4.at (by decide) g11, K4.at (by decide) g10⟩⟩
   simp only [amE, reduceEqDiff, ↓reduceIte, reduceCtorEq, reduceAdd, b66, t66C, e1, e2, e34, g39]
 have hI : ∀ fr st s v, (s = 12 \/ s = 11 \/ s = 40) -> Inv66 id (slAV nl ex (Tm.cellsL l)) d fr st -> Inv66 id (slAV nl ex (Tm.cellsL l)) d (fr.set s v) st := by
  rintro fr st s v hs ⟨h1, h2, h3, h4, h5⟩
  refine ⟨h1, ?_, ?_, ?_, h5⟩ <;> rw [Fr.get_set, if_neg (by omega)] <;> assumption
 have b00 : Nat.beq 0 0 = true := rfl
 unfold R
 rw [run_of t66]
 unfold abody
 have hle : Nat.ble [AV.ptr id 0, slAV nl ex (Tm.cellsL l), .int .i64 d].length kf66.N = true := rfl
 rw [hle]
 rcases rloop (Γ := gT m) (Y := Y) (m := m) (N := l.length) (c := 12) (i := 11) (n := 10) (i2 := 40) (ro := none) (by decide) (by decide) (by decide) (by decide) hlen hI hB l.length 0
  ((((frOf 0 [.ptr id 0, slAV nl ex (Tm.cellsL l), .int .i64 d] Fr.nil).set 6 (some (.bool false))).set 9 (some (slAV nl ex (Tm.cellsL l)))).set 10 (some (.int .i64 (.ofNat l.length))) |>.set 11 (some (.int .i64 (.ofNat 0)))) st m (by omega) (by omega)
  ⟨rfl, by simp only [frOf, Fr.get_set, reduceAdd, reduceEqDiff, ↓reduceIte], by simp only [frOf, Fr.get_set, reduceAdd, reduceEqDiff, ↓reduceIte], by simp only [frOf, Fr.get_set, reduceAdd, reduceEqDiff, ↓reduceIte], hm⟩
  (by simp only [frOf, Fr.get_set, ↓reduceIte]) (by simp only [frOf, Fr.get_set, reduceEqDiff, ↓reduceIte]) with ⟨F1, s1, ⟨h1, h2⟩ | ⟨h1, h2⟩⟩
 ·refine ⟨true, s1, ?_, h2.2.2.2.2⟩
  simp only [frOf, reduceAdd, Fr.nil] at h1
  simp only [amE, reduceEqDiff, ↓reduceIte, reduceCtorEq, reduceAdd, kf66, hl0, h1, b00, h2.1]
 ·obtain ⟨q1, q2, b, q3⟩ := h2
  refine ⟨b, s1, ?_, q2⟩
  simp only [frOf, reduceAdd, Fr.nil] at h1
  simp only [amE, reduceEqDiff, ↓reduceIte, reduceCtorEq, reduceAdd, kf66, hl0, h1, b00, q1, q3]
end
end Go.AM.D16
set_option maxRecDepth 100000
namespace Go.AM.D16
open Go Go.AM
noncomputable section
open Nat (reduceEqDiff reduceAdd)
theorem Dv.cellsL3 (l : List Dv) : ∀ y ∈ Dv.cellsL l, y.length = 3 /\ y.all AV.one = true := fun y hy => by
 rw [Dv.cellsL_eq] at hy
 obtain ⟨t, _, rfl⟩ := List.mem_map.1 hy
 exact t.cells3
theorem Dv.cellsL_len (l : List Dv) : (Dv.cellsL l).length = l.length := by rw [Dv.cellsL_eq]; simp
theorem Dv.cellsL_at {l : List Dv} {k : Nat} {x : Dv} (h : l[k]? = some x) : (Dv.cellsL l)[k]? = some x.cells := by rw [Dv.cellsL_eq, List.getElem?_map, h]; rfl
def d35O : List MOper := [⟨(some 9), .mv (.t 0), none⟩, ⟨(some 10), .nilchk (.t 9), none⟩, ⟨(some 11), .faddr 0 (.t 10), none⟩, ⟨(some 12), .load false 1 (.t 11), none⟩, ⟨(some 13), .bin false .sub (.t 12) (.c (.int .i64 (.ofNat 1))), none⟩, ⟨(some 14), .nilchk (.t 9), none⟩, ⟨(some 15), .faddr 0 (.t 14), none⟩, ⟨none, .store 1 (.t 15) (.t 13), none⟩]
theorem d35 {Γ : Cg} {fr : Fr} {st : St} {id : Nat} (hm : Mt id st) (hp : fr.get 0 = some (.ptr id 0)) :
  ∃ fr' u, arun Γ d35O fr st = .ok fr' (st.put id (.row [.int .i64 u])) /\ Kp [0, 2, 4] fr fr' := by
 obtain ⟨v, hv⟩ := hm.2
 have lm := load_int hv
 have n0 : nilchkA (.ptr id 0) = some (.ptr id 0) := rfl
 have fa : faddrA 0 (.ptr id 0) = some (.ptr id 0) := rfl
 obtain ⟨u, hu⟩ : ∃ u, binB false .sub (.int .i64 v) (.int .i64 (.ofNat 1)) = some (.int .i64 u) := ⟨_, rfl⟩
 have sm := store_int (u := u) hv
 refine ⟨?d35f, u, ?d35r, ?d35k⟩
 case d35r =>
  simp only [amE, reduceEqDiff, ↓reduceIte, reduceCtorEq, reduceAdd, d35O, hp, n0, fa, lm, hu, sm]
  rfl
 case d35k => repeat (first | exact Kp.refl | refine Kp.set (by decide) ?_)
def l35O : List MOper := [⟨(some 16), .mv (.t 0), none⟩, ⟨(some 17), .nilchk (.t 16), none⟩, ⟨(some 18), .faddr 0 (.t 17), none⟩, ⟨(some 19), .load false 1 (.t 18), none⟩, ⟨(some 20), .bin false .lss (.t 19) (.c (.int .i64 (.ofNat 0))), none⟩, ⟨(some 21), .mv (.t 20), none⟩, ⟨(some 22), .mv (.t 2), (some (21, false))⟩, ⟨(some 23), .bin false .gtr (.t 22) (.c (.int .i64 (.ofNat 450))), (some (21, false))⟩, ⟨(some 24), .pick (.t 21) (.c (.bool true)) (.t 23), none⟩, ⟨(some 25), .mv (.t 24), none⟩]
theorem l35 {Γ : Cg} {fr : Fr} {st : St} {id : Nat} {d : Int} (hm : Mt id st) (hp : fr.get 0 = some (.ptr id 0)) (hq : fr.get 2 = some (.int .i64 d)) :
  ∃ fr' b, arun Γ l35O fr st = .ok fr' st /\ Kp [0, 2, 4] fr fr' /\ fr'.get 25 = some (.bool b) := by
 obtain ⟨v, hv⟩ := hm.2
 have lm := load_int hv
 have n0 : nilchkA (.ptr id 0) = some (.ptr id 0) := rfl
 have fa : faddrA 0 (.ptr id 0) = some (.ptr id 0) := rfl
 obtain ⟨x, hx⟩ : ∃ x, binB false .lss (.int .i64 v) (.int .i64 (.ofNat 0)) = some (.bool x) := ⟨_, rfl⟩
 obtain ⟨y, hy⟩ : ∃ y, binB false .gtr (.int .i64 d) (.int .i64 (.ofNat 450)) = some (.bool y) := ⟨_, rfl⟩
 cases x with
 | true =>
  refine ⟨?l35ftrue, true, ?l35rtrue, ?l35ktrue, ?l35gtrue⟩
  case l35rtrue =>
   simp only [amE, reduceEqDiff, ↓reduceIte, reduceCtorEq, reduceAdd, l35O, hp, hq, n0, fa, lm, hx, hy, Bool.not_true, Bool.not_false]
   rfl
  case l35ktrue => repeat (first | exact Kp.refl | refine Kp.set (by decide) ?_)
  case l35gtrue => simp only [Fr.get_set, ↓reduceIte]
 | false =>
  refine ⟨?l35ffalse, y, ?l35rfalse, ?l35kfalse, ?l35gfalse⟩
  case l35rfalse =>
   simp only [amE, reduceEqDiff, ↓reduceIte, reduceCtorEq, reduceAdd, l35O, hp, hq, n0, fa, lm, hx, hy, Bool.not_true, Bool.not_false]
   rfl
  case l35kfalse => repeat (first | exact Kp.refl | refine Kp.set (by decide) ?_)
  case l35gfalse => simp only [Fr.get_set, ↓reduceIte]
def r35O : List MOper := [⟨(some 26), .mv (.t 0), (some (25, false))⟩, ⟨(some 27), .faddr 1 (.t 4), (some (25, false))⟩, ⟨(some 28), .load false 1 (.t 27), (some (25, false))⟩, ⟨(some 29), .call (.c (.func (.func 66) [] [])) [(.t 26), (.t 28), (.c (.int .i64 (.ofNat 0)))], (some (25, false))⟩, ⟨(some 30), .un .not (.t 29), (some (25, false))⟩, ⟨(some 31), .pick (.t 25) (.c (.bool true)) (.t 30), none⟩]
theorem r35 {Γ : Cg} {fr : Fr} {st : St} {id : Nat} {x y z : AV} {c : Bool} (hm : Mt id st) (g25 : fr.get 25 = some (.bool c)) (g0 : fr.get 0 = some (.ptr id 0)) (g4 : fr.get 4 = some (.fptr [x, y, z] 0))
  (hr : ∃ r st', Γ.fn 66 [.ptr id 0, y, .int .i64 (.ofNat 0)] st = .ret (.bool r) st' /\ Mt id st') : ∃ fr' st' b, arun Γ r35O fr st = .ok fr' st' /\ Kp [0, 2, 4] fr fr' /\ fr'.get 31 = some (.bool b) /\ Mt id st' := by
 cases c with
 | true =>
  refine ⟨?a1, st, true, ?b1, ?c1, ?d1, hm⟩
  case b1 =>
   simp only [amE, reduceEqDiff, ↓reduceIte, reduceCtorEq, reduceAdd, r35O, g25, Bool.not_true, Bool.not_false]
   rfl
  case c1 => repeat (first | exact Kp.refl | refine Kp.set (by decide) ?_)
  case d1 => simp only [Fr.get_set, ↓reduceIte]
 | false =>
  have fa1 : faddrA 1 (.fptr [x, y, z] 0) = some (.fptr [x, y, z] 1) := rfl
  have lf : loadA false 1 st (.fptr [x, y, z] 1) = some y := rfl
  obtain ⟨r, st', hr, hm'⟩ := hr
  have unt : unA .not (.bool r) = some (.bool (!r)) := rfl
  refine ⟨?a2, st', !r, ?b2, ?c2, ?d2, hm'⟩
  case b2 =>
   simp only [amE, reduceEqDiff, ↓reduceIte, reduceCtorEq, reduceAdd, r35O, g25, g0, g4, fa1, lf, hr, unt, Bool.not_false]
   rfl
  case c2 => repeat (first | exact Kp.refl | refine Kp.set (by decide) ?_)
  case d2 => simp only [Fr.get_set, ↓reduceIte]
def n35O : List MOper := [⟨(some 37), .iaddr 3 (.t 33) (.t 35), none⟩, ⟨(some 38), .load true 3 (.t 37), none⟩, ⟨(some 8), .alloc [(.int .i64 (.ofNat 0)), .nilsl, .nilsl], none⟩, ⟨none, .store 3 (.t 8) (.t 38), none⟩]
theorem n35 {Γ : Cg} {fr : Fr} {st : St} {id k : Nat} {nl ex : Bool} {xs : List (List AV)} {x : List AV} (hm : Mt id st) (g9 : fr.get 33 = some (slAV nl ex xs)) (g11 : fr.get 35 = some (.int .i64 (.ofNat k))) (h3 : ∀ y ∈ xs, y.length = 3 /\ y.all AV.one = true) (hnl : nl = true -> xs = []) (hx : xs[k]? = some x) :
  ∃ fr' st1, arun Γ n35O fr st = .ok fr' st1 /\ Kp [0, 2, 33, 34, 35] fr fr' /\ fr'.get 8 = some (.ptr st.next 0) /\ Mt id st1 /\ st1.get st.next = some (.row x) /\ id ≠ st.next := by
 have ia := iaddr_sl (ex := ex) (fun y hy => (h3 y hy).1) hnl hx
 have ld := load_sl (fun y hy => (h3 y hy).1) hx st
 have hx3 := h3 x (List.mem_of_getElem? hx)
 have sto := store_new (st := st) (zs := [(.int .i64 (.ofNat 0)), .nilsl, .nilsl]) rfl hx3.1 hx3.2
 refine ⟨?n35f, ?n35s, ?n35r, ?n35k, ?n35g, ?n35m, ?n35t, ?n35u⟩
 case n35r =>
  simp only [amE, reduceEqDiff, ↓reduceIte, reduceCtorEq, reduceAdd, n35O, g9, g11, ia, ld, sto]
  rfl
 case n35k => repeat (first | exact Kp.refl | refine Kp.set (by decide) ?_)
 case n35g => simp only [Fr.get_set, ↓reduceIte]
 case n35m => exact hm.new _ _
 case n35t => rw [St.get_put, if_pos rfl]
 case n35u => have := hm.1; omega
def q35O : List MOper := [⟨(some 39), .mv (.t 0), none⟩, ⟨(some 40), .load true 3 (.t 8), none⟩, ⟨(some 41), .mv (.t 2), none⟩, ⟨(some 42), .bin false .add (.t 41) (.c (.int .i64 (.ofNat 1))), none⟩, ⟨(some 43), .call (.c (.func (.func 35) [] [])) [(.t 39), (.t 40), (.t 42)], none⟩, ⟨(some 44), .un .not (.t 43), none⟩]
theorem q35 {Γ : Cg} {fr : Fr} {st : St} {id o : Nat} {d : Int} {x : List AV} (g0 : fr.get 0 = some (.ptr id 0)) (g2 : fr.get 2 = some (.int .i64 d)) (g8 : fr.get 8 = some (.ptr o 0)) (ho : st.get o = some (.row x)) (hx : x.length = 3)
  (hr : ∀ d1, ∃ r st', Γ.fn 35 [.ptr id 0, .agg x, .int .i64 d1] st = .ret (.bool r) st' /\ Mt id st') : ∃ fr' st' b, arun Γ q35O fr st = .ok fr' st' /\ Kp [0, 2, 33, 34, 35] fr fr' /\ fr'.get 44 = some (.bool b) /\ Mt id st' := by
 have ld := load_row ho hx
 obtain ⟨d1, hd1⟩ : ∃ d1, binB false .add (.int .i64 d) (.int .i64 (.ofNat 1)) = some (.int .i64 d1) := ⟨_, rfl⟩
 obtain ⟨r, st', hr, hm'⟩ := hr d1
 have unt : unA .not (.bool r) = some (.bool (!r)) := rfl
 refine ⟨?a2, st', !r, ?b2, ?c2, ?d2, hm'⟩
 case b2 =>
  simp only [amE, reduceEqDiff, ↓reduceIte, reduceCtorEq, reduceAdd, q35O, g0, g2, g8, ld, hd1, hr, unt]
  rfl
 case c2 => repeat (first | exact Kp.refl | refine Kp.set (by decide) ?_)
 case d2 => simp only [Fr.get_set, ↓reduceIte]
def b35 : MCode := (.seq (.region n35O) (.seq (.region q35O) (.cond (.t 44)
 (.seq (.region [⟨(some 6), .mv (.c (.bool false)), none⟩])
 .ret)
 .skip)))
def kf35 : MFunc := ⟨46, (.seq (.region [⟨(some 4), .box true (.t 1), none⟩, ⟨(some 6), .mv (.c (.bool false)), none⟩])
 (.seq (.seq (.region d35O)
 (.seq (.region (l35O ++ r35O))
 (.cond (.t 31)
 (.seq (.region [⟨(some 6), .mv (.c (.bool false)), none⟩])
 .ret)
 .skip)))
 (.seq (.seq (.region [⟨(some 32), .faddr 2 (.t 4), none⟩, ⟨(some 33), .load false 1 (.t 32), none⟩, ⟨(some 34), .len 0 (.t 33), none⟩, ⟨(some 35), .mv (.c (.int .i64 (.ofNat 0))), none⟩])
 (.block 0 (.loop (lb 36 35 34 45 b35))))
 (.seq (.region [⟨(some 6), .mv (.c (.bool true)), none⟩])
 .ret)))), [.t 6]⟩
theorem t35 : tbl 35 = some kf35 := by kernel_rfl
def Inv35 (id : Nat) (sl : AV) (d : Int) (fr : Fr) (st : St) : Prop := fr.ds = [] /\ fr.get 0 = some (.ptr id 0) /\ fr.get 2 = some (.int .i64 d) /\ fr.get 33 = some sl /\ Mt id st
theorem meterDeriv (a : Dv) : ∀ (d : Int) (n : Nat) (Y : Yenv) (id : Nat) (st : St), a.fz < n -> a.ok -> Mt id st ->
  ∃ b st', R n Y 35 [.ptr id 0, .agg a.cells, .int .i64 d] st = .ret (.bool b) st' /\ Mt id st' := by
 induction hs : a.fz using Nat.strongRecOn generalizing a with
 | _ s ih =>
 intro d n Y id st hn hok hm
 cases a with
 | mk rr nv ev vs nl ex l =>
 simp only [Dv.ok] at hok
 simp only [Dv.fz] at hs
 obtain ⟨m, rfl⟩ : ∃ m, n = m + 1 := ⟨n - 1, by omega⟩
 have hB : ∀ k fr st, k < l.length -> Inv35 id (slAV nl ex (Dv.cellsL l)) d fr st -> fr.get 35 = some (.int .i64 (.ofNat k)) -> fr.get 34 = some (.int .i64 (.ofNat l.length)) ->
   ∃ FR st', (acode (gT m) Y m b35 none fr st = .norm FR st' /\ Inv35 id (slAV nl ex (Dv.cellsL l)) d FR st' /\ FR.get 35 = some (.int .i64 (.ofNat k)) /\ FR.get 34 = some (.int .i64 (.ofNat l.length))) \/ (acode (gT m) Y m b35 none fr st = .ret FR st' /\ PostB 6 id FR st') := by
  intro k fr st hk ⟨hds, g0, g2, g33, hm⟩ g35 g34
  have hx : l[k]? = some l[k] := List.getElem?_eq_getElem hk
  generalize l[k] = x at hx
  have hmem : x ∈ l := List.mem_of_getElem? hx
  obtain ⟨fr1, st1, e1, k1, g8, hm1, hg1, hne⟩ := n35 (Γ := (gT m).cg Y) hm g33 g35 (Dv.cellsL3 l) (fun h => by rw [hok.2.2.2.1 h]; rfl) (Dv.cellsL_at hx)
  have hfz := Dv.fzL_mem hmem
  obtain ⟨fr2, st2, b, e2, k2, g44, hm2⟩ := q35 (Γ := (gT m).cg Y) (k1.at (by decide) g0) (k1.at (by decide) g2) g8 hg1 x.cells3.1
   (fun d1 => ih x.fz (by omega) x rfl d1 m Y id st1 (by omega) (Dv.okL_mem hok.2.2.2.2.2 x hmem) hm1)
  have K := k1.trans k2
  cases b with
  | true =>
   refine ⟨fr2.set 6 (some (.bool false)), st2, .inr ⟨?_, K.1.trans hds, hm2, false, by rw [Fr.get_set, if_pos rfl]⟩⟩
   simp only [amE, reduceEqDiff, ↓reduceIte, reduceCtorEq, reduceAdd, b35, e1, e2, g44]
  | false =>
   refine ⟨fr2, st2, .inl ⟨?_, ⟨K.1.trans hds, K.at (by decide) g0, K.at (by decide) g2, K.at (by decide) g33, hm2⟩, K.at (by decide) g35, K.at (by decide) g34⟩⟩
   simp only [amE, reduceEqDiff, ↓reduceIte, reduceCtorEq, reduceAdd, b35, e1, e2, g44]
 have hI : ∀ fr st s v, (s = 36 \/ s = 35 \/ s = 45) -> Inv35 id (slAV nl ex (Dv.cellsL l)) d fr st -> Inv35 id (slAV nl ex (Dv.cellsL l)) d (fr.set s v) st := by
  rintro fr st s v hs ⟨h1, h2, h3, h4, h5⟩
  refine ⟨h1, ?_, ?_, ?_, h5⟩ <;> rw [Fr.get_set, if_neg (by omega)] <;> assumption
 have b00 : Nat.beq 0 0 = true := rfl
 suffices h : ∃ b st', R (m + 1) Y 35 [.ptr id 0, .agg (Dv.mk rr nv ev vs nl ex l).cells, .int .i64 d] st = .ret (.bool b) st' /\ Mt id st' from h
 unfold R
 rw [run_of t35]
 unfold abody
 have hle : Nat.ble [AV.ptr id 0, .agg (Dv.mk rr nv ev vs nl ex l).cells, .int .i64 d].length kf35.N = true := rfl
 rw [hle]
 -- the start
 simp only [Dv.cells]
 obtain ⟨fr0, h0⟩ : ∃ fr0, fr0 = (((frOf 0 [AV.ptr id 0, .agg [.int .i64 rr, slAV nv ev (Tm.cellsL vs), slAV nl ex (Dv.cellsL l)], .int .i64 d] Fr.nil).set 4 (some (.fptr [.int .i64 rr, slAV nv ev (Tm.cellsL vs), slAV nl ex (Dv.cellsL l)] 0))).set 6 (some (.bool false))) := ⟨_, rfl⟩
 have z0 : fr0.get 0 = some (.ptr id 0) := by rw [h0]; simp only [frOf, Fr.get_set, reduceAdd, reduceEqDiff, ↓reduceIte]
 have z2 : fr0.get 2 = some (.int .i64 d) := by rw [h0]; simp only [frOf, Fr.get_set, reduceAdd, reduceEqDiff, ↓reduceIte]
 have z4 : fr0.get 4 = some (.fptr [.int .i64 rr, slAV nv ev (Tm.cellsL vs), slAV nl ex (Dv.cellsL l)] 0) := by rw [h0]; simp only [frOf, Fr.get_set, reduceAdd, reduceEqDiff, ↓reduceIte]
 have zd : fr0.ds = [] := by rw [h0]; rfl
 have hst : ∀ Γ : Cg, arun Γ [⟨(some 4), .box true (.t 1), none⟩, ⟨(some 6), .mv (.c (.bool false)), none⟩] (frOf 0 [AV.ptr id 0, .agg [.int .i64 rr, slAV nv ev (Tm.cellsL vs), slAV nl ex (Dv.cellsL l)], .int .i64 d] Fr.nil) st = .ok fr0 st := by
  intro Γ
  rw [h0]
  simp only [amE, reduceEqDiff, ↓reduceIte, reduceCtorEq, reduceAdd]
 generalize frOf 0 [AV.ptr id 0, .agg [.int .i64 rr, slAV nv ev (Tm.cellsL vs), slAV nl ex (Dv.cellsL l)], .int .i64 d] Fr.nil = frS at *
 obtain ⟨fr1, u, e1, k1⟩ := d35 (Γ := (gT m).cg Y) hm z0
 have hm1 := hm.put u
 generalize st.put id (.row [.int .i64 u]) = st1 at *
 obtain ⟨fr2, c, e2, k2, g25⟩ := l35 (Γ := (gT m).cg Y) (d := d) hm1 (k1.at (by decide) z0) (k1.at (by decide) z2)
 have K2 := k1.trans k2
 obtain ⟨fr3, st3, b, e3, k3, g31, hm3⟩ := r35 (Γ := (gT m).cg Y) hm1 g25 (K2.at (by decide) z0) (K2.at (by decide) z4)
  (meterTerms (Tm.fzL vs + vs.length) vs nv ev (.ofNat 0) m Y id st1 rfl (by omega) hok.2.2.1 hok.1 hok.2.1 hm1)
 have K3 := K2.trans k3
 have e23 : arun ((gT m).cg Y) (l35O ++ r35O) fr1 st1 = .ok fr3 st3 := by rw [arun_app e2, e3]
 have ds3 : fr3.ds = [] := K3.1.trans zd
 cases b with
 | true =>
  refine ⟨false, st3, ?_, hm3⟩
  simp only [amE, reduceEqDiff, ↓reduceIte, reduceCtorEq, reduceAdd, kf35, hst, e1, e23, g31, ds3]
 | false =>
  have w0 := K3.at (by decide) z0
  have w2 := K3.at (by decide) z2
  have w4 := K3.at (by decide) z4
  have fa2 : ∀ x y z : AV, faddrA 2 (.fptr [x, y, z] 0) = some (.fptr [x, y, z] 2) := fun _ _ _ => rfl
  have lf : ∀ x y z : AV, loadA false 1 st3 (.fptr [x, y, z] 2) = some z := fun _ _ _ => rfl
  have hl0 := len_sl nl ex (Dv.cellsL l) (fun h => by rw [hok.2.2.2.1 h]; rfl) st3
  rw [Dv.cellsL_len] at hl0
  rcases rloop (Γ := gT m) (Y := Y) (m := m) (N := l.length) (c := 36) (i := 35) (n := 34) (i2 := 45) (ro := none) (by decide) (by decide) (by decide) (by decide) hok.2.2.2.2.1 hI hB l.length 0
   ((((fr3.set 32 (some (.fptr [.int .i64 rr, slAV nv ev (Tm.cellsL vs), slAV nl ex (Dv.cellsL l)] 2))).set 33 (some (slAV nl ex (Dv.cellsL l)))).set 34 (some (.int .i64 (.ofNat l.length)))).set 35 (some (.int .i64 (.ofNat 0)))) st3 m (by omega) (by omega)
   ⟨ds3, by simp only [Fr.get_set, reduceEqDiff, ↓reduceIte, w0], by simp only [Fr.get_set, reduceEqDiff, ↓reduceIte, w2], by simp only [Fr.get_set, reduceEqDiff, ↓reduceIte], hm3⟩
   (by simp only [Fr.get_set, ↓reduceIte]) (by simp only [Fr.get_set, reduceEqDiff, ↓reduceIte]) with ⟨F1, s1, ⟨h1, h2⟩ | ⟨h1, h2⟩⟩
  ·refine ⟨true, s1, ?_, h2.2.2.2.2⟩
   simp only [amE, reduceEqDiff, ↓reduceIte, reduceCtorEq, reduceAdd, kf35, hst, e1, e23, g31, ds3, w4, fa2, lf, hl0, h1, b00, h2.1]
  ·obtain ⟨q1, q2, b, q3⟩ := h2
   refine ⟨b, s1, ?_, q2⟩
   simp only [amE, reduceEqDiff, ↓reduceIte, reduceCtorEq, reduceAdd, kf35, hst, e1, e23, g31, ds3, w4, fa2, lf, hl0, h1, b00, q1, q3]
def n8O : List MOper := [⟨(some 12), .iaddr 3 (.t 8) (.t 10), none⟩, ⟨(some 13), .load true 3 (.t 12), none⟩, ⟨(some 5), .alloc [(.int .i64 (.ofNat 0)), .nilsl, .nilsl], none⟩, ⟨none, .store 3 (.t 5) (.t 13), none⟩]
theorem n8 {Γ : Cg} {fr : Fr} {st : St} {id k : Nat} {nl ex : Bool} {xs : List (List AV)} {x : List AV} (hm : Mt id st) (g9 : fr.get 8 = some (slAV nl ex xs)) (g11 : fr.get 10 = some (.int .i64 (.ofNat k))) (h3 : ∀ y ∈ xs, y.length = 3 /\ y.all AV.one = true) (hnl : nl = true -> xs = []) (hx : xs[k]? = some x) :
  ∃ fr' st1, arun Γ n8O fr st = .ok fr' st1 /\ Kp [3, 8, 9, 10] fr fr' /\ fr'.get 5 = some (.ptr st.next 0) /\ Mt id st1 /\ st1.get st.next = some (.row x) /\ id ≠ st.next := by
 have ia := iaddr_sl (ex := ex) (fun y hy => (h3 y hy).1) hnl hx
 have ld := load_sl (fun y hy => (h3 y hy).1) hx st
 have hx3 := h3 x (List.mem_of_getElem? hx)
 have sto := store_new (st := st) (zs := [(.int .i64 (.ofNat 0)), .nilsl, .nilsl]) rfl hx3.1 hx3.2
 refine ⟨?n8f, ?n8s, ?n8r, ?n8k, ?n8g, ?n8m, ?n8t, ?n8u⟩
 case n8r =>
  simp only [amE, reduceEqDiff, ↓reduceIte, reduceCtorEq, reduceAdd, n8O, g9, g11, ia, ld, sto]
  rfl
 case n8k => repeat (first | exact Kp.refl | refine Kp.set (by decide) ?_)
 case n8g => simp only [Fr.get_set, ↓reduceIte]
 case n8m => exact hm.new _ _
 case n8t => rw [St.get_put, if_pos rfl]
 case n8u => have := hm.1; omega
def q8O : List MOper := [⟨(some 14), .mv (.t 3), none⟩, ⟨(some 15), .load true 3 (.t 5), none⟩, ⟨(some 16), .call (.c (.func (.func 35) [] [])) [(.t 14), (.t 15), (.c (.int .i64 (.ofNat 0)))], none⟩, ⟨(some 17), .un .not (.t 16), none⟩]
theorem q8 {Γ : Cg} {fr : Fr} {st : St} {id o : Nat} {x : List AV} (g3 : fr.get 3 = some (.ptr id 0)) (g5 : fr.get 5 = some (.ptr o 0)) (ho : st.get o = some (.row x)) (hx : x.length = 3)
  (hr : ∃ r st', Γ.fn 35 [.ptr id 0, .agg x, .int .i64 (.ofNat 0)] st = .ret (.bool r) st' /\ Mt id st') : ∃ fr' st' b, arun Γ q8O fr st = .ok fr' st' /\ Kp [3, 8, 9, 10] fr fr' /\ fr'.get 17 = some (.bool b) /\ Mt id st' := by
 have ld := load_row ho hx
 obtain ⟨r, st', hr, hm'⟩ := hr
 have unt : unA .not (.bool r) = some (.bool (!r)) := rfl
 refine ⟨?a2, st', !r, ?b2, ?c2, ?d2, hm'⟩
 case b2 =>
  simp only [amE, reduceEqDiff, ↓reduceIte, reduceCtorEq, reduceAdd, q8O, g3, g5, ld, hr, unt]
  rfl
 case c2 => repeat (first | exact Kp.refl | refine Kp.set (by decide) ?_)
 case d2 => simp only [Fr.get_set, ↓reduceIte]
def b8 : MCode := (.seq (.region n8O) (.seq (.region q8O) (.cond (.t 17)
 (.seq (.region [⟨(some 2), .mv (.c (.bool false)), none⟩])
 .ret)
 .skip)))
def kf8 : MFunc := ⟨19, (.seq (.region [⟨(some 2), .mv (.c (.bool false)), none⟩])
 (.seq (.region [⟨(some 6), .build [(.int .i64 (.ofNat 0))] [(0, 1, (.c (.int .i64 (.ofNat 9000))))], none⟩, ⟨(some 7), .box false (.t 6), none⟩, ⟨(some 3), .mv (.t 7), none⟩])
 (.seq (.seq (.region [⟨(some 8), .mv (.t 0), none⟩, ⟨(some 9), .len 0 (.t 8), none⟩, ⟨(some 10), .mv (.c (.int .i64 (.ofNat 0))), none⟩])
 (.block 0 (.loop (lb 11 10 9 18 b8))))
 (.seq (.region [⟨(some 2), .mv (.c (.bool true)), none⟩])
 .ret)))), [.t 2]⟩
theorem t8 : tbl 8 = some kf8 := by kernel_rfl
def Inv8 (id : Nat) (sl : AV) (fr : Fr) (st : St) : Prop := fr.ds = [] /\ fr.get 3 = some (.ptr id 0) /\ fr.get 8 = some sl /\ Mt id st
theorem brief (l : List Dv) (nl ex : Bool) (n : Nat) (Y : Yenv) (st : St) (hn : Dv.fzL l + l.length + 2 < n) (hok : Dv.okL l) (hnl : nl = true -> l = []) (hlen : l.length <= 9223372036854775807) :
  ∃ b st', R n Y 8 [slAV nl ex (Dv.cellsL l)] st = .ret (.bool b) st' := by
 obtain ⟨m, rfl⟩ : ∃ m, n = m + 1 := ⟨n - 1, by omega⟩
 obtain ⟨id, hid⟩ : ∃ id, id = st.next := ⟨_, rfl⟩
 have hB : ∀ k fr st, k < l.length -> Inv8 id (slAV nl ex (Dv.cellsL l)) fr st -> fr.get 10 = some (.int .i64 (.ofNat k)) -> fr.get 9 = some (.int .i64 (.ofNat l.length)) ->
   ∃ FR st', (acode (gT m) Y m b8 none fr st = .norm FR st' /\ Inv8 id (slAV nl ex (Dv.cellsL l)) FR st' /\ FR.get 10 = some (.int .i64 (.ofNat k)) /\ FR.get 9 = some (.int .i64 (.ofNat l.length))) \/ (acode (gT m) Y m b8 none fr st = .ret FR st' /\ PostB 2 id FR st') := by
  intro k fr st hk ⟨hds, g3, g8, hm⟩ g10 g9
  have hx : l[k]? = some l[k] := List.getElem?_eq_getElem hk
  generalize l[k] = x at hx
  have hmem : x ∈ l := List.mem_of_getElem? hx
  obtain ⟨fr1, st1, e1, k1, g5, hm1, hg1, hne⟩ := n8 (Γ := (gT m).cg Y) hm g8 g10 (Dv.cellsL3 l) (fun h => by rw [hnl h]; rfl) (Dv.cellsL_at hx)
  have hfz := Dv.fzL_mem hmem
  obtain ⟨fr2, st2, b, e2, k2, g17, hm2⟩ := q8 (Γ := (gT m).cg Y) (k1.at (by decide) g3) g5 hg1 x.cells3.1
   (meterDeriv x (.ofNat 0) m Y id st1 (by omega) (Dv.okL_mem hok x hmem) hm1)
  have K := k1.trans k2
  cases b with
  | true =>
   refine ⟨fr2.set 2 (some (.bool false)), st2, .inr ⟨?_, K.1.trans hds, hm2, false, by rw [Fr.get_set, if_pos rfl]⟩⟩
   simp only [amE, reduceEqDiff, ↓reduceIte, reduceCtorEq, reduceAdd, b8, e1, e2, g17]
  | false =>
   refine ⟨fr2, st2, .inl ⟨?_, ⟨K.1.trans hds, K.at (by decide) g3, K.at (by decide) g8, hm2⟩, K.at (by decide) g10, K.at (by decide) g9⟩⟩
   simp only [amE, reduceEqDiff, ↓reduceIte, reduceCtorEq, reduceAdd, b8, e1, e2, g17]
 have hI : ∀ fr st s v, (s = 11 \/ s = 10 \/ s = 18) -> Inv8 id (slAV nl ex (Dv.cellsL l)) fr st -> Inv8 id (slAV nl ex (Dv.cellsL l)) (fr.set s v) st := by
  rintro fr st s v hs ⟨h1, h2, h3, h5⟩
  refine ⟨h1, ?_, ?_, h5⟩ <;> rw [Fr.get_set, if_neg (by omega)] <;> assumption
 have b00 : Nat.beq 0 0 = true := rfl
 unfold R
 rw [run_of t8]
 unfold abody
 have hle : Nat.ble [slAV nl ex (Dv.cellsL l)].length kf8.N = true := rfl
 rw [hle]
 have bs : fillA [.int .i64 (.ofNat 0)] [(0, 1, .int .i64 (.ofNat 9000))] = some [.int .i64 (.ofNat 9000)] := rfl
 have hl0 := len_sl nl ex (Dv.cellsL l) (fun h => by rw [hnl h]; rfl) (st.new (.row [.int .i64 (.ofNat 9000)]))
 rw [Dv.cellsL_len] at hl0
 rcases rloop (Γ := gT m) (Y := Y) (m := m) (N := l.length) (c := 11) (i := 10) (n := 9) (i2 := 18) (ro := none) (by decide) (by decide) (by decide) (by decide) hlen hI hB l.length 0
  ((((((((frOf 0 [slAV nl ex (Dv.cellsL l)] Fr.nil).set 2 (some (.bool false))).set 6 (some (.agg [.int .i64 (.ofNat 9000)]))).set 7 (some (.ptr st.next 0))).set 3 (some (.ptr st.next 0))).set 8 (some (slAV nl ex (Dv.cellsL l)))).set 9 (some (.int .i64 (.ofNat l.length)))).set 10 (some (.int .i64 (.ofNat 0)))) (st.new (.row [.int .i64 (.ofNat 9000)])) m (by omega) (by omega)
  ⟨rfl, by rw [hid]; simp only [frOf, Fr.get_set, reduceEqDiff, ↓reduceIte], by simp only [frOf, Fr.get_set, reduceEqDiff, ↓reduceIte], by rw [hid]; exact ⟨by simp [St.new], _, by rw [St.get_new, if_pos rfl]⟩⟩
  (by simp only [frOf, Fr.get_set, ↓reduceIte]) (by simp only [frOf, Fr.get_set, reduceEqDiff, ↓reduceIte]) with ⟨F1, s1, ⟨h1, h2⟩ | ⟨h1, h2⟩⟩
 ·refine ⟨true, s1, ?_⟩
  simp only [frOf, Fr.nil] at h1
  simp only [amE, reduceEqDiff, ↓reduceIte, reduceCtorEq, reduceAdd, kf8, bs, hl0, h1, b00, h2.1]
 ·obtain ⟨q1, q2, b, q3⟩ := h2
  refine ⟨b, s1, ?_⟩
  simp only [frOf, Fr.nil] at h1
  simp only [amE, reduceEqDiff, ↓reduceIte, reduceCtorEq, reduceAdd, kf8, bs, hl0, h1, b00, q1, q3]
end
end Go.AM.D16
namespace Go.AM.D16
open Go Go.AM
def lex2 (p q : Int) : Int := if p = 0 then q else p
theorem orI_lex (a b c : Int) : orI a b c = lex2 a (lex2 b c) := by
 unfold orI lex2
 by_cases h : a = 0
 ·by_cases k : b = 0 <;> simp [h, k]
 ·simp [h]
theorem lex_anti {p q p' q' : Int} (h : p' = -p) (k : q' = -q) : lex2 p' q' = -lex2 p q := by
 unfold lex2
 subst h; subst k
 by_cases h : p = 0
 ·simp [h]
 ·rw [if_neg (by omega), if_neg h]
theorem negSucc0 : Int.negSucc 0 = -1 := rfl
theorem ofNat1 : Int.ofNat 1 = 1 := rfl
theorem ofNat0 : Int.ofNat 0 = 0 := rfl
theorem cmpI_anti (x y : Int) : cmpI y x = -cmpI x y := by
 unfold cmpI
 simp only [negSucc0, ofNat1, ofNat0]
 split <;> split <;> (try split) <;> omega
theorem cmpI_lt {x y : Int} (h : x < y) : cmpI x y = -1 := by unfold cmpI; rw [if_pos h]; rfl
theorem cmpI_gt {x y : Int} (h : y < x) : cmpI x y = 1 := by unfold cmpI; rw [if_neg (by omega), if_pos h]; rfl
theorem cmpI_same {x y : Int} (h : x = y) : cmpI x y = 0 := by unfold cmpI; rw [if_neg (by omega), if_neg (by omega)]; rfl
theorem cmpTs_nn : cmpTs [] [] = 0 := by unfold cmpTs; rfl
theorem cmpTs_nc (y : Tm) (ys : List Tm) : cmpTs [] (y :: ys) = -1 := by unfold cmpTs; rfl
theorem cmpTs_cn (y : Tm) (ys : List Tm) : cmpTs (y :: ys) [] = 1 := by unfold cmpTs; rfl
theorem cmpT_eq (k n : Int) (a b : Bool) (l : List Tm) (k' n' : Int) (a' b' : Bool) (l' : List Tm) : cmpT (.mk k n a b l) (.mk k' n' a' b' l') = lex2 (lex2 (cmpI k k') (lex2 (cmpI n n') (cmpI (.ofNat l.length) (.ofNat l'.length)))) (cmpTs l l') := by
 unfold cmpT
 rw [orI_lex]
 unfold lex2
 rfl
theorem cmpTs_eq (x y : Tm) (xs ys : List Tm) : cmpTs (x :: xs) (y :: ys) = lex2 (cmpT x y) (cmpTs xs ys) := by
 conv => lhs; unfold cmpTs
 rfl
theorem cmpDs_nn : cmpDs [] [] = 0 := by unfold cmpDs; rfl
theorem cmpDs_nc (y : Dv) (ys : List Dv) : cmpDs [] (y :: ys) = -1 := by unfold cmpDs; rfl
theorem cmpDs_cn (y : Dv) (ys : List Dv) : cmpDs (y :: ys) [] = 1 := by unfold cmpDs; rfl
theorem cmpD_eq (r : Int) (a b : Bool) (vs : List Tm) (c d : Bool) (l : List Dv) (r' : Int) (a' b' : Bool) (vs' : List Tm) (c' d' : Bool) (l' : List Dv) : cmpD (.mk r a b vs c d l) (.mk r' a' b' vs' c' d' l') = lex2 (cmpI r r') (lex2 (cmpTs vs vs') (cmpDs l l')) := by
 unfold cmpD
 rw [orI_lex]
theorem cmpDs_eq (x y : Dv) (xs ys : List Dv) : cmpDs (x :: xs) (y :: ys) = lex2 (cmpD x y) (cmpDs xs ys) := by
 conv => lhs; unfold cmpDs
 rfl
mutual
theorem cmpT_anti : ∀ a b : Tm, cmpT b a = -cmpT a b
 | .mk k n a b l, .mk k' n' a' b' l' => by
  rw [cmpT_eq, cmpT_eq]
  exact lex_anti (lex_anti (cmpI_anti _ _) (lex_anti (cmpI_anti _ _) (cmpI_anti _ _))) (cmpTs_anti l l')
theorem cmpTs_anti : ∀ a b : List Tm, cmpTs b a = -cmpTs a b
 | [], [] => by unfold cmpTs; rfl
 | [], _ :: _ => by unfold cmpTs; rfl
 | _ :: _, [] => by unfold cmpTs; rfl
 | x :: xs, y :: ys => by rw [cmpTs_eq, cmpTs_eq]; exact lex_anti (cmpT_anti x y) (cmpTs_anti xs ys)
end
mutual
theorem cmpD_anti : ∀ a b : Dv, cmpD b a = -cmpD a b
 | .mk r a b vs c d l, .mk r' a' b' vs' c' d' l' => by
  rw [cmpD_eq, cmpD_eq]
  exact lex_anti (cmpI_anti _ _) (lex_anti (cmpTs_anti _ _) (cmpDs_anti l l'))
theorem cmpDs_anti : ∀ a b : List Dv, cmpDs b a = -cmpDs a b
 | [], [] => by unfold cmpDs; rfl
 | [], _ :: _ => by unfold cmpDs; rfl
 | _ :: _, [] => by unfold cmpDs; rfl
 | x :: xs, y :: ys => by rw [cmpDs_eq, cmpDs_eq]; exact lex_anti (cmpD_anti x y) (cmpDs_anti xs ys)
end
theorem cmpD_self (a : Dv) : cmpD a a = 0 := by have := cmpD_anti a a; omega
end Go.AM.D16
