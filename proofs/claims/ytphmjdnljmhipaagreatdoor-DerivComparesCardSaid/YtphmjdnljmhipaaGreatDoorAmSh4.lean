import Derived.Test.YtphmjdnljmhipaaGreatDoorAmSh3
set_option linter.unusedSimpArgs false
set_option linter.unusedVariables false
set_option maxRecDepth 100000
namespace Go.AM.D16
open Go Go.AM
noncomputable section
open Nat (reduceEqDiff reduceAdd)
theorem one_cells {v : AV} (h : AV.one v = true) : v.cells = [v] := by cases v <;> first | rfl | (simp [AV.one] at h)
theorem st32 {st : St} {id : Nat} {x y z v : AV} (h : st.get id = some (.row [x, y, z])) (hv : AV.one v = true) : storeA 1 st (.ptr id 2) v = some (st.put id (.row [x, y, v])) := by
 simp only [storeA, h, one_cells hv]
 show (bif (true && (true && (AV.one v && true)) : Bool) then _ else _) = _
 rw [hv]; rfl
theorem st3 {st : St} {id : Nat} {x zs : List AV} (h : st.get id = some (.row zs)) (hz : zs.length = 3) (hx : x.length = 3 /\ x.all AV.one = true) : storeA 3 st (.ptr id 0) (.agg x) = some (st.put id (.row x)) := by
 simp only [storeA, h, AV.cells, hx.1, hz, hx.2]
 have : setCells zs 0 x = x := by
  simp only [setCells, List.take_zero, List.nil_append, Nat.zero_add]
  rw [List.drop_of_length_le (by omega)]; simp
 rw [this]; rfl
def Gr (lo : Nat) (s : St) (sl : AV) (xs : List (List AV)) (G : Nat -> Prop) : Prop :=
 (∀ i, G i -> lo <= i /\ i < s.next) /\ (∀ x ∈ xs, x.length = 3 /\ x.all AV.one = true) ∧
 ((sl = .nilsl /\ xs = []) \/ ∃ id, sl = .own id 0 xs.length 3 none xs.length /\ lo <= id /\ id < s.next /\ s.get id = some (.row xs.flatten) /\ ¬ G id)
theorem Gr.nil (lo : Nat) (s : St) : Gr lo s .nilsl [] (fun _ => False) := ⟨fun _ h => h.elim, fun _ h => by simp at h, .inl ⟨rfl, rfl⟩⟩
theorem Gr.one {lo : Nat} {s : St} {sl : AV} {xs : List (List AV)} {G : Nat -> Prop} (h : Gr lo s sl xs G) : AV.one sl = true := by
 rcases h.2.2 with ⟨rfl, _⟩ | ⟨id, rfl, _⟩ <;> rfl
theorem Gr.slr {lo : Nat} {s : St} {sl : AV} {xs : List (List AV)} {G : Nat -> Prop} (h : Gr lo s sl xs G) (hb : xs.length <= 9223372036854775807) : SlR (fun i => lo <= i /\ i < s.next) s sl xs := by
 refine ⟨h.2.1, hb, ?_⟩
 rcases h.2.2 with h | ⟨id, h1, h2, h3, h4, _⟩
 ·exact .inl h
 ·exact .inr (.inr ⟨id, none, xs.length, h1, ⟨h2, h3⟩, h4⟩)
theorem Gr.mono {lo : Nat} {s s2 : St} {sl : AV} {xs : List (List AV)} {G : Nat -> Prop} (h : Gr lo s sl xs G) (hn : s.next <= s2.next) (hk : ∀ id, lo <= id -> id < s.next -> ¬ G id -> sl = .own id 0 xs.length 3 none xs.length -> s2.get id = s.get id) : Gr lo s2 sl xs G := by
 refine ⟨fun i hi => ⟨(h.1 i hi).1, Nat.lt_of_lt_of_le (h.1 i hi).2 hn⟩, h.2.1, ?_⟩
 rcases h.2.2 with h | ⟨id, h1, h2, h3, h4, h5⟩
 ·exact .inl h
 ·exact .inr ⟨id, h1, h2, Nat.lt_of_lt_of_le h3 hn, by rw [hk id h2 h3 h5 h1]; exact h4, h5⟩
theorem Gr.app {bytes lo : Nat} {s s2 : St} {sl : AV} {xs : List (List AV)} {y : List AV} {G G2 : Nat -> Prop} (h : Gr lo s sl xs G) (hlo : lo <= s.next) (hb : (xs.length + 1) * bytes <= 140737488355328) (hb' : xs.length + 1 <= 140737488355328)
  (k : Keeps s s2) (hy : y.length = 3 /\ y.all AV.one = true) (hG2 : ∀ i, G2 i -> s.next <= i /\ i < s2.next) :
  ∃ sl' s3, appendA bytes 3 s2 sl 1 y = some (sl', s3) /\ (∀ i, i < s2.next -> sl ≠ .own i 0 xs.length 3 none xs.length -> s3.get i = s2.get i) /\ s3.next = s2.next + 1 /\ Same G s s3 /\ Same G2 s2 s3 /\ Gr lo s3 sl' (xs ++ [y]) (fun i => G i \/ G2 i) := by
 obtain ⟨hG, hxs, hsl⟩ := h
 have hfl := flat_len hxs
 have hxs' : ∀ x ∈ xs ++ [y], x.length = 3 /\ x.all AV.one = true := fun x hx => by
  rcases List.mem_append.1 hx with h | h
  ·exact hxs x h
  ·simp only [List.mem_singleton] at h; subst h; exact hy
 have hG' : ∀ s3 : St, s3.next = s2.next + 1 -> ∀ i, (G i \/ G2 i) -> lo <= i /\ i < s3.next := fun s3 h3 i hi => by
  have := k.1
  rcases hi with hi | hi
  ·have := hG i hi; omega
  ·have := hG2 i hi; omega
 have hnG : ¬ (G s2.next \/ G2 s2.next) := fun h => by
  have := k.1
  rcases h with h | h
  ·have := hG _ h; omega
  ·have := hG2 _ h; omega
 rcases hsl with ⟨rfl, rfl⟩ | ⟨id, rfl, hid, hid2, hg, hng⟩
 ·refine ⟨.own s2.next 0 1 3 none 1, s2.new (.row y), ?_, ?_, rfl, ?_, ?_, hG' _ rfl, hxs', .inr ⟨s2.next, rfl, by have := k.1; omega, by simp, ?_, hnG⟩⟩
  ·unfold appendA
   have h1 : (1 * bytes).ble 140737488355328 = true := Nat.ble_eq_true_of_le (by simpa using hb)
   rw [h1]; rfl
  ·intro i hi _
   rw [St.get_new, if_neg (by omega)]
  ·intro i hi
   have := hG i hi
   have hk := k.1
   rw [St.get_new, if_neg (by omega), k.2 i (by omega)]
  ·intro i hi
   have := hG2 i hi
   rw [St.get_new, if_neg (by omega)]
  ·rw [St.get_new, if_pos rfl]; simp
 ·have hg2 := k.get hid2 hg
  have hk := k.1
  have hfy : (xs ++ [y]).flatten = xs.flatten ++ y := by simp
  have hly : (xs ++ [y]).length = xs.length + 1 := by simp
  refine ⟨.own s2.next 0 (xs.length + 1) 3 none (xs.length + 1), (s2.del id).new (.row (xs.flatten ++ y)), ?_, ?_, rfl, ?_, ?_, hG' _ rfl, hxs', .inr ⟨s2.next, by rw [hly], by omega, by simp [St.del, St.new], ?_, hnG⟩⟩
  ·have h0 : Nat.beq 1 0 = false := rfl
   have h1 : ((xs.length + 1) * bytes).ble 140737488355328 = true := Nat.ble_eq_true_of_le hb
   have h2 : (xs.length + 1).ble 140737488355328 = true := Nat.ble_eq_true_of_le hb'
   have h3 : (0 + xs.length * 3).ble xs.flatten.length = true := Nat.ble_eq_true_of_le (by omega)
   have h4 : fitsA (xs.length + 1) xs.length none = none := by
    have : (xs.length + 1).ble xs.length = false := by
     cases hc : (xs.length + 1).ble xs.length with
     | false => rfl
     | true => have := Nat.le_of_ble_eq_true hc; omega
    simp only [fitsA, this]; rfl
   have h5 : (xs.length * 3).beq xs.flatten.length = true := by rw [hfl]; exact Nat.beq_refl _
   unfold appendA
   simp only [h0, cond_false, hg2, h1, h2, h3, h4, h5, hy.2]; rfl
  ·intro i hi hne
   have : i ≠ id := fun e => hne (by rw [e])
   rw [St.get_new, if_neg (by simp only [St.next_del]; omega), St.get_del, if_neg this]
  ·intro i hi
   have := hG i hi
   have hne : i ≠ id := fun e => hng (e ▸ hi)
   rw [St.get_new, if_neg (by simp only [St.next_del]; omega), St.get_del, if_neg hne, k.2 i (by omega)]
  ·intro i hi
   have := hG2 i hi
   rw [St.get_new, if_neg (by simp only [St.next_del]; omega), St.get_del, if_neg (by omega)]
  ·have : (s2.del id).next = s2.next := rfl
   rw [<- this, St.get_new, if_pos rfl, hfy]
theorem tag0 (x v : AV) (s : St) : tagA none x v s = s := rfl
theorem cnt1 (a b c : AV) (s : St) : contentA 3 s (.lst 1 [a, b, c] true) = some (1, [a, b, c]) := rfl
def g75_0 : List MOper := [⟨(some 10), .iaddr 3 (.t 6) (.t 8), none⟩, ⟨(some 11), .load true 3 (.t 10), none⟩, ⟨(some 5), .alloc [(.int .i64 (.ofNat 0)), (.int .i64 (.ofNat 0)), .nilsl], none⟩, ⟨none, .store 3 (.t 5) (.t 11), none⟩]
def g75_1 : List MOper := [⟨(some 12), .mv (.t 3), none⟩, ⟨(some 13), .load true 3 (.t 5), none⟩, ⟨(some 14), .call (.c (.func (.func 113) [] [])) [(.t 13)], none⟩, ⟨(some 15), .bslice 1 [(.int .i64 (.ofNat 0)), (.int .i64 (.ofNat 0)), .nilsl] [(0, 3, (.t 14))], none⟩, ⟨(some 16), .append 40 3 none (.t 12) (.t 15), none⟩, ⟨(some 3), .mv (.t 16), none⟩]
def bf75_0 : MCode := (.seq (.region g75_0)
 (.region g75_1))
def kf75 : MFunc := ⟨19, (.seq (.region [⟨(some 2), .mv (.c .nilsl), none⟩])
 (.seq (.region [⟨(some 3), .mv (.c .nilsl), none⟩])
 (.seq (.seq (.region [⟨(some 6), .mv (.t 0), none⟩, ⟨(some 7), .len 0 (.t 6), none⟩, ⟨(some 8), .mv (.c (.int .i64 (.ofNat 0))), none⟩])
 (.block 0 (.loop (lb 9 8 7 17 bf75_0))))
 (.seq (.region [⟨(some 18), .mv (.t 3), none⟩, ⟨(some 2), .mv (.t 18), none⟩])
 .ret)))), [.t 2]⟩
theorem t75 : tbl 75 = some kf75 := by kernel_rfl
def g113_1 : List MOper := [⟨(some 3), .faddr 2 (.t 1), none⟩, ⟨(some 4), .load false 1 (.t 3), none⟩, ⟨(some 5), .call (.c (.func (.func 75) [] [])) [(.t 4)], none⟩, ⟨(some 6), .faddr 2 (.t 1), none⟩, ⟨none, .store 1 (.t 6) (.t 5), none⟩]
def kf113 : MFunc := ⟨8, (.seq (.region [⟨(some 1), .box false (.t 0), none⟩, ⟨(some 2), .alloc [(.int .i64 (.ofNat 0)), (.int .i64 (.ofNat 0)), .nilsl], none⟩])
 (.seq (.region g113_1)
 (.seq (.region [⟨(some 7), .load true 3 (.t 1), none⟩, ⟨none, .store 3 (.t 2) (.t 7), none⟩])
 .ret))), [.cell 2 true 3]⟩
theorem t113 : tbl 113 = some kf113 := by kernel_rfl
def g43_0 : List MOper := [⟨(some 17), .iaddr 3 (.t 13) (.t 15), none⟩, ⟨(some 18), .load true 3 (.t 17), none⟩, ⟨(some 5), .alloc [(.int .i64 (.ofNat 0)), .nilsl, .nilsl], none⟩, ⟨none, .store 3 (.t 5) (.t 18), none⟩]
def g43_1 : List (MOper × Nat) := [(⟨(some 19), .faddr 2 (.t 3), none⟩, 0), (⟨(some 20), .load false 1 (.t 19), none⟩, 1), (⟨(some 21), .load true 3 (.t 5), none⟩, 0), (⟨(some 22), .call (.c (.func (.func 43) [] [])) [(.t 21)], none⟩, 4), (⟨(some 23), .bslice 1 [(.int .i64 (.ofNat 0)), .nilsl, .nilsl] [(0, 3, (.t 22))], none⟩, 12), (⟨(some 24), .append 56 3 none (.t 20) (.t 23), none⟩, 31), (⟨(some 25), .faddr 2 (.t 3), none⟩, 63), (⟨none, .store 1 (.t 25) (.t 24), none⟩, 127)]
def g43_3 : List (MOper × Nat) := [(⟨(some 6), .faddr 0 (.t 1), none⟩, 0), (⟨(some 7), .load false 1 (.t 6), none⟩, 1), (⟨(some 8), .faddr 1 (.t 1), none⟩, 0), (⟨(some 9), .load false 1 (.t 8), none⟩, 4), (⟨(some 10), .call (.c (.func (.func 75) [] [])) [(.t 9)], none⟩, 12), (⟨(some 11), .build [(.int .i64 (.ofNat 0)), .nilsl, .nilsl] [(0, 1, (.t 7)), (1, 1, (.t 10))], none⟩, 31), (⟨(some 3), .alloc [(.int .i64 (.ofNat 0)), .nilsl, .nilsl], none⟩, 0), (⟨none, .store 3 (.t 3) (.t 11), none⟩, 127)]
def g43_4 : List MOper := [⟨(some 12), .faddr 2 (.t 1), none⟩, ⟨(some 13), .load false 1 (.t 12), none⟩, ⟨(some 14), .len 0 (.t 13), none⟩, ⟨(some 15), .mv (.c (.int .i64 (.ofNat 0))), none⟩]
def bf43_0 : MCode := (.seq (.region g43_0)
 (.draw g43_1 [(1, some 3), (1, some 5)]))
def kf43 : MFunc := ⟨28, (.seq (.region [⟨(some 1), .box true (.t 0), none⟩, ⟨(some 2), .alloc [(.int .i64 (.ofNat 0)), .nilsl, .nilsl], none⟩])
 (.seq (.draw g43_3 [(1, some 4), (1, some 7), (6, some 4), (6, some 7)])
 (.seq (.seq (.region g43_4)
 (.block 0 (.loop (lb 16 15 14 26 bf43_0))))
 (.seq (.region [⟨(some 27), .load true 3 (.t 3), none⟩, ⟨none, .store 3 (.t 2) (.t 27), none⟩])
 .ret)))), [.cell 2 true 3]⟩
theorem t43 : tbl 43 = some kf43 := by kernel_rfl
def OwnTs (n : Nat) (Y : Yenv) (l : List Tm) : Prop := ∀ (F : Nat -> Prop) (st : St) (sl : AV) (xs : List (List AV)), SlR F st sl xs -> RepTs F st l xs -> (∀ i, F i -> i < st.next) ->
 ∃ sl' xs' st', R n Y 75 [sl] st = .ret sl' st' /\ Keeps st st' /\ SlR (fun i => st.next <= i /\ i < st'.next) st' sl' xs' /\ RepTs (fun i => st.next <= i /\ i < st'.next) st' l xs'
theorem ownTerm_of {k0 n0 : Int} {nl ex : Bool} {l : List Tm} {n : Nat} {Y : Yenv} (h : OwnTs n Y l) (F : Nat -> Prop) (st : St) (cs : List AV) (hr : RepT F st (.mk k0 n0 nl ex l) cs) (hF : ∀ i, F i -> i < st.next) :
  ∃ cs' st', R (n + 1) Y 113 [.agg cs] st = .ret (.agg cs') st' /\ Keeps st st' /\ RepT (fun i => st.next <= i /\ i < st'.next) st' (.mk k0 n0 nl ex l) cs' := by
 simp only [RepT] at hr
 obtain ⟨sl, xs, rfl, hsl, hrs⟩ := hr
 have b00 : Nat.beq 0 0 = true := rfl
 obtain ⟨s2, hs2⟩ : ∃ s2, s2 = (st.new (.row [.int .i64 k0, .int .i64 n0, sl])).new (.row [.int .i64 (.ofNat 0), .int .i64 (.ofNat 0), .nilsl]) := ⟨_, rfl⟩
 have k2 : Keeps st s2 := by rw [hs2]; exact (Keeps.new _ _).trans (Keeps.new _ _)
 have n2 : s2.next = st.next + 1 + 1 := by rw [hs2]; rfl
 have g1 : s2.get st.next = some (.row [.int .i64 k0, .int .i64 n0, sl]) := by rw [hs2, St.get_new, if_neg (by simp), St.get_new, if_pos rfl]
 have g2 : s2.get (st.next + 1) = some (.row [.int .i64 (.ofNat 0), .int .i64 (.ofNat 0), .nilsl]) := by rw [hs2, St.get_new, if_pos (by simp)]
 have hF2 : ∀ i, F i -> i < s2.next := fun i hi => Nat.lt_of_lt_of_le (hF i hi) k2.1
 obtain ⟨sl', xs', s3, c1, k3, hsl', hrs'⟩ := h F s2 sl xs (hsl.mono (Same.of k2 hF) fun _ h => h) (RepTs.mono (Same.of k2 hF) (fun _ h => h) l xs hrs) hF2
 have c1' : ((gT n).cg Y).fn 75 [sl] s2 = .ret sl' s3 := c1
 have g13 := k3.get (i := st.next) (by omega) g1
 have g23 := k3.get (i := st.next + 1) (by omega) g2
 have ho := hsl'.one
 have so := st32 g13 ho
 obtain ⟨s4, hs4⟩ : ∃ s4, s4 = s3.put st.next (.row [.int .i64 k0, .int .i64 n0, sl']) := ⟨_, rfl⟩
 rw [<- hs4] at so
 have g14 : s4.get st.next = some (.row [.int .i64 k0, .int .i64 n0, sl']) := by rw [hs4, St.get_put, if_pos rfl]
 have g24 : s4.get (st.next + 1) = some (.row [.int .i64 (.ofNat 0), .int .i64 (.ofNat 0), .nilsl]) := by rw [hs4, St.get_put, if_neg (by omega)]; exact g23
 have lr := load_row g14 rfl
 have so2 := st3 (x := [.int .i64 k0, .int .i64 n0, sl']) g24 rfl ⟨rfl, by show (true && (true && (AV.one sl' && true))) = true; rw [ho]; rfl⟩
 obtain ⟨s5, hs5⟩ : ∃ s5, s5 = s4.put (st.next + 1) (.row [.int .i64 k0, .int .i64 n0, sl']) := ⟨_, rfl⟩
 rw [<- hs5] at so2
 have g25 : s5.get (st.next + 1) = some (.row [.int .i64 k0, .int .i64 n0, sl']) := by rw [hs5, St.get_put, if_pos rfl]
 have lr5 := load_row g25 rfl
 have n3 := k3.1
 have n5 : s5.next = s3.next := by rw [hs5, hs4]; rfl
 have ks5 : Keeps st s5 := by rw [hs5, hs4]; exact ((k2.trans k3).put' _ _ (Nat.le_refl _)).put' _ _ (by omega)
 have sm : Same (fun i => s2.next <= i /\ i < s3.next) s3 s5 := fun i hi => by
  rw [hs5, St.get_put, if_neg (by omega), hs4, St.get_put, if_neg (by omega)]
 have fa2 : faddrA 2 (.ptr st.next 0) = some (.ptr st.next 2) := rfl
 have l2 := ld2 g1
 have hrep : RepT (fun i => st.next <= i /\ i < s5.next) s5 (.mk k0 n0 nl ex l) [.int .i64 k0, .int .i64 n0, sl'] := by
  simp only [RepT]
  exact ⟨sl', xs', rfl, hsl'.mono sm fun i hi => ⟨by omega, by omega⟩, RepTs.mono sm (fun i hi => ⟨by omega, by omega⟩) l xs' hrs'⟩
 obtain ⟨fA1, hA1⟩ : ∃ fA, fA = frOf 0 [.agg [.int .i64 k0, .int .i64 n0, sl]] Fr.nil := ⟨_, rfl⟩
 have gA1_0 : fA1.get 0 = some (.agg [.int .i64 k0, .int .i64 n0, sl]) := by rw [hA1]; simp only [frOf, Fr.get_set, reduceAdd, reduceEqDiff, ↓reduceIte]
 have dA1 : fA1.ds = [] := by rw [hA1]; rfl
 obtain ⟨fR2, hR2, kR2, oR2_1, oR2_2⟩ : ∃ fr', arun ((gT n).cg Y) [⟨(some 1), .box false (.t 0), none⟩, ⟨(some 2), .alloc [(.int .i64 (.ofNat 0)), (.int .i64 (.ofNat 0)), .nilsl], none⟩] fA1 st = .ok fr' s2 /\ Kp [] fA1 fr' /\ fr'.get 1 = some (.ptr st.next 0) /\ fr'.get 2 = some (.ptr (st.next + 1) 0) := ⟨_, by simp only [amE, reduceEqDiff, ↓reduceIte, reduceCtorEq, reduceAdd, gA1_0, <- hs2, St.next_new] <;> rfl, Kp.refl.s.s, gn gh, gh⟩
 have dR2 := kR2.1.trans dA1
 obtain ⟨fR3, hR3, kR3⟩ : ∃ fr', arun ((gT n).cg Y) g113_1 fR2 s2 = .ok fr' s4 /\ Kp [1, 2] fR2 fr' := ⟨_, by simp only [amE, reduceEqDiff, ↓reduceIte, reduceCtorEq, reduceAdd, oR2_1, g113_1, fa2, l2, c1', so] <;> rfl, Kp.refl.s.s.s.s⟩
 have gR3_1 := kR3.g 1 oR2_1
 have gR3_2 := kR3.g 2 oR2_2
 have dR3 := kR3.1.trans dR2
 obtain ⟨fR4, hR4, kR4⟩ : ∃ fr', arun ((gT n).cg Y) [⟨(some 7), .load true 3 (.t 1), none⟩, ⟨none, .store 3 (.t 2) (.t 7), none⟩] fR3 s4 = .ok fr' s5 /\ Kp [1, 2] fR3 fr' := ⟨_, by simp only [amE, reduceEqDiff, ↓reduceIte, reduceCtorEq, reduceAdd, gR3_1, gR3_2, lr, so2] <;> rfl, Kp.refl.s⟩
 have gR4_2 := kR4.g 2 gR3_2
 have dR4 := kR4.1.trans dR3
 refine ⟨_, s5, fun_of (mf := kf113) (fr := fR4) t113 rfl (.inl ?q4) dR4 (by simp only [kf113, amE, gR4_2, lr5]), ks5, hrep⟩
 case q4 =>
  rw [<- hA1]
  simp only [amE, reduceEqDiff, ↓reduceIte, reduceCtorEq, reduceAdd, kf113, hR2, hR3, hR4]
theorem ownTerms_run : ∀ (s : Nat) (l : List Tm) (n : Nat) (Y : Yenv), Tm.fzL l + l.length = s -> s + 2 < n -> shL l = true -> l.length <= 1000 -> OwnTs n Y l := by
 intro s
 induction s using Nat.strongRecOn with
 | _ s ih =>
 intro l n Y hs hn hsh hlen F st sl xs hsl hrs hF
 obtain ⟨m, rfl⟩ : ∃ m, n = m + 2 := ⟨n - 2, by omega⟩
 have hxl := hrs.len
 have hlen := hsl.len st
 obtain ⟨fr0, hfr0, z3, z6, z7, z8, zd⟩ : ∃ fr0, (∀ L T, acode (gT (m + 1)) Y (m + 1) (.seq (.region [⟨(some 2), .mv (.c .nilsl), none⟩]) (.seq (.region [⟨(some 3), .mv (.c .nilsl), none⟩]) (.seq (.seq (.region [⟨(some 6), .mv (.t 0), none⟩, ⟨(some 7), .len 0 (.t 6), none⟩, ⟨(some 8), .mv (.c (.int .i64 (.ofNat 0))), none⟩]) L) T))) none (frOf 0 [sl] Fr.nil) st = match acode (gT (m + 1)) Y (m + 1) L none fr0 st with
    | .norm fr st => acode (gT (m + 1)) Y (m + 1) T none fr st
    | r => r)
   /\ fr0.get 3 = some .nilsl /\ fr0.get 6 = some sl /\ fr0.get 7 = some (.int .i64 (.ofNat xs.length)) /\ fr0.get 8 = some (.int .i64 (.ofNat 0)) /\ fr0.ds = [] := by
  refine ⟨?f0, ?f1, ?f2, ?f3, ?f4, ?f5, ?f7⟩
  case f1 =>
   intro L T
   simp only [amE, reduceEqDiff, ↓reduceIte, reduceCtorEq, reduceAdd, hlen]
   rfl
  case f2 => simp only [Fr.get_set, reduceEqDiff, ↓reduceIte]
  case f3 => simp only [Fr.get_set, reduceEqDiff, ↓reduceIte]
  case f4 => simp only [Fr.get_set, reduceEqDiff, ↓reduceIte]
  case f5 => simp only [Fr.get_set, ↓reduceIte]
  case f7 => rfl
 have b00 : Nat.beq 0 0 = true := rfl
 have hB : ∀ k fr s, k < xs.length -> Kp [6, 7] fr0 fr -> fr.get 8 = some (.int .i64 (.ofNat k)) -> (Keeps st s /\ ∃ so xo G, fr.get 3 = some so /\ xo.length = k /\ RepTs G s (l.take k) xo /\ Gr st.next s so xo G) ->
   (∃ FR s', acode (gT (m + 1)) Y (m + 1) bf75_0 none fr s = .norm FR s' /\ Kp [8, 6, 7] fr FR /\ (Keeps st s' /\ ∃ so xo G, FR.get 3 = some so /\ xo.length = k + 1 /\ RepTs G s' (l.take (k + 1)) xo /\ Gr st.next s' so xo G)) ∨
   (∃ FR s', acode (gT (m + 1)) Y (m + 1) bf75_0 none fr s = .ret FR s' /\ False) := by
  intro k fr s hk hkp g8 ⟨hks, so, xo, G, q3, hxo, hro, hgr⟩
  obtain ⟨t, ht, hdr⟩ := drop_at (l := l) (k := k) (by omega)
  obtain ⟨x, hx, hrx⟩ := hrs.at ht
  have hsame : Same F st s := Same.of hks hF
  obtain ⟨p, ia, ld⟩ := hsl.at hx
  have ld := ld s hsame
  obtain ⟨s1, sto, ks, go, hnx⟩ := next_el s (zs := [(.int .i64 (.ofNat 0)), (.int .i64 (.ofNat 0)), .nilsl]) rfl hrx.cells3
  have hmem := List.mem_of_getElem? ht
  have hfz := Tm.fzL_mem hmem
  have hF1 : ∀ i, F i -> i < s1.next := fun i hi => Nat.lt_of_lt_of_le (hF i hi) (Nat.le_trans hks.1 ks.1)
  have hrx1 := hrx.mono (hsame.trans (Same.of ks fun i hi => Nat.lt_of_lt_of_le (hF i hi) hks.1)) fun _ h => h
  have lx := load_row go hrx.cells3.1
  have htake : l.take (k + 1) = l.take k ++ [t] := by rw [List.take_add_one, ht]; rfl
  have hsht := shL_mem hsh t hmem
  cases t with
  | mk k1 n1 nl1 ex1 l1 =>
  simp only [Tm.fz] at hfz
  obtain ⟨hl8, hsl1⟩ := shT_mk hsht
  obtain ⟨y, s2, hcall, ks2, hry⟩ := ownTerm_of (n := m) (Y := Y) (ih (Tm.fzL l1 + l1.length) (by omega) l1 m Y rfl (by omega) hsl1 (by omega)) F s1 x hrx1 hF1
  have hcall' : ((gT (m + 1)).cg Y).fn 113 [.agg x] s1 = .ret (.agg y) s2 := hcall
  have hk02 : Keeps s s2 := ks.trans ks2
  obtain ⟨so', s3, happ, hk3, hn3, sG, sG2, hgr'⟩ := hgr.app (bytes := 40) (G2 := fun i => s1.next <= i /\ i < s2.next) hks.1 (by omega) (by omega) hk02 hry.cells3 (fun i hi => ⟨by have := ks.1; omega, hi.2⟩)
  have q6 := hkp.at (k := 6) (by decide) z6
  have q7 := hkp.at (k := 7) (by decide) z7
  have hk03 : Keeps st s3 := ⟨by have := hks.1; have := hk02.1; omega, fun i hi => by
   rw [hk3 i (by have := hks.1; have := hk02.1; omega) (fun e => by
    rcases hgr.2.2 with ⟨e', _⟩ | ⟨id, e', hid, _⟩
    ·rw [e'] at e; cases e
    ·rw [e'] at e; injection e with e1; omega), hk02.2 i (by have := hks.1; omega), hks.2 i hi]⟩
  have hro' : RepTs (fun i => G i \/ s1.next <= i /\ i < s2.next) s3 (l.take (k + 1)) (xo ++ [y]) := by
   rw [htake]
   exact RepTs.snoc (RepTs.mono sG (fun i hi => .inl hi) _ _ hro) (hry.mono sG2 fun i hi => .inr hi)
  obtain ⟨ya, yb, yc, rfl⟩ : ∃ a b c, y = [a, b, c] := by
   match y, hry.cells3.1 with
   | [a, b, c], _ => exact ⟨a, b, c, rfl⟩
  have fl : fillA [.int .i64 (.ofNat 0), .int .i64 (.ofNat 0), .nilsl] [(0, 3, .agg [ya, yb, yc])] = some [ya, yb, yc] := rfl
  obtain ⟨fR5, hR5, kR5, oR5_5⟩ : ∃ fr', arun ((gT (m + 1)).cg Y) g75_0 fr s = .ok fr' s1 /\ Kp [3, 6, 7, 8] fr fr' /\ fr'.get 5 = some (.ptr s.next 0) := ⟨_, by simp only [amE, reduceEqDiff, ↓reduceIte, reduceCtorEq, reduceAdd, q6, g8, g75_0, ia, ld, sto] <;> rfl, Kp.refl.s.s.s, gh⟩
  have gR5_3 := kR5.g 3 q3
  obtain ⟨fR6, hR6, kR6, oR6_3⟩ : ∃ fr', arun ((gT (m + 1)).cg Y) g75_1 fR5 s1 = .ok fr' s3 /\ Kp [6, 7, 8] fR5 fr' /\ fr'.get 3 = some (so') := ⟨_, by simp only [amE, reduceEqDiff, ↓reduceIte, reduceCtorEq, reduceAdd, gR5_3, oR5_5, g75_1, lx, hcall', fl, cnt1, happ, tag0] <;> rfl, Kp.refl.s.s.s.s.s.s, gh⟩
  refine .inl ⟨fR6, s3, ?q6, (kR5.sub (by decide)).trans (kR6.sub (by decide)), hk03, so', xo ++ [[ya, yb, yc]], _, oR6_3, by simp [hxo], hro', hgr'⟩
  case q6 => simp only [amE, reduceEqDiff, ↓reduceIte, reduceCtorEq, reduceAdd, bf75_0, hR5, hR6]
 rcases kloop (Γ := gT (m + 1)) (Y := Y) (m := m + 1) (N := xs.length) (c := 9) (i := 8) (n := 7) (i2 := 17) (ro := none) (L := [6, 7]) (fr0 := fr0) (by decide) (by decide) (by decide) (by decide) z7 hsl.2.1
  (Q := fun k fr s => Keeps st s /\ ∃ (so : AV) (xo : List (List AV)) (G : Nat -> Prop), fr.get 3 = some so /\ xo.length = k /\ RepTs G s (l.take k) xo /\ Gr st.next s so xo G) (fun k fr s sl v hs ⟨h1, so, xo, G, h4, h5⟩ => ⟨h1, so, xo, G, by rw [Fr.get_set, if_neg (by omega)]; exact h4, h5⟩) hB xs.length 0 fr0 st (m + 1) (by omega) (by omega) Kp.refl z8 ⟨Keeps.refl st, .nilsl, [], _, z3, rfl, by simp only [List.take_zero, RepTs], Gr.nil _ _⟩
  with ⟨FR, s', h1, h2, h3, so, xo, G, h4, h5, h6, h7⟩ | ⟨FR, s', h1, h2⟩
 ·rw [hxl, List.take_length] at h6
  refine ⟨so, xo, s', fun_of (mf := kf75) (fr := (FR.set 18 (some so)).set 2 (some so)) t75 rfl (.inl ?w1) (h2.1.trans zd) ?w2, h3, h7.slr (by omega), RepTs.mono (Same.refl _ _) (fun i hi => h7.1 i hi) _ _ h6⟩
  case w1 =>
   refine (hfr0 _ _).trans ?_
   simp only [amE, reduceEqDiff, ↓reduceIte, reduceCtorEq, reduceAdd, h1, b00, h4]
  case w2 => simp only [kf75, amE, Fr.get_set, ↓reduceIte]
 ·exact absurd h2 id
theorem adraw_ok {Γ : Cg} {zs : List (MOper × Nat)} {chk : List (Nat × Option Nat)} {fr frE : Fr} {st stE : St} {its : List DIt} (h : drun Γ zs 0 st.next fr (preA zs st) none = some (its, frE, stE)) (hp : panOf its = none)
  (hc : chk.all (chkB Γ zs its st.next stE) = true) : adraw Γ zs chk fr st = .ok frE stE := by
 unfold adraw
 rw [h]
 simp only [hc, cond_true, hp]
theorem drun_nil {Γ : Cg} {i id : Nat} {fr : Fr} {st : St} {pan : Option Nat} : drun Γ [] i id fr st pan = some ([], fr, st) := rfl
theorem drun_cons {Γ : Cg} {d : Option Nat} {op : MOp} {a : Nat} {zs : List (MOper × Nat)} {i id : Nat} {fr : Fr} {st : St} : drun Γ ((⟨d, op, none⟩, a) :: zs) i id fr st none = match oprD Γ id fr st op with
  | .val v st' => DR.cons (.val fr st v st') (drun Γ zs (i + 1) (nextId id op) (Fr.put fr d v) st' none)
  | .pan v st' => DR.cons (.pan fr st v st') (drun Γ zs (i + 1) (nextId id op) fr st (some i))
  | .stuck => none := by
 conv => lhs; unfold drun
 simp only [deadA, cond_false, wantedA]
 cases oprD Γ id fr st op <;> rfl
theorem fill2 {v : AV} (r : Int) (h : AV.one v = true) : fillA [.int .i64 (.ofNat 0), .nilsl, .nilsl] [(0, 1, .int .i64 r), (1, 1, v)] = some [.int .i64 r, v, .nilsl] := by cases v <;> first | rfl | (simp [AV.one] at h)
theorem chk_of {Γ : Cg} {zs : List (MOper × Nat)} {its : List DIt} {id i k a : Nat} {d : Option Nat} {op : MOp} {stE : St} {fr fr2 : Fr} {s s1 s2 s3 : St} {v v2 : AV} (hz : zs[i]? = some (⟨d, op, none⟩, a)) (hi : its[i]? = some (.val fr s v s1)) (_hg : (none : Option (Nat × Bool)) = none) (hk : its[k]? = some (.val fr2 s2 v2 s3))
  (h : frzLoad op fr = true \/ ∃ s4, oprD Γ (idAt zs i id) fr s2 op = .val v s4 /\ avBeq v v = true) : chkB Γ zs its id stE (i, some k) = true := by
 unfold chkB
 simp only [hz, hi, wantedA, hk]
 rcases h with h | ⟨s4, h1, h2⟩
 ·rw [h]; rfl
 ·simp only [sameAt, h1, h2, Bool.or_true]
theorem Gr.beq {lo : Nat} {s : St} {sl : AV} {xs : List (List AV)} {G : Nat -> Prop} (h : Gr lo s sl xs G) : avBeq sl sl = true := by
 rcases h.2.2 with ⟨rfl, _⟩ | ⟨id, rfl, _⟩
 ·rfl
 ·simp only [avBeq, Nat.beq_refl, onBeq]; rfl
def OwnD (n : Nat) (Y : Yenv) (d : Dv) : Prop := ∀ (F : Nat -> Prop) (st : St) (cs : List AV), RepD F st d cs -> (∀ i, F i -> i < st.next) ->
 ∃ cs' st', R n Y 43 [.agg cs] st = .ret (.agg cs') st' /\ Keeps st st' /\ RepD (fun i => st.next <= i /\ i < st'.next) st' d cs'
theorem shL_of_all : ∀ {l : List Tm}, l.all gr = true -> shL l = true
 | [], _ => shL_nil
 | t :: l, h => by
  simp only [List.all_cons, Bool.and_eq_true] at h
  rw [shL_cons, if_pos (gr_shT h.1)]; exact shL_of_all h.2
theorem good_mk {r : Int} {nv ev nl ex : Bool} {vs : List Tm} {l : List Dv} (h : Dv.good gr (.mk r nv ev vs nl ex l) = true) : 1 <= r /\ r <= 19 /\ l.length = arN r /\ vs.length <= vaN r /\ shL vs = true /\ Dv.goodL gr l = true := by
 simp only [Dv.good, Bool.and_eq_true, decide_eq_true_eq, beq_iff_eq] at h
 exact ⟨h.1.1.1.1.1, h.1.1.1.1.2, h.1.1.1.2, h.1.1.2, shL_of_all h.1.2, h.2⟩
theorem goodL_mem : ∀ {l : List Dv}, Dv.goodL gr l = true -> ∀ d ∈ l, d.good gr = true
 | [], _, _, hx => by simp at hx
 | t :: l, h, x, hx => by
  simp only [Dv.goodL, Bool.and_eq_true] at h
  rcases List.mem_cons.1 hx with rfl | hx
  ·exact h.1
  ·exact goodL_mem h.2 x hx
theorem arN_le (r : Int) : arN r <= 2 := by
 unfold arN
 split
 ·omega
 ·split <;> omega
theorem vaN_le (r : Int) : vaN r <= 64 := by
 unfold vaN
 split
 ·omega
 ·split <;> omega
theorem ownDeriv_run (d : Dv) : ∀ (n : Nat) (Y : Yenv), d.fz <= n -> d.good gr = true -> OwnD n Y d := by
 induction hs : d.fz using Nat.strongRecOn generalizing d with
 | _ s ih =>
 intro n Y hn hgood F st cs hr hF
 cases d with
 | mk r nv ev vs nl ex l =>
 obtain ⟨-, -, hlN, hvN, hshv, hgl⟩ := good_mk hgood
 have hl2 := arN_le r
 have hv64 := vaN_le r
 simp only [RepD] at hr
 obtain ⟨sv, xv, sl, xs, rfl, hsv, hrv, hsl, hrl⟩ := hr
 simp only [Dv.fz] at hs
 obtain ⟨m, rfl⟩ : ∃ m, n = m + 1 := ⟨n - 1, by omega⟩
 have hxv := hrv.len
 have hxl := hrl.len
 have b00 : Nat.beq 0 0 = true := rfl
 obtain ⟨s1, hs1⟩ : ∃ s1, s1 = st.new (.row [.int .i64 (.ofNat 0), .nilsl, .nilsl]) := ⟨_, rfl⟩
 obtain ⟨s2, hs2⟩ : ∃ s2, s2 = s1.new (.row [.int .i64 (.ofNat 0), .nilsl, .nilsl]) := ⟨_, rfl⟩
 have n1 : s1.next = st.next + 1 := by rw [hs1]; rfl
 have n2 : s2.next = st.next + 2 := by rw [hs2]; show s1.next + 1 = _; omega
 have ks1 : Keeps st s1 := by rw [hs1]; exact Keeps.new _ _
 have ks2 : Keeps st s2 := by rw [hs2]; exact ks1.trans (Keeps.new _ _)
 have gr1 : s2.get st.next = some (.row [.int .i64 (.ofNat 0), .nilsl, .nilsl]) := by rw [hs2, St.get_new, if_neg (by omega), hs1, St.get_new, if_pos rfl]
 have go2 : s2.get s1.next = some (.row [.int .i64 (.ofNat 0), .nilsl, .nilsl]) := by rw [hs2, St.get_new, if_pos rfl]
 have hF2 : ∀ i, F i -> i < s2.next := fun i hi => Nat.lt_of_lt_of_le (hF i hi) ks2.1
 have sm2 : Same F st s2 := Same.of ks2 hF
 obtain ⟨sv', xv', s3, c1, k3, hsv', hrv'⟩ := ownTerms_run _ vs m Y rfl (by omega) hshv (by omega) F s2 sv xv (hsv.mono sm2 fun _ h => h) (RepTs.mono sm2 (fun _ h => h) vs xv hrv) hF2
 have c1' : ((gT m).cg Y).fn 75 [sv] s2 = .ret sv' s3 := c1
 have go3 := k3.get (i := s1.next) (by omega) go2
 have gr3 := k3.get (i := st.next) (by omega) gr1
 have n3 := k3.1
 have hov := hsv'.one
 have so4 := st3 (x := [.int .i64 r, sv', .nilsl]) go3 rfl ⟨rfl, by show (true && (AV.one sv' && true)) = true; rw [hov]; rfl⟩
 obtain ⟨s4, hs4⟩ : ∃ s4, s4 = s3.put s1.next (.row [.int .i64 r, sv', .nilsl]) := ⟨_, rfl⟩
 rw [<- hs4] at so4
 have n4 : s4.next = s3.next := by rw [hs4]; rfl
 have go4 : s4.get s1.next = some (.row [.int .i64 r, sv', .nilsl]) := by rw [hs4, St.get_put, if_pos rfl]
 have gr4 : s4.get st.next = some (.row [.int .i64 (.ofNat 0), .nilsl, .nilsl]) := by rw [hs4, St.get_put, if_neg (by omega)]; exact gr3
 have ks4 : Keeps st s4 := by rw [hs4]; exact (ks2.trans k3).put' _ _ (by omega)
 have smv : Same (fun i => s2.next <= i /\ i < s3.next) s3 s4 := fun i hi => by rw [hs4, St.get_put, if_neg (by omega)]
 have lenl := hsl.len s4
 have zb : avsBeq [.int .i64 (.ofNat 0), .nilsl, .nilsl] [.int .i64 (.ofNat 0), .nilsl, .nilsl] = true := rfl
 have pb : avBeq (.ptr s1.next 0) (.ptr s1.next 0) = true := by simp only [avBeq, Nat.beq_refl, Bool.and_true]
 have fb : fillA [.int .i64 (.ofNat 0), .nilsl, .nilsl] [(0, 1, .int .i64 r), (1, 1, sv')] = some [.int .i64 r, sv', .nilsl] := fill2 r hov
 obtain ⟨fA7, hA7⟩ : ∃ fA, fA = frOf 0 [.agg [.int .i64 r, sv, sl]] Fr.nil := ⟨_, rfl⟩
 have gA7_0 : fA7.get 0 = some (.agg [.int .i64 r, sv, sl]) := by rw [hA7]; simp only [frOf, Fr.get_set, reduceAdd, reduceEqDiff, ↓reduceIte]
 have dA7 : fA7.ds = [] := by rw [hA7]; rfl
 obtain ⟨fR8, hR8, kR8, oR8_1, oR8_2⟩ : ∃ fr', arun ((gT m).cg Y) [⟨(some 1), .box true (.t 0), none⟩, ⟨(some 2), .alloc [(.int .i64 (.ofNat 0)), .nilsl, .nilsl], none⟩] fA7 st = .ok fr' s1 /\ Kp [] fA7 fr' /\ fr'.get 1 = some (.fptr [.int .i64 r, sv, sl] 0) /\ fr'.get 2 = some (.ptr st.next 0) := ⟨_, by simp only [amE, reduceEqDiff, ↓reduceIte, reduceCtorEq, reduceAdd, gA7_0, <- hs1] <;> rfl, Kp.refl.s.s, gn gh, gh⟩
 have dR8 := kR8.1.trans dA7
 obtain ⟨fR9, hR9, kR9, oR9_3⟩ : ∃ fr', adraw ((gT m).cg Y) g43_3 [(1, some 4), (1, some 7), (6, some 4), (6, some 7)] fR8 s1 = .ok fr' s4 /\ Kp [1, 2] fR8 fr' /\ fr'.get 3 = some (.ptr s1.next 0) := by
  refine ⟨?r90, ?r91, ?r92, ?r9o3⟩
  case r91 =>
   refine adraw_ok (its := ?r9i) ?r9x ?r9y ?r9z
   case r9x =>
    simp only [amE, reduceEqDiff, ↓reduceIte, reduceCtorEq, reduceAdd, drun_cons, drun_nil, DR.cons, oprD, nextId, preA, oR8_1, g43_3, faf, ld0f, ld1f, c1', fb, <- hs2, go3, go2, zb, so4]
    rfl
   case r9y => rfl
   case r9z =>
    simp only [List.all_cons, List.all_nil, Bool.and_true, Bool.and_eq_true]
    refine ⟨chk_of (i := 1) (k := 4) rfl rfl rfl rfl ?r9k0, chk_of (i := 1) (k := 7) rfl rfl rfl rfl ?r9k1, chk_of (i := 6) (k := 4) rfl rfl rfl rfl ?r9k2, chk_of (i := 6) (k := 7) rfl rfl rfl rfl ?r9k3⟩
    case r9k0 =>
     left
     simp only [amE, reduceEqDiff, ↓reduceIte, reduceCtorEq, reduceAdd, frzLoad, oR8_1, g43_3, faf, ld0f, ld1f, c1', fb, <- hs2, go3, go2, zb, so4]
    case r9k1 =>
     left
     simp only [amE, reduceEqDiff, ↓reduceIte, reduceCtorEq, reduceAdd, frzLoad, oR8_1, g43_3, faf, ld0f, ld1f, c1', fb, <- hs2, go3, go2, zb, so4]
    case r9k2 =>
     right
     refine ⟨?r9s2, ?r9l2, pb⟩
     case r9l2 =>
      simp only [amE, reduceEqDiff, ↓reduceIte, reduceCtorEq, reduceAdd, oprD, idAt, nextId, oR8_1, g43_3, faf, ld0f, ld1f, c1', fb, <- hs2, go3, go2, zb, so4]
      rfl
    case r9k3 =>
     right
     refine ⟨?r9s3, ?r9l3, pb⟩
     case r9l3 =>
      simp only [amE, reduceEqDiff, ↓reduceIte, reduceCtorEq, reduceAdd, oprD, idAt, nextId, oR8_1, g43_3, faf, ld0f, ld1f, c1', fb, <- hs2, go3, go2, zb, so4]
      rfl
  case r92 => repeat (first | exact Kp.refl | refine Kp.set (by decide) ?_)
  case r9o3 => simp only [Fr.get_set, reduceEqDiff, ↓reduceIte]
 have gR9_1 := kR9.g 1 oR8_1
 have gR9_2 := kR9.g 2 oR8_2
 have dR9 := kR9.1.trans dR8
 obtain ⟨fR10, hR10, kR10, oR10_13, oR10_14, oR10_15⟩ : ∃ fr', arun ((gT m).cg Y) g43_4 fR9 s4 = .ok fr' s4 /\ Kp [2, 3] fR9 fr' /\ fr'.get 13 = some (sl) /\ fr'.get 14 = some (.int .i64 (.ofNat xs.length)) /\ fr'.get 15 = some (.int .i64 (.ofNat 0)) := ⟨_, by simp only [amE, reduceEqDiff, ↓reduceIte, reduceCtorEq, reduceAdd, gR9_1, g43_4, faf, ld2f, lenl] <;> rfl, Kp.refl.s.s.s.s, gn (gn gh), gn gh, gh⟩
 have gR10_2 := kR10.g 2 gR9_2
 have gR10_3 := kR10.g 3 oR9_3
 have dR10 := kR10.1.trans dR9
 have Qn : ∀ (k : Nat) (s : St), (Keeps st s /\ s4.next <= s.next /\ s.get st.next = some (.row [.int .i64 (.ofNat 0), .nilsl, .nilsl]) /\ ∃ (so : AV) (xo : List (List AV)) (G : Nat -> Prop), s.get s1.next = some (.row [.int .i64 r, sv', so]) /\ Same (fun i => s2.next <= i /\ i < s3.next) s4 s /\ xo.length = k /\ RepDs G s (l.take k) xo /\ Gr s3.next s so xo G) ->
   (Keeps st s /\ s4.next <= s.next /\ s.get st.next = some (.row [.int .i64 (.ofNat 0), .nilsl, .nilsl]) /\ ∃ (so : AV) (xo : List (List AV)) (G : Nat -> Prop), s.get s1.next = some (.row [.int .i64 r, sv', so]) /\ Same (fun i => s2.next <= i /\ i < s3.next) s4 s /\ xo.length = k /\ RepDs G s (l.take k) xo /\ Gr s3.next s so xo G) := fun _ _ h => h
 have hB : ∀ k fr s, k < xs.length -> Kp [2, 3, 13, 14] fR10 fr -> fr.get 15 = some (.int .i64 (.ofNat k)) ->
   (Keeps st s /\ s4.next <= s.next /\ s.get st.next = some (.row [.int .i64 (.ofNat 0), .nilsl, .nilsl]) /\ ∃ (so : AV) (xo : List (List AV)) (G : Nat -> Prop), s.get s1.next = some (.row [.int .i64 r, sv', so]) /\ Same (fun i => s2.next <= i /\ i < s3.next) s4 s /\ xo.length = k /\ RepDs G s (l.take k) xo /\ Gr s3.next s so xo G) ->
   (∃ FR s', acode (gT m) Y m bf43_0 none fr s = .norm FR s' /\ Kp [15, 2, 3, 13, 14] fr FR /\ (Keeps st s' /\ s4.next <= s'.next /\ s'.get st.next = some (.row [.int .i64 (.ofNat 0), .nilsl, .nilsl]) /\ ∃ (so : AV) (xo : List (List AV)) (G : Nat -> Prop), s'.get s1.next = some (.row [.int .i64 r, sv', so]) /\ Same (fun i => s2.next <= i /\ i < s3.next) s4 s' /\ xo.length = k + 1 /\ RepDs G s' (l.take (k + 1)) xo /\ Gr s3.next s' so xo G)) ∨
   (∃ FR s', acode (gT m) Y m bf43_0 none fr s = .ret FR s' /\ False) := by
  intro k fr s hk hkp g15 ⟨hks, hnx4, hgz, so, xo, G, hgo, hsv4, hxo, hro, hgr⟩
  obtain ⟨t, ht, hdr⟩ := drop_at (l := l) (k := k) (by omega)
  obtain ⟨x, hx, hrx⟩ := hrl.at ht
  have hsame : Same F st s := Same.of hks hF
  obtain ⟨p, ia, ld⟩ := hsl.at hx
  have ld := ld s hsame
  obtain ⟨t1, sto, ks, gox, hnx⟩ := next_el s (zs := [(.int .i64 (.ofNat 0)), .nilsl, .nilsl]) rfl hrx.cells3
  have hmem := List.mem_of_getElem? ht
  have hfz := Dv.fzL_mem hmem
  have hF1 : ∀ i, F i -> i < t1.next := fun i hi => Nat.lt_of_lt_of_le (hF i hi) (Nat.le_trans hks.1 ks.1)
  have hrx1 := hrx.mono (hsame.trans (Same.of ks fun i hi => Nat.lt_of_lt_of_le (hF i hi) hks.1)) fun _ h => h
  have lx := load_row gox hrx.cells3.1
  have htake : l.take (k + 1) = l.take k ++ [t] := by rw [List.take_add_one, ht]; rfl
  obtain ⟨y, t2, hcall, kt2, hry⟩ := ih t.fz (by omega) t rfl m Y (by omega) (goodL_mem hgl t hmem) F t1 x hrx1 hF1
  have hcall' : ((gT m).cg Y).fn 43 [.agg x] t1 = .ret (.agg y) t2 := hcall
  have hk02 : Keeps s t2 := ks.trans kt2
  have hle := hks.1
  obtain ⟨so', t3, happ, hk3, hn3, sG, sG2, hgr'⟩ := hgr.app (bytes := 56) (G2 := fun i => t1.next <= i /\ i < t2.next) (by omega) (by omega) (by omega) hk02 hry.cells3 (fun i hi => ⟨by have := ks.1; omega, hi.2⟩)
  have hlow : ∀ i, i < s3.next -> t3.get i = s.get i := fun i hi => by
   rw [hk3 i (by have := hk02.1; omega) (fun e => by
     rcases hgr.2.2 with ⟨e', _⟩ | ⟨id, e', hid, _⟩
     ·rw [e'] at e; cases e
     ·rw [e'] at e; injection e with e1; omega), hk02.2 i (by omega)]
  have hgo1 := ks.get (i := s1.next) (by omega) hgo
  have hgo2 := hk02.get (i := s1.next) (by omega) hgo
  have hgo3 : t3.get s1.next = some (.row [.int .i64 r, sv', so]) := (hlow _ (by omega)).trans hgo
  have lso1 := ld2 hgo1
  have lso2 := ld2 hgo2
  have sto2 := st32 hgo3 hgr'.one
  obtain ⟨t4, ht4⟩ : ∃ t4, t4 = t3.put s1.next (.row [.int .i64 r, sv', so']) := ⟨_, rfl⟩
  rw [<- ht4] at sto2
  have fa2 : faddrA 2 (.ptr s1.next 0) = some (.ptr s1.next 2) := rfl
  have bso := hgr.beq
  have q3 := hkp.at (k := 3) (by decide) gR10_3
  have q13 := hkp.at (k := 13) (by decide) oR10_13
  have nt3 : s.next <= t3.next := by have := hk02.1; omega
  have nt4 : t4.next = t3.next := by rw [ht4]; rfl
  have hlow4 : ∀ i, i < s3.next -> i ≠ s1.next -> t4.get i = s.get i := fun i hi hne => by rw [ht4, St.get_put, if_neg hne]; exact hlow i hi
  have hk4 : Keeps st t4 := ⟨by omega, fun i hi => (hlow4 i (by omega) (by omega)).trans (hks.2 i hi)⟩
  have smG : Same (fun i => G i \/ t1.next <= i /\ i < t2.next) t3 t4 := fun i hi => by
   have : s1.next ≠ i := by
    rcases hi with hi | hi
    ·have := (hgr.1 i hi).1; omega
    ·have := ks.1; omega
   rw [ht4, St.get_put, if_neg (fun e => this e.symm)]
  have hro' : RepDs (fun i => G i \/ t1.next <= i /\ i < t2.next) t4 (l.take (k + 1)) (xo ++ [y]) := by
   rw [htake]
   exact RepDs.mono smG (fun _ h => h) _ _ (RepDs.snoc (RepDs.mono sG (fun i hi => .inl hi) _ _ hro) (hry.mono sG2 fun i hi => .inr hi))
  have hgr4 := hgr'.mono (s2 := t4) (by omega) (fun id h1 _ _ _ => by rw [ht4, St.get_put, if_neg (by omega)])
  have hgo4 : t4.get s1.next = some (.row [.int .i64 r, sv', so']) := by rw [ht4, St.get_put, if_pos rfl]
  have smv4 : Same (fun i => s2.next <= i /\ i < s3.next) s4 t4 := fun i hi => (hlow4 i hi.2 (by omega)).trans (hsv4 i hi)
  obtain ⟨ya, yb, yc, rfl⟩ : ∃ a b c, y = [a, b, c] := by
   match y, hry.cells3.1 with
   | [a, b, c], _ => exact ⟨a, b, c, rfl⟩
  have fl : fillA [.int .i64 (.ofNat 0), .nilsl, .nilsl] [(0, 3, .agg [ya, yb, yc])] = some [ya, yb, yc] := rfl
  obtain ⟨fR11, hR11, kR11, oR11_5⟩ : ∃ fr', arun ((gT m).cg Y) g43_0 fr s = .ok fr' t1 /\ Kp [15, 2, 3, 13, 14] fr fr' /\ fr'.get 5 = some (.ptr s.next 0) := ⟨_, by simp only [amE, reduceEqDiff, ↓reduceIte, reduceCtorEq, reduceAdd, q13, g15, g43_0, ia, ld, sto] <;> rfl, Kp.refl.s.s.s, gh⟩
  have gR11_3 := kR11.g 3 q3
  obtain ⟨fR12, hR12, kR12⟩ : ∃ fr', adraw ((gT m).cg Y) g43_1 [(1, some 3), (1, some 5)] fR11 t1 = .ok fr' t4 /\ Kp [15, 2, 3, 13, 14] fR11 fr' := by
   refine ⟨?r120, ?r121, ?r122⟩
   case r121 =>
    refine adraw_ok (its := ?r12i) ?r12x ?r12y ?r12z
    case r12x =>
     simp only [amE, reduceEqDiff, ↓reduceIte, reduceCtorEq, reduceAdd, drun_cons, drun_nil, DR.cons, oprD, nextId, preA, gR11_3, oR11_5, g43_1, fa2, lso1, lso2, lx, hcall', fl, cnt1, happ, tag0, sto2]
     rfl
    case r12y => rfl
    case r12z =>
     simp only [List.all_cons, List.all_nil, Bool.and_true, Bool.and_eq_true]
     refine ⟨chk_of (i := 1) (k := 3) rfl rfl rfl rfl ?r12k0, chk_of (i := 1) (k := 5) rfl rfl rfl rfl ?r12k1⟩
     case r12k0 =>
      right
      refine ⟨?r12s0, ?r12l0, bso⟩
      case r12l0 =>
       simp only [amE, reduceEqDiff, ↓reduceIte, reduceCtorEq, reduceAdd, oprD, gR11_3, oR11_5, g43_1, fa2, lso1, lso2, lx, hcall', fl, cnt1, happ, tag0, sto2]
       rfl
     case r12k1 =>
      right
      refine ⟨?r12s1, ?r12l1, bso⟩
      case r12l1 =>
       simp only [amE, reduceEqDiff, ↓reduceIte, reduceCtorEq, reduceAdd, oprD, gR11_3, oR11_5, g43_1, fa2, lso1, lso2, lx, hcall', fl, cnt1, happ, tag0, sto2]
       rfl
   case r122 => repeat (first | exact Kp.refl | refine Kp.set (by decide) ?_)
  refine .inl ⟨fR12, t4, ?q12, kR11.trans kR12, hk4, by omega, (hlow4 _ (by omega) (by omega)).trans hgz, so', xo ++ [[ya, yb, yc]], _, hgo4, smv4, by simp [hxo], hro', hgr4⟩
  case q12 => simp only [amE, reduceEqDiff, ↓reduceIte, reduceCtorEq, reduceAdd, bf43_0, hR11, hR12]
 rcases kloop (Γ := gT m) (Y := Y) (m := m) (N := xs.length) (c := 16) (i := 15) (n := 14) (i2 := 26) (ro := none) (L := [2, 3, 13, 14]) (fr0 := fR10) (by decide) (by decide) (by decide) (by decide) oR10_14 hsl.2.1
  (Q := fun k _ s => Keeps st s /\ s4.next <= s.next /\ s.get st.next = some (.row [.int .i64 (.ofNat 0), .nilsl, .nilsl]) /\ ∃ (so : AV) (xo : List (List AV)) (G : Nat -> Prop), s.get s1.next = some (.row [.int .i64 r, sv', so]) /\ Same (fun i => s2.next <= i /\ i < s3.next) s4 s /\ xo.length = k /\ RepDs G s (l.take k) xo /\ Gr s3.next s so xo G) (fun _ _ _ _ _ _ h => h) hB xs.length 0 fR10 s4 m (by omega) (by omega) Kp.refl oR10_15
  ⟨ks4, Nat.le_refl _, gr4, .nilsl, [], _, go4, Same.refl _ _, rfl, by simp only [List.take_zero, RepDs], Gr.nil _ _⟩
  with ⟨FR, s', h1, h2, h3, h4, h5, so, xo, G, h6, h7, h8, h9, h10⟩ | ⟨FR, s', h1, h2⟩
 ·rw [hxl, List.take_length] at h9
  have lr := load_row h6 rfl
  have hoo := h10.one
  have hx3 : [AV.int .i64 r, sv', so].length = 3 /\ [AV.int .i64 r, sv', so].all AV.one = true := ⟨rfl, by show (true && (AV.one sv' && (AV.one so && true))) = true; rw [hov, hoo]; rfl⟩
  have sof := st3 h5 rfl hx3
  obtain ⟨s5, hs5⟩ : ∃ s5, s5 = s'.put st.next (.row [.int .i64 r, sv', so]) := ⟨_, rfl⟩
  rw [<- hs5] at sof
  have g5 : s5.get st.next = some (.row [.int .i64 r, sv', so]) := by rw [hs5, St.get_put, if_pos rfl]
  have lr5 := load_row g5 rfl
  have n5 : s5.next = s'.next := by rw [hs5]; rfl
  have k5 : Keeps st s5 := by rw [hs5]; exact h3.put' _ _ (Nat.le_refl _)
  have e2 := h2.at (k := 2) (by decide) gR10_2
  have e3 := h2.at (k := 3) (by decide) gR10_3
  have sm5 : ∀ lo, st.next < lo -> Same (fun i => lo <= i /\ i < s'.next) s' s5 := fun lo hlo i hi => by rw [hs5, St.get_put, if_neg (by omega)]
  have hrep : RepD (fun i => st.next <= i /\ i < s5.next) s5 (.mk r nv ev vs nl ex l) [.int .i64 r, sv', so] := by
   simp only [RepD]
   have m1 : Same (fun i => s2.next <= i /\ i < s3.next) s3 s5 := (smv.trans h7).trans fun i hi => by rw [hs5, St.get_put, if_neg (by omega)]
   exact ⟨sv', xv', so, xo, rfl, hsv'.mono m1 (fun i hi => ⟨by omega, by omega⟩), RepTs.mono m1 (fun i hi => ⟨by omega, by omega⟩) _ _ hrv',
    (h10.slr (by omega)).mono (sm5 _ (by omega)) (fun i hi => ⟨by omega, by omega⟩), RepDs.mono (fun i hi => by have := h10.1 i hi; rw [hs5, St.get_put, if_neg (by omega)]) (fun i hi => by have := h10.1 i hi; exact ⟨by omega, by omega⟩) _ _ h9⟩
  refine ⟨_, s5, fun_of (mf := kf43) (fr := FR.set 27 (some (.agg [.int .i64 r, sv', so]))) t43 rfl (.inl ?w1) (h2.1.trans dR10) ?w2, k5, hrep⟩
  case w1 =>
   rw [<- hA7]
   simp only [amE, reduceEqDiff, ↓reduceIte, reduceCtorEq, reduceAdd, kf43, hR8, hR9, hR10, h1, b00, e2, e3, lr, sof]
  case w2 => simp only [kf43, amE, Fr.get_set, reduceEqDiff, ↓reduceIte, e2, lr5]
 ·exact absurd h2 id
end
end Go.AM.D16
