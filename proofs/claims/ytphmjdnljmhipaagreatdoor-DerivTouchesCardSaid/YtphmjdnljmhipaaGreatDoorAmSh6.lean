import Derived.Test.YtphmjdnljmhipaaGreatDoorAmSh3
set_option linter.unusedSimpArgs false
set_option linter.unusedVariables false
set_option linter.defProp false
set_option maxRecDepth 100000
namespace Go.AM.D16
open Go Go.AM
theorem one_cells {v : AV} (h : AV.one v = true) : v.cells = [v] := by cases v <;> first | rfl | (simp [AV.one] at h)
theorem st32 {st : St} {id : Nat} {x y z v : AV} (h : st.get id = some (.row [x, y, z])) (hv : AV.one v = true) : storeA 1 st (.ptr id 2) v = some (st.put id (.row [x, y, v])) := by
  simp only [storeA, h, one_cells hv]
  show (bif (true && (true && (AV.one v && true)) : Bool) then _ else _) = _
  rw [hv]; rfl
theorem st3 {st : St} {id : Nat} {x zs : List AV} (h : st.get id = some (.row zs)) (hz : zs.length = 3) (hx : x.length = 3 ∧ x.all AV.one = true) : storeA 3 st (.ptr id 0) (.agg x) = some (st.put id (.row x)) := by
  simp only [storeA, h, AV.cells, hx.1, hz, hx.2]
  have : setCells zs 0 x = x := by
    simp only [setCells, List.take_zero, List.nil_append, Nat.zero_add]
    rw [List.drop_of_length_le (by omega)]; simp
  rw [this]; rfl
def Gr (lo : Nat) (s : St) (sl : AV) (xs : List (List AV)) (G : Nat → Prop) : Prop :=
  (∀ i, G i → lo ≤ i ∧ i < s.next) ∧ (∀ x ∈ xs, x.length = 3 ∧ x.all AV.one = true) ∧
  ((sl = .nilsl ∧ xs = []) ∨ ∃ id, sl = .own id 0 xs.length 3 none xs.length ∧ lo ≤ id ∧ id < s.next ∧ s.get id = some (.row xs.flatten) ∧ ¬ G id)
theorem Gr.nil (lo : Nat) (s : St) : Gr lo s .nilsl [] (fun _ => False) := ⟨fun _ h => h.elim, fun _ h => by simp at h, .inl ⟨rfl, rfl⟩⟩
theorem Gr.one {lo : Nat} {s : St} {sl : AV} {xs : List (List AV)} {G : Nat → Prop} (h : Gr lo s sl xs G) : AV.one sl = true := by
  rcases h.2.2 with ⟨rfl, _⟩ | ⟨id, rfl, _⟩ <;> rfl
theorem Gr.slr {lo : Nat} {s : St} {sl : AV} {xs : List (List AV)} {G : Nat → Prop} (h : Gr lo s sl xs G) (hb : xs.length ≤ 9223372036854775807) : SlR (fun i => lo ≤ i ∧ i < s.next) s sl xs := by
  refine ⟨h.2.1, hb, ?_⟩
  rcases h.2.2 with h | ⟨id, h1, h2, h3, h4, _⟩
  · exact .inl h
  · exact .inr (.inr ⟨id, none, xs.length, h1, ⟨h2, h3⟩, h4⟩)
theorem Gr.mono {lo : Nat} {s s2 : St} {sl : AV} {xs : List (List AV)} {G : Nat → Prop} (h : Gr lo s sl xs G) (hn : s.next ≤ s2.next) (hk : ∀ id, lo ≤ id → id < s.next → ¬ G id → sl = .own id 0 xs.length 3 none xs.length → s2.get id = s.get id) : Gr lo s2 sl xs G := by
  refine ⟨fun i hi => ⟨(h.1 i hi).1, Nat.lt_of_lt_of_le (h.1 i hi).2 hn⟩, h.2.1, ?_⟩
  rcases h.2.2 with h | ⟨id, h1, h2, h3, h4, h5⟩
  · exact .inl h
  · exact .inr ⟨id, h1, h2, Nat.lt_of_lt_of_le h3 hn, by rw [hk id h2 h3 h5 h1]; exact h4, h5⟩
theorem Gr.app {bytes lo : Nat} {s s2 : St} {sl : AV} {xs : List (List AV)} {y : List AV} {G G2 : Nat → Prop} (h : Gr lo s sl xs G) (hlo : lo ≤ s.next) (hb : (xs.length + 1) * bytes ≤ 140737488355328) (hb' : xs.length + 1 ≤ 140737488355328)
    (k : Keeps s s2) (hy : y.length = 3 ∧ y.all AV.one = true) (hG2 : ∀ i, G2 i → s.next ≤ i ∧ i < s2.next) :
    ∃ sl' s3, appendA bytes 3 s2 sl 1 y = some (sl', s3) ∧ (∀ i, i < s2.next → sl ≠ .own i 0 xs.length 3 none xs.length → s3.get i = s2.get i) ∧ s3.next = s2.next + 1 ∧ Same G s s3 ∧ Same G2 s2 s3 ∧ Gr lo s3 sl' (xs ++ [y]) (fun i => G i ∨ G2 i) := by
  obtain ⟨hG, hxs, hsl⟩ := h
  have hfl := flat_len hxs
  have hxs' : ∀ x ∈ xs ++ [y], x.length = 3 ∧ x.all AV.one = true := fun x hx => by
    rcases List.mem_append.1 hx with h | h
    · exact hxs x h
    · simp only [List.mem_singleton] at h; subst h; exact hy
  have hG' : ∀ s3 : St, s3.next = s2.next + 1 → ∀ i, (G i ∨ G2 i) → lo ≤ i ∧ i < s3.next := fun s3 h3 i hi => by
    have := k.1
    rcases hi with hi | hi
    · have := hG i hi; omega
    · have := hG2 i hi; omega
  have hnG : ¬ (G s2.next ∨ G2 s2.next) := fun h => by
    have := k.1
    rcases h with h | h
    · have := hG _ h; omega
    · have := hG2 _ h; omega
  rcases hsl with ⟨rfl, rfl⟩ | ⟨id, rfl, hid, hid2, hg, hng⟩
  · refine ⟨.own s2.next 0 1 3 none 1, s2.new (.row y), ?_, ?_, rfl, ?_, ?_, hG' _ rfl, hxs', .inr ⟨s2.next, rfl, by have := k.1; omega, by simp, ?_, hnG⟩⟩
    · unfold appendA
      have h1 : (1 * bytes).ble 140737488355328 = true := Nat.ble_eq_true_of_le (by simpa using hb)
      rw [h1]; rfl
    · intro i hi _
      rw [St.get_new, if_neg (by omega)]
    · intro i hi
      have := hG i hi
      have hk := k.1
      rw [St.get_new, if_neg (by omega), k.2 i (by omega)]
    · intro i hi
      have := hG2 i hi
      rw [St.get_new, if_neg (by omega)]
    · rw [St.get_new, if_pos rfl]; simp
  · have hg2 := k.get hid2 hg
    have hk := k.1
    have hfy : (xs ++ [y]).flatten = xs.flatten ++ y := by simp
    have hly : (xs ++ [y]).length = xs.length + 1 := by simp
    refine ⟨.own s2.next 0 (xs.length + 1) 3 none (xs.length + 1), (s2.del id).new (.row (xs.flatten ++ y)), ?_, ?_, rfl, ?_, ?_, hG' _ rfl, hxs', .inr ⟨s2.next, by rw [hly], by omega, by simp [St.del, St.new], ?_, hnG⟩⟩
    · have h0 : Nat.beq 1 0 = false := rfl
      have h1 : ((xs.length + 1) * bytes).ble 140737488355328 = true := Nat.ble_eq_true_of_le hb
      have h2 : (xs.length + 1).ble 140737488355328 = true := Nat.ble_eq_true_of_le hb'
      have h3 : (0 + xs.length * 3).ble xs.flatten.length = true := Nat.ble_eq_true_of_le (by omega)
      have h4 : fitsA (xs.length + 1) xs.length none = none := by
        have : (xs.length + 1).ble xs.length = false := by
          cases hc : (xs.length + 1).ble xs.length with
          | false => rfl
          | true => have := Nat.le_of_ble_eq_true hc; omega
        simp only [fitsA, this]; rfl
      have h5 : (xs.length * 3).beq xs.flatten.length = true := by rw [hfl]; exact Nat.beq_refl _
      unfold appendA
      simp only [h0, cond_false, hg2, h1, h2, h3, h4, h5, hy.2]; rfl
    · intro i hi hne
      have : i ≠ id := fun e => hne (by rw [e])
      rw [St.get_new, if_neg (by simp only [St.next_del]; omega), St.get_del, if_neg this]
    · intro i hi
      have := hG i hi
      have hne : i ≠ id := fun e => hng (e ▸ hi)
      rw [St.get_new, if_neg (by simp only [St.next_del]; omega), St.get_del, if_neg hne, k.2 i (by omega)]
    · intro i hi
      have := hG2 i hi
      rw [St.get_new, if_neg (by simp only [St.next_del]; omega), St.get_del, if_neg (by omega)]
    · have : (s2.del id).next = s2.next := rfl
      rw [← this, St.get_new, if_pos rfl, hfy]
theorem tag0 (x v : AV) (s : St) : tagA none x v s = s := rfl
theorem cnt1 (a b c : AV) (s : St) : contentA 3 s (.lst 1 [a, b, c] true) = some (1, [a, b, c]) := rfl
noncomputable def bf75_0 : MCode := (.seq (.region [⟨(some 10), .iaddr 3 (.t 6) (.t 8), none⟩, ⟨(some 11), .load true 3 (.t 10), none⟩, ⟨(some 5), .alloc [(.int .i64 (.ofNat 0)), (.int .i64 (.ofNat 0)), .nilsl], none⟩, ⟨none, .store 3 (.t 5) (.t 11), none⟩])
 (.region [⟨(some 12), .mv (.t 3), none⟩, ⟨(some 13), .load true 3 (.t 5), none⟩, ⟨(some 14), .call (.c (.func (.func 113) [] [])) [(.t 13)], none⟩, ⟨(some 15), .bslice 1 [(.int .i64 (.ofNat 0)), (.int .i64 (.ofNat 0)), .nilsl] [(0, 3, (.t 14))], none⟩, ⟨(some 16), .append 40 3 none (.t 12) (.t 15), none⟩, ⟨(some 3), .mv (.t 16), none⟩]))
noncomputable def kf75 : MFunc := ⟨19, (.seq (.region [⟨(some 2), .mv (.c .nilsl), none⟩])
 (.seq (.region [⟨(some 3), .mv (.c .nilsl), none⟩])
 (.seq (.seq (.region [⟨(some 6), .mv (.t 0), none⟩, ⟨(some 7), .len 0 (.t 6), none⟩, ⟨(some 8), .mv (.c (.int .i64 (.ofNat 0))), none⟩])
 (.block 0 (.loop (lb 9 8 7 17 bf75_0))))
 (.seq (.region [⟨(some 18), .mv (.t 3), none⟩, ⟨(some 2), .mv (.t 18), none⟩])
 .ret)))), [.t 2]⟩
theorem m75_eq : m75 = kf75 := by kernel_rfl
theorem t75 : tbl 75 = some m75 := by kernel_rfl
noncomputable def kf113 : MFunc := ⟨8, (.seq (.region [⟨(some 1), .box false (.t 0), none⟩, ⟨(some 2), .alloc [(.int .i64 (.ofNat 0)), (.int .i64 (.ofNat 0)), .nilsl], none⟩])
 (.seq (.region [⟨(some 3), .faddr 2 (.t 1), none⟩, ⟨(some 4), .load false 1 (.t 3), none⟩, ⟨(some 5), .call (.c (.func (.func 75) [] [])) [(.t 4)], none⟩, ⟨(some 6), .faddr 2 (.t 1), none⟩, ⟨none, .store 1 (.t 6) (.t 5), none⟩])
 (.seq (.region [⟨(some 7), .load true 3 (.t 1), none⟩, ⟨none, .store 3 (.t 2) (.t 7), none⟩])
 .ret))), [.cell 2 true 3]⟩
theorem m113_eq : m113 = kf113 := by kernel_rfl
theorem t113 : tbl 113 = some m113 := by kernel_rfl
noncomputable def bf43_0 : MCode := (.seq (.region [⟨(some 17), .iaddr 3 (.t 13) (.t 15), none⟩, ⟨(some 18), .load true 3 (.t 17), none⟩, ⟨(some 5), .alloc [(.int .i64 (.ofNat 0)), .nilsl, .nilsl], none⟩, ⟨none, .store 3 (.t 5) (.t 18), none⟩])
 (.draw [(⟨(some 19), .faddr 2 (.t 3), none⟩, 0), (⟨(some 20), .load false 1 (.t 19), none⟩, 1), (⟨(some 21), .load true 3 (.t 5), none⟩, 0), (⟨(some 22), .call (.c (.func (.func 43) [] [])) [(.t 21)], none⟩, 4), (⟨(some 23), .bslice 1 [(.int .i64 (.ofNat 0)), .nilsl, .nilsl] [(0, 3, (.t 22))], none⟩, 12), (⟨(some 24), .append 56 3 none (.t 20) (.t 23), none⟩, 31), (⟨(some 25), .faddr 2 (.t 3), none⟩, 63), (⟨none, .store 1 (.t 25) (.t 24), none⟩, 127)] [(1, some 3), (1, some 5)]))
noncomputable def kf43 : MFunc := ⟨28, (.seq (.region [⟨(some 1), .box true (.t 0), none⟩, ⟨(some 2), .alloc [(.int .i64 (.ofNat 0)), .nilsl, .nilsl], none⟩])
 (.seq (.draw [(⟨(some 6), .faddr 0 (.t 1), none⟩, 0), (⟨(some 7), .load false 1 (.t 6), none⟩, 1), (⟨(some 8), .faddr 1 (.t 1), none⟩, 0), (⟨(some 9), .load false 1 (.t 8), none⟩, 4), (⟨(some 10), .call (.c (.func (.func 75) [] [])) [(.t 9)], none⟩, 12), (⟨(some 11), .build [(.int .i64 (.ofNat 0)), .nilsl, .nilsl] [(0, 1, (.t 7)), (1, 1, (.t 10))], none⟩, 31), (⟨(some 3), .alloc [(.int .i64 (.ofNat 0)), .nilsl, .nilsl], none⟩, 0), (⟨none, .store 3 (.t 3) (.t 11), none⟩, 127)] [(1, some 4), (1, some 7), (6, some 4), (6, some 7)])
 (.seq (.seq (.region [⟨(some 12), .faddr 2 (.t 1), none⟩, ⟨(some 13), .load false 1 (.t 12), none⟩, ⟨(some 14), .len 0 (.t 13), none⟩, ⟨(some 15), .mv (.c (.int .i64 (.ofNat 0))), none⟩])
 (.block 0 (.loop (lb 16 15 14 26 bf43_0))))
 (.seq (.region [⟨(some 27), .load true 3 (.t 3), none⟩, ⟨none, .store 3 (.t 2) (.t 27), none⟩])
 .ret)))), [.cell 2 true 3]⟩
theorem m43_eq : m43 = kf43 := by kernel_rfl
theorem t43 : tbl 43 = some m43 := by kernel_rfl
def OwnTs (n : Nat) (Y : Yenv) (l : List Tm) : Prop := ∀ (F : Nat → Prop) (st : St) (sl : AV) (xs : List (List AV)), SlR F st sl xs → RepTs F st l xs → (∀ i, F i → i < st.next) →
  ∃ sl' xs' st', R n Y 75 [sl] st = .ret sl' st' ∧ Keeps st st' ∧ SlR (fun i => st.next ≤ i ∧ i < st'.next) st' sl' xs' ∧ RepTs (fun i => st.next ≤ i ∧ i < st'.next) st' l xs'
theorem ownTerm_of {k0 n0 : Int} {nl ex : Bool} {l : List Tm} {n : Nat} {Y : Yenv} (h : OwnTs n Y l) (F : Nat → Prop) (st : St) (cs : List AV) (hr : RepT F st (.mk k0 n0 nl ex l) cs) (hF : ∀ i, F i → i < st.next) :
    ∃ cs' st', R (n + 1) Y 113 [.agg cs] st = .ret (.agg cs') st' ∧ Keeps st st' ∧ RepT (fun i => st.next ≤ i ∧ i < st'.next) st' (.mk k0 n0 nl ex l) cs' := by
  simp only [RepT] at hr
  obtain ⟨sl, xs, rfl, hsl, hrs⟩ := hr
  have b00 : Nat.beq 0 0 = true := rfl
  obtain ⟨s2, hs2⟩ : ∃ s2, s2 = (st.new (.row [.int .i64 k0, .int .i64 n0, sl])).new (.row [.int .i64 (.ofNat 0), .int .i64 (.ofNat 0), .nilsl]) := ⟨_, rfl⟩
  have k2 : Keeps st s2 := by rw [hs2]; exact (Keeps.new _ _).trans (Keeps.new _ _)
  have n2 : s2.next = st.next + 1 + 1 := by rw [hs2]; rfl
  have g1 : s2.get st.next = some (.row [.int .i64 k0, .int .i64 n0, sl]) := by rw [hs2, St.get_new, if_neg (by simp), St.get_new, if_pos rfl]
  have g2 : s2.get (st.next + 1) = some (.row [.int .i64 (.ofNat 0), .int .i64 (.ofNat 0), .nilsl]) := by rw [hs2, St.get_new, if_pos (by simp)]
  have hF2 : ∀ i, F i → i < s2.next := fun i hi => Nat.lt_of_lt_of_le (hF i hi) k2.1
  obtain ⟨sl', xs', s3, c1, k3, hsl', hrs'⟩ := h F s2 sl xs (hsl.mono (Same.of k2 hF) fun _ h => h) (RepTs.mono (Same.of k2 hF) (fun _ h => h) l xs hrs) hF2
  have c1' : ((gamT tbl (handX exts) n).cg Y).fn 75 [sl] s2 = .ret sl' s3 := c1
  have g13 := k3.get (i := st.next) (by omega) g1
  have g23 := k3.get (i := st.next + 1) (by omega) g2
  have ho := hsl'.one
  have so := st32 g13 ho
  obtain ⟨s4, hs4⟩ : ∃ s4, s4 = s3.put st.next (.row [.int .i64 k0, .int .i64 n0, sl']) := ⟨_, rfl⟩
  rw [← hs4] at so
  have g14 : s4.get st.next = some (.row [.int .i64 k0, .int .i64 n0, sl']) := by rw [hs4, St.get_put, if_pos rfl]
  have g24 : s4.get (st.next + 1) = some (.row [.int .i64 (.ofNat 0), .int .i64 (.ofNat 0), .nilsl]) := by rw [hs4, St.get_put, if_neg (by omega)]; exact g23
  have lr := load_row g14 rfl
  have so2 := st3 (x := [.int .i64 k0, .int .i64 n0, sl']) g24 rfl ⟨rfl, by show (true && (true && (AV.one sl' && true))) = true; rw [ho]; rfl⟩
  obtain ⟨s5, hs5⟩ : ∃ s5, s5 = s4.put (st.next + 1) (.row [.int .i64 k0, .int .i64 n0, sl']) := ⟨_, rfl⟩
  rw [← hs5] at so2
  have g25 : s5.get (st.next + 1) = some (.row [.int .i64 k0, .int .i64 n0, sl']) := by rw [hs5, St.get_put, if_pos rfl]
  have lr5 := load_row g25 rfl
  have n3 := k3.1
  have n5 : s5.next = s3.next := by rw [hs5, hs4]; rfl
  have ks5 : Keeps st s5 := by rw [hs5, hs4]; exact ((k2.trans k3).put' _ _ (Nat.le_refl _)).put' _ _ (by omega)
  have sm : Same (fun i => s2.next ≤ i ∧ i < s3.next) s3 s5 := fun i hi => by
    rw [hs5, St.get_put, if_neg (by omega), hs4, St.get_put, if_neg (by omega)]
  have fa2 : faddrA 2 (.ptr st.next 0) = some (.ptr st.next 2) := rfl
  have l2 := ld2 g1
  have hrep : RepT (fun i => st.next ≤ i ∧ i < s5.next) s5 (.mk k0 n0 nl ex l) [.int .i64 k0, .int .i64 n0, sl'] := by
    simp only [RepT]
    exact ⟨sl', xs', rfl, hsl'.mono sm fun i hi => ⟨by omega, by omega⟩, RepTs.mono sm (fun i hi => ⟨by omega, by omega⟩) l xs' hrs'⟩
  obtain ⟨fA1, hA1⟩ : ∃ fA, fA = frOf 0 [.agg [.int .i64 k0, .int .i64 n0, sl]] Fr.nil := ⟨_, rfl⟩
  have gA1_0 : fA1.get 0 = some (.agg [.int .i64 k0, .int .i64 n0, sl]) := by rw [hA1]; simp only [frOf, Fr.get_set, Nat.reduceAdd, Nat.reduceEqDiff, ↓reduceIte]
  have dA1 : fA1.ds = [] := by rw [hA1]; rfl
  obtain ⟨fR2, hR2, kR2, oR2_1, oR2_2⟩ : ∃ fr', arun ((gamT tbl (handX exts) n).cg Y) [⟨(some 1), .box false (.t 0), none⟩, ⟨(some 2), .alloc [(.int .i64 (.ofNat 0)), (.int .i64 (.ofNat 0)), .nilsl], none⟩] fA1 st = .ok fr' s2 ∧ Kp [] fA1 fr' ∧ fr'.get 1 = some (.ptr st.next 0) ∧ fr'.get 2 = some (.ptr (st.next + 1) 0) := by
    refine ⟨?r20, ?r21, ?r22, ?r2o1, ?r2o2⟩
    case r21 =>
      simp only [amE, Nat.reduceEqDiff, ↓reduceIte, reduceCtorEq, Nat.reduceAdd, gA1_0, ← hs2, St.next_new]
      rfl
    case r22 => repeat (first | exact Kp.refl | refine Kp.set (by decide) ?_)
    case r2o1 => simp only [Fr.get_set, Nat.reduceEqDiff, ↓reduceIte]
    case r2o2 => simp only [Fr.get_set, Nat.reduceEqDiff, ↓reduceIte]
  have dR2 := kR2.1.trans dA1
  obtain ⟨fR3, hR3, kR3⟩ : ∃ fr', arun ((gamT tbl (handX exts) n).cg Y) [⟨(some 3), .faddr 2 (.t 1), none⟩, ⟨(some 4), .load false 1 (.t 3), none⟩, ⟨(some 5), .call (.c (.func (.func 75) [] [])) [(.t 4)], none⟩, ⟨(some 6), .faddr 2 (.t 1), none⟩, ⟨none, .store 1 (.t 6) (.t 5), none⟩] fR2 s2 = .ok fr' s4 ∧ Kp [1, 2] fR2 fr' := by
    refine ⟨?r30, ?r31, ?r32⟩
    case r31 =>
      simp only [amE, Nat.reduceEqDiff, ↓reduceIte, reduceCtorEq, Nat.reduceAdd, oR2_1, fa2, l2, c1', so]
      rfl
    case r32 => repeat (first | exact Kp.refl | refine Kp.set (by decide) ?_)
  have gR3_1 := kR3.at (k := 1) (by decide) oR2_1
  have gR3_2 := kR3.at (k := 2) (by decide) oR2_2
  have dR3 := kR3.1.trans dR2
  obtain ⟨fR4, hR4, kR4⟩ : ∃ fr', arun ((gamT tbl (handX exts) n).cg Y) [⟨(some 7), .load true 3 (.t 1), none⟩, ⟨none, .store 3 (.t 2) (.t 7), none⟩] fR3 s4 = .ok fr' s5 ∧ Kp [1, 2] fR3 fr' := by
    refine ⟨?r40, ?r41, ?r42⟩
    case r41 =>
      simp only [amE, Nat.reduceEqDiff, ↓reduceIte, reduceCtorEq, Nat.reduceAdd, gR3_1, gR3_2, lr, so2]
      rfl
    case r42 => repeat (first | exact Kp.refl | refine Kp.set (by decide) ?_)
  have gR4_2 := kR4.at (k := 2) (by decide) gR3_2
  have dR4 := kR4.1.trans dR3
  refine ⟨_, s5, fun_of (mf := kf113) (fr := fR4) (by rw [t113, m113_eq]) rfl (.inl ?q4) dR4 (by simp only [kf113, resultA, ressA, resA, gR4_2, lr5, Option.bind_some, Option.map_some]), ks5, hrep⟩
  case q4 =>
    rw [← hA1]
    simp only [amE, Nat.reduceEqDiff, ↓reduceIte, reduceCtorEq, Nat.reduceAdd, kf113, hR2, hR3, hR4]
theorem ownTerms_run : ∀ (s : Nat) (l : List Tm) (n : Nat) (Y : Yenv), Tm.fzL l + l.length = s → s + 2 < n → shL l = true → l.length ≤ 1000 → OwnTs n Y l := by
  intro s
  induction s using Nat.strongRecOn with
  | _ s ih =>
  intro l n Y hs hn hsh hlen F st sl xs hsl hrs hF
  obtain ⟨m, rfl⟩ : ∃ m, n = m + 2 := ⟨n - 2, by omega⟩
  have hxl := hrs.len
  have hlen := hsl.len st
  obtain ⟨fr0, hfr0, z3, z6, z7, z8, zd⟩ : ∃ fr0, (∀ L T, acode (gamT tbl (handX exts) (m + 1)) Y (m + 1) (.seq (.region [⟨(some 2), .mv (.c .nilsl), none⟩]) (.seq (.region [⟨(some 3), .mv (.c .nilsl), none⟩]) (.seq (.seq (.region [⟨(some 6), .mv (.t 0), none⟩, ⟨(some 7), .len 0 (.t 6), none⟩, ⟨(some 8), .mv (.c (.int .i64 (.ofNat 0))), none⟩]) L) T))) none (frOf 0 [sl] Fr.nil) st = match acode (gamT tbl (handX exts) (m + 1)) Y (m + 1) L none fr0 st with
        | .norm fr st => acode (gamT tbl (handX exts) (m + 1)) Y (m + 1) T none fr st
        | r => r)
      ∧ fr0.get 3 = some .nilsl ∧ fr0.get 6 = some sl ∧ fr0.get 7 = some (.int .i64 (.ofNat xs.length)) ∧ fr0.get 8 = some (.int .i64 (.ofNat 0)) ∧ fr0.ds = [] := by
    refine ⟨?f0, ?f1, ?f2, ?f3, ?f4, ?f5, ?f7⟩
    case f1 =>
      intro L T
      simp only [amE, Nat.reduceEqDiff, ↓reduceIte, reduceCtorEq, Nat.reduceAdd, hlen]
      rfl
    case f2 => simp only [Fr.get_set, Nat.reduceEqDiff, ↓reduceIte]
    case f3 => simp only [Fr.get_set, Nat.reduceEqDiff, ↓reduceIte]
    case f4 => simp only [Fr.get_set, Nat.reduceEqDiff, ↓reduceIte]
    case f5 => simp only [Fr.get_set, ↓reduceIte]
    case f7 => rfl
  have b00 : Nat.beq 0 0 = true := rfl
  have hB : ∀ k fr s, k < xs.length → Kp [6, 7] fr0 fr → fr.get 8 = some (.int .i64 (.ofNat k)) → (Keeps st s ∧ ∃ so xo G, fr.get 3 = some so ∧ xo.length = k ∧ RepTs G s (l.take k) xo ∧ Gr st.next s so xo G) →
      (∃ FR s', acode (gamT tbl (handX exts) (m + 1)) Y (m + 1) bf75_0 none fr s = .norm FR s' ∧ Kp [8, 6, 7] fr FR ∧ (Keeps st s' ∧ ∃ so xo G, FR.get 3 = some so ∧ xo.length = k + 1 ∧ RepTs G s' (l.take (k + 1)) xo ∧ Gr st.next s' so xo G)) ∨
      (∃ FR s', acode (gamT tbl (handX exts) (m + 1)) Y (m + 1) bf75_0 none fr s = .ret FR s' ∧ False) := by
    intro k fr s hk hkp g8 ⟨hks, so, xo, G, q3, hxo, hro, hgr⟩
    obtain ⟨t, ht, hdr⟩ := drop_at (l := l) (k := k) (by omega)
    obtain ⟨x, hx, hrx⟩ := hrs.at ht
    have hsame : Same F st s := Same.of hks hF
    obtain ⟨p, ia, ld⟩ := hsl.at hx
    have ld := ld s hsame
    obtain ⟨s1, sto, ks, go, hnx⟩ := next_el s (zs := [(.int .i64 (.ofNat 0)), (.int .i64 (.ofNat 0)), .nilsl]) rfl hrx.cells3
    have hmem := List.mem_of_getElem? ht
    have hfz := Tm.fzL_mem hmem
    have hF1 : ∀ i, F i → i < s1.next := fun i hi => Nat.lt_of_lt_of_le (hF i hi) (Nat.le_trans hks.1 ks.1)
    have hrx1 := hrx.mono (hsame.trans (Same.of ks fun i hi => Nat.lt_of_lt_of_le (hF i hi) hks.1)) fun _ h => h
    have lx := load_row go hrx.cells3.1
    have htake : l.take (k + 1) = l.take k ++ [t] := by rw [List.take_add_one, ht]; rfl
    have hsht := shL_mem hsh t hmem
    cases t with
    | mk k1 n1 nl1 ex1 l1 =>
    simp only [Tm.fz] at hfz
    obtain ⟨hl8, hsl1⟩ := shT_mk hsht
    obtain ⟨y, s2, hcall, ks2, hry⟩ := ownTerm_of (n := m) (Y := Y) (ih (Tm.fzL l1 + l1.length) (by omega) l1 m Y rfl (by omega) hsl1 (by omega)) F s1 x hrx1 hF1
    have hcall' : ((gamT tbl (handX exts) (m + 1)).cg Y).fn 113 [.agg x] s1 = .ret (.agg y) s2 := hcall
    have hk02 : Keeps s s2 := ks.trans ks2
    obtain ⟨so', s3, happ, hk3, hn3, sG, sG2, hgr'⟩ := hgr.app (bytes := 40) (G2 := fun i => s1.next ≤ i ∧ i < s2.next) hks.1 (by omega) (by omega) hk02 hry.cells3 (fun i hi => ⟨by have := ks.1; omega, hi.2⟩)
    have q6 := hkp.at (k := 6) (by decide) z6
    have q7 := hkp.at (k := 7) (by decide) z7
    have hk03 : Keeps st s3 := ⟨by have := hks.1; have := hk02.1; omega, fun i hi => by
      rw [hk3 i (by have := hks.1; have := hk02.1; omega) (fun e => by
        rcases hgr.2.2 with ⟨e', _⟩ | ⟨id, e', hid, _⟩
        · rw [e'] at e; cases e
        · rw [e'] at e; injection e with e1; omega), hk02.2 i (by have := hks.1; omega), hks.2 i hi]⟩
    have hro' : RepTs (fun i => G i ∨ s1.next ≤ i ∧ i < s2.next) s3 (l.take (k + 1)) (xo ++ [y]) := by
      rw [htake]
      exact RepTs.snoc (RepTs.mono sG (fun i hi => .inl hi) _ _ hro) (hry.mono sG2 fun i hi => .inr hi)
    obtain ⟨ya, yb, yc, rfl⟩ : ∃ a b c, y = [a, b, c] := by
      match y, hry.cells3.1 with
      | [a, b, c], _ => exact ⟨a, b, c, rfl⟩
    have fl : fillA [.int .i64 (.ofNat 0), .int .i64 (.ofNat 0), .nilsl] [(0, 3, .agg [ya, yb, yc])] = some [ya, yb, yc] := rfl
    obtain ⟨fR5, hR5, kR5, oR5_5⟩ : ∃ fr', arun ((gamT tbl (handX exts) (m + 1)).cg Y) [⟨(some 10), .iaddr 3 (.t 6) (.t 8), none⟩, ⟨(some 11), .load true 3 (.t 10), none⟩, ⟨(some 5), .alloc [(.int .i64 (.ofNat 0)), (.int .i64 (.ofNat 0)), .nilsl], none⟩, ⟨none, .store 3 (.t 5) (.t 11), none⟩] fr s = .ok fr' s1 ∧ Kp [3, 6, 7, 8] fr fr' ∧ fr'.get 5 = some (.ptr s.next 0) := by
      refine ⟨?r50, ?r51, ?r52, ?r5o5⟩
      case r51 =>
        simp only [amE, Nat.reduceEqDiff, ↓reduceIte, reduceCtorEq, Nat.reduceAdd, q6, g8, ia, ld, sto]
        rfl
      case r52 => repeat (first | exact Kp.refl | refine Kp.set (by decide) ?_)
      case r5o5 => simp only [Fr.get_set, Nat.reduceEqDiff, ↓reduceIte]
    have gR5_3 := kR5.at (k := 3) (by decide) q3
    obtain ⟨fR6, hR6, kR6, oR6_3⟩ : ∃ fr', arun ((gamT tbl (handX exts) (m + 1)).cg Y) [⟨(some 12), .mv (.t 3), none⟩, ⟨(some 13), .load true 3 (.t 5), none⟩, ⟨(some 14), .call (.c (.func (.func 113) [] [])) [(.t 13)], none⟩, ⟨(some 15), .bslice 1 [(.int .i64 (.ofNat 0)), (.int .i64 (.ofNat 0)), .nilsl] [(0, 3, (.t 14))], none⟩, ⟨(some 16), .append 40 3 none (.t 12) (.t 15), none⟩, ⟨(some 3), .mv (.t 16), none⟩] fR5 s1 = .ok fr' s3 ∧ Kp [6, 7, 8] fR5 fr' ∧ fr'.get 3 = some (so') := by
      refine ⟨?r60, ?r61, ?r62, ?r6o3⟩
      case r61 =>
        simp only [amE, Nat.reduceEqDiff, ↓reduceIte, reduceCtorEq, Nat.reduceAdd, gR5_3, oR5_5, lx, hcall', fl, cnt1, happ, tag0]
        rfl
      case r62 => repeat (first | exact Kp.refl | refine Kp.set (by decide) ?_)
      case r6o3 => simp only [Fr.get_set, Nat.reduceEqDiff, ↓reduceIte]
    refine .inl ⟨fR6, s3, ?q6, (kR5.sub (by decide)).trans (kR6.sub (by decide)), hk03, so', xo ++ [[ya, yb, yc]], _, oR6_3, by simp [hxo], hro', hgr'⟩
    case q6 => simp only [amE, Nat.reduceEqDiff, ↓reduceIte, reduceCtorEq, Nat.reduceAdd, bf75_0, hR5, hR6]
  rcases kloop (Γ := gamT tbl (handX exts) (m + 1)) (Y := Y) (m := m + 1) (N := xs.length) (c := 9) (i := 8) (n := 7) (i2 := 17) (ro := none) (L := [6, 7]) (fr0 := fr0) (by decide) (by decide) (by decide) (by decide) z7 hsl.2.1
    (Q := fun k fr s => Keeps st s ∧ ∃ (so : AV) (xo : List (List AV)) (G : Nat → Prop), fr.get 3 = some so ∧ xo.length = k ∧ RepTs G s (l.take k) xo ∧ Gr st.next s so xo G) (fun k fr s sl v hs ⟨h1, so, xo, G, h4, h5⟩ => ⟨h1, so, xo, G, by rw [Fr.get_set, if_neg (by omega)]; exact h4, h5⟩) hB xs.length 0 fr0 st (m + 1) (by omega) (by omega) Kp.refl z8 ⟨Keeps.refl st, .nilsl, [], _, z3, rfl, by simp only [List.take_zero, RepTs], Gr.nil _ _⟩
    with ⟨FR, s', h1, h2, h3, so, xo, G, h4, h5, h6, h7⟩ | ⟨FR, s', h1, h2⟩
  · rw [hxl, List.take_length] at h6
    refine ⟨so, xo, s', fun_of (mf := kf75) (fr := (FR.set 18 (some so)).set 2 (some so)) (by rw [t75, m75_eq]) rfl (.inl ?w1) (h2.1.trans zd) ?w2, h3, h7.slr (by omega), RepTs.mono (Same.refl _ _) (fun i hi => h7.1 i hi) _ _ h6⟩
    case w1 =>
      refine (hfr0 _ _).trans ?_
      simp only [amE, Nat.reduceEqDiff, ↓reduceIte, reduceCtorEq, Nat.reduceAdd, h1, b00, h4]
    case w2 => simp only [kf75, resultA, ressA, resA, Fr.get_set, ↓reduceIte, Option.bind_some, Option.map_some]
  · exact absurd h2 id
theorem adraw_ok {Γ : Cg} {zs : List (MOper × Nat)} {chk : List (Nat × Option Nat)} {fr frE : Fr} {st stE : St} {its : List DIt} (h : drun Γ zs 0 st.next fr (preA zs st) none = some (its, frE, stE)) (hp : panOf its = none)
    (hc : chk.all (chkB Γ zs its st.next stE) = true) : adraw Γ zs chk fr st = .ok frE stE := by
  unfold adraw
  rw [h]
  simp only [hc, cond_true, hp]
theorem drun_nil {Γ : Cg} {i id : Nat} {fr : Fr} {st : St} {pan : Option Nat} : drun Γ [] i id fr st pan = some ([], fr, st) := rfl
theorem drun_cons {Γ : Cg} {d : Option Nat} {op : MOp} {a : Nat} {zs : List (MOper × Nat)} {i id : Nat} {fr : Fr} {st : St} : drun Γ ((⟨d, op, none⟩, a) :: zs) i id fr st none = match oprD Γ id fr st op with
    | .val v st' => DR.cons (.val fr st v st') (drun Γ zs (i + 1) (nextId id op) (Fr.put fr d v) st' none)
    | .pan v st' => DR.cons (.pan fr st v st') (drun Γ zs (i + 1) (nextId id op) fr st (some i))
    | .stuck => none := by
  conv => lhs; unfold drun
  simp only [deadA, cond_false, wantedA]
  cases oprD Γ id fr st op <;> rfl
theorem fill2 {v : AV} (r : Int) (h : AV.one v = true) : fillA [.int .i64 (.ofNat 0), .nilsl, .nilsl] [(0, 1, .int .i64 r), (1, 1, v)] = some [.int .i64 r, v, .nilsl] := by cases v <;> first | rfl | (simp [AV.one] at h)
theorem chk_of {Γ : Cg} {zs : List (MOper × Nat)} {its : List DIt} {id i k a : Nat} {d : Option Nat} {op : MOp} {stE : St} {fr fr2 : Fr} {s s1 s2 s3 : St} {v v2 : AV} (hz : zs[i]? = some (⟨d, op, none⟩, a)) (hi : its[i]? = some (.val fr s v s1)) (_hg : (none : Option (Nat × Bool)) = none) (hk : its[k]? = some (.val fr2 s2 v2 s3))
    (h : frzLoad op fr = true ∨ ∃ s4, oprD Γ (idAt zs i id) fr s2 op = .val v s4 ∧ avBeq v v = true) : chkB Γ zs its id stE (i, some k) = true := by
  unfold chkB
  simp only [hz, hi, wantedA, hk]
  rcases h with h | ⟨s4, h1, h2⟩
  · rw [h]; rfl
  · simp only [sameAt, h1, h2, Bool.or_true]
theorem Gr.beq {lo : Nat} {s : St} {sl : AV} {xs : List (List AV)} {G : Nat → Prop} (h : Gr lo s sl xs G) : avBeq sl sl = true := by
  rcases h.2.2 with ⟨rfl, _⟩ | ⟨id, rfl, _⟩
  · rfl
  · simp only [avBeq, Nat.beq_refl, onBeq]; rfl
def OwnD (n : Nat) (Y : Yenv) (d : Dv) : Prop := ∀ (F : Nat → Prop) (st : St) (cs : List AV), RepD F st d cs → (∀ i, F i → i < st.next) →
  ∃ cs' st', R n Y 43 [.agg cs] st = .ret (.agg cs') st' ∧ Keeps st st' ∧ RepD (fun i => st.next ≤ i ∧ i < st'.next) st' d cs'
theorem shL_of_all : ∀ {l : List Tm}, l.all gr = true → shL l = true
  | [], _ => shL_nil
  | t :: l, h => by
    simp only [List.all_cons, Bool.and_eq_true] at h
    rw [shL_cons, if_pos (gr_shT h.1)]; exact shL_of_all h.2
theorem good_mk {r : Int} {nv ev nl ex : Bool} {vs : List Tm} {l : List Dv} (h : Dv.good gr (.mk r nv ev vs nl ex l) = true) : 1 ≤ r ∧ r ≤ 19 ∧ l.length = arN r ∧ vs.length ≤ vaN r ∧ shL vs = true ∧ Dv.goodL gr l = true := by
  simp only [Dv.good, Bool.and_eq_true, decide_eq_true_eq, beq_iff_eq] at h
  exact ⟨h.1.1.1.1.1, h.1.1.1.1.2, h.1.1.1.2, h.1.1.2, shL_of_all h.1.2, h.2⟩
theorem goodL_mem : ∀ {l : List Dv}, Dv.goodL gr l = true → ∀ d ∈ l, d.good gr = true
  | [], _, _, hx => by simp at hx
  | t :: l, h, x, hx => by
    simp only [Dv.goodL, Bool.and_eq_true] at h
    rcases List.mem_cons.1 hx with rfl | hx
    · exact h.1
    · exact goodL_mem h.2 x hx
theorem arN_le (r : Int) : arN r ≤ 2 := by unfold arN; split; · omega
                                           split <;> omega
theorem vaN_le (r : Int) : vaN r ≤ 64 := by unfold vaN; split; · omega
                                            split <;> omega
theorem ownDeriv_run (d : Dv) : ∀ (n : Nat) (Y : Yenv), d.fz ≤ n → d.good gr = true → OwnD n Y d := by
  induction hs : d.fz using Nat.strongRecOn generalizing d with
  | _ s ih =>
  intro n Y hn hgood F st cs hr hF
  cases d with
  | mk r nv ev vs nl ex l =>
  obtain ⟨-, -, hlN, hvN, hshv, hgl⟩ := good_mk hgood
  have hl2 := arN_le r
  have hv64 := vaN_le r
  simp only [RepD] at hr
  obtain ⟨sv, xv, sl, xs, rfl, hsv, hrv, hsl, hrl⟩ := hr
  simp only [Dv.fz] at hs
  obtain ⟨m, rfl⟩ : ∃ m, n = m + 1 := ⟨n - 1, by omega⟩
  have hxv := hrv.len
  have hxl := hrl.len
  have b00 : Nat.beq 0 0 = true := rfl
  obtain ⟨s1, hs1⟩ : ∃ s1, s1 = st.new (.row [.int .i64 (.ofNat 0), .nilsl, .nilsl]) := ⟨_, rfl⟩
  obtain ⟨s2, hs2⟩ : ∃ s2, s2 = s1.new (.row [.int .i64 (.ofNat 0), .nilsl, .nilsl]) := ⟨_, rfl⟩
  have n1 : s1.next = st.next + 1 := by rw [hs1]; rfl
  have n2 : s2.next = st.next + 2 := by rw [hs2]; show s1.next + 1 = _; omega
  have ks1 : Keeps st s1 := by rw [hs1]; exact Keeps.new _ _
  have ks2 : Keeps st s2 := by rw [hs2]; exact ks1.trans (Keeps.new _ _)
  have gr1 : s2.get st.next = some (.row [.int .i64 (.ofNat 0), .nilsl, .nilsl]) := by rw [hs2, St.get_new, if_neg (by omega), hs1, St.get_new, if_pos rfl]
  have go2 : s2.get s1.next = some (.row [.int .i64 (.ofNat 0), .nilsl, .nilsl]) := by rw [hs2, St.get_new, if_pos rfl]
  have hF2 : ∀ i, F i → i < s2.next := fun i hi => Nat.lt_of_lt_of_le (hF i hi) ks2.1
  have sm2 : Same F st s2 := Same.of ks2 hF
  obtain ⟨sv', xv', s3, c1, k3, hsv', hrv'⟩ := ownTerms_run _ vs m Y rfl (by omega) hshv (by omega) F s2 sv xv (hsv.mono sm2 fun _ h => h) (RepTs.mono sm2 (fun _ h => h) vs xv hrv) hF2
  have c1' : ((gamT tbl (handX exts) m).cg Y).fn 75 [sv] s2 = .ret sv' s3 := c1
  have go3 := k3.get (i := s1.next) (by omega) go2
  have gr3 := k3.get (i := st.next) (by omega) gr1
  have n3 := k3.1
  have hov := hsv'.one
  have so4 := st3 (x := [.int .i64 r, sv', .nilsl]) go3 rfl ⟨rfl, by show (true && (AV.one sv' && true)) = true; rw [hov]; rfl⟩
  obtain ⟨s4, hs4⟩ : ∃ s4, s4 = s3.put s1.next (.row [.int .i64 r, sv', .nilsl]) := ⟨_, rfl⟩
  rw [← hs4] at so4
  have n4 : s4.next = s3.next := by rw [hs4]; rfl
  have go4 : s4.get s1.next = some (.row [.int .i64 r, sv', .nilsl]) := by rw [hs4, St.get_put, if_pos rfl]
  have gr4 : s4.get st.next = some (.row [.int .i64 (.ofNat 0), .nilsl, .nilsl]) := by rw [hs4, St.get_put, if_neg (by omega)]; exact gr3
  have ks4 : Keeps st s4 := by rw [hs4]; exact (ks2.trans k3).put' _ _ (by omega)
  have smv : Same (fun i => s2.next ≤ i ∧ i < s3.next) s3 s4 := fun i hi => by rw [hs4, St.get_put, if_neg (by omega)]
  have lenl := hsl.len s4
  have zb : avsBeq [.int .i64 (.ofNat 0), .nilsl, .nilsl] [.int .i64 (.ofNat 0), .nilsl, .nilsl] = true := rfl
  have pb : avBeq (.ptr s1.next 0) (.ptr s1.next 0) = true := by simp only [avBeq, Nat.beq_refl, Bool.and_true]
  have fb : fillA [.int .i64 (.ofNat 0), .nilsl, .nilsl] [(0, 1, .int .i64 r), (1, 1, sv')] = some [.int .i64 r, sv', .nilsl] := fill2 r hov
  obtain ⟨fA7, hA7⟩ : ∃ fA, fA = frOf 0 [.agg [.int .i64 r, sv, sl]] Fr.nil := ⟨_, rfl⟩
  have gA7_0 : fA7.get 0 = some (.agg [.int .i64 r, sv, sl]) := by rw [hA7]; simp only [frOf, Fr.get_set, Nat.reduceAdd, Nat.reduceEqDiff, ↓reduceIte]
  have dA7 : fA7.ds = [] := by rw [hA7]; rfl
  obtain ⟨fR8, hR8, kR8, oR8_1, oR8_2⟩ : ∃ fr', arun ((gamT tbl (handX exts) m).cg Y) [⟨(some 1), .box true (.t 0), none⟩, ⟨(some 2), .alloc [(.int .i64 (.ofNat 0)), .nilsl, .nilsl], none⟩] fA7 st = .ok fr' s1 ∧ Kp [] fA7 fr' ∧ fr'.get 1 = some (.fptr [.int .i64 r, sv, sl] 0) ∧ fr'.get 2 = some (.ptr st.next 0) := by
    refine ⟨?r80, ?r81, ?r82, ?r8o1, ?r8o2⟩
    case r81 =>
      simp only [amE, Nat.reduceEqDiff, ↓reduceIte, reduceCtorEq, Nat.reduceAdd, gA7_0, ← hs1]
      rfl
    case r82 => repeat (first | exact Kp.refl | refine Kp.set (by decide) ?_)
    case r8o1 => simp only [Fr.get_set, Nat.reduceEqDiff, ↓reduceIte]
    case r8o2 => simp only [Fr.get_set, Nat.reduceEqDiff, ↓reduceIte]
  have dR8 := kR8.1.trans dA7
  obtain ⟨fR9, hR9, kR9, oR9_3⟩ : ∃ fr', adraw ((gamT tbl (handX exts) m).cg Y) [(⟨(some 6), .faddr 0 (.t 1), none⟩, 0), (⟨(some 7), .load false 1 (.t 6), none⟩, 1), (⟨(some 8), .faddr 1 (.t 1), none⟩, 0), (⟨(some 9), .load false 1 (.t 8), none⟩, 4), (⟨(some 10), .call (.c (.func (.func 75) [] [])) [(.t 9)], none⟩, 12), (⟨(some 11), .build [(.int .i64 (.ofNat 0)), .nilsl, .nilsl] [(0, 1, (.t 7)), (1, 1, (.t 10))], none⟩, 31), (⟨(some 3), .alloc [(.int .i64 (.ofNat 0)), .nilsl, .nilsl], none⟩, 0), (⟨none, .store 3 (.t 3) (.t 11), none⟩, 127)] [(1, some 4), (1, some 7), (6, some 4), (6, some 7)] fR8 s1 = .ok fr' s4 ∧ Kp [1, 2] fR8 fr' ∧ fr'.get 3 = some (.ptr s1.next 0) := by
    refine ⟨?r90, ?r91, ?r92, ?r9o3⟩
    case r91 =>
      refine adraw_ok (its := ?r9i) ?r9x ?r9y ?r9z
      case r9x =>
        simp only [amE, Nat.reduceEqDiff, ↓reduceIte, reduceCtorEq, Nat.reduceAdd, drun_cons, drun_nil, DR.cons, oprD, nextId, preA, oR8_1, faf, ld0f, ld1f, c1', fb, ← hs2, go3, go2, zb, so4]
        rfl
      case r9y => rfl
      case r9z =>
        simp only [List.all_cons, List.all_nil, Bool.and_true, Bool.and_eq_true]
        refine ⟨chk_of (i := 1) (k := 4) rfl rfl rfl rfl ?r9k0, chk_of (i := 1) (k := 7) rfl rfl rfl rfl ?r9k1, chk_of (i := 6) (k := 4) rfl rfl rfl rfl ?r9k2, chk_of (i := 6) (k := 7) rfl rfl rfl rfl ?r9k3⟩
        case r9k0 =>
          left
          simp only [amE, Nat.reduceEqDiff, ↓reduceIte, reduceCtorEq, Nat.reduceAdd, frzLoad, oR8_1, faf, ld0f, ld1f, c1', fb, ← hs2, go3, go2, zb, so4]
        case r9k1 =>
          left
          simp only [amE, Nat.reduceEqDiff, ↓reduceIte, reduceCtorEq, Nat.reduceAdd, frzLoad, oR8_1, faf, ld0f, ld1f, c1', fb, ← hs2, go3, go2, zb, so4]
        case r9k2 =>
          right
          refine ⟨?r9s2, ?r9l2, pb⟩
          case r9l2 =>
            simp only [amE, Nat.reduceEqDiff, ↓reduceIte, reduceCtorEq, Nat.reduceAdd, oprD, idAt, nextId, oR8_1, faf, ld0f, ld1f, c1', fb, ← hs2, go3, go2, zb, so4]
            rfl
        case r9k3 =>
          right
          refine ⟨?r9s3, ?r9l3, pb⟩
          case r9l3 =>
            simp only [amE, Nat.reduceEqDiff, ↓reduceIte, reduceCtorEq, Nat.reduceAdd, oprD, idAt, nextId, oR8_1, faf, ld0f, ld1f, c1', fb, ← hs2, go3, go2, zb, so4]
            rfl
    case r92 => repeat (first | exact Kp.refl | refine Kp.set (by decide) ?_)
    case r9o3 => simp only [Fr.get_set, Nat.reduceEqDiff, ↓reduceIte]
  have gR9_1 := kR9.at (k := 1) (by decide) oR8_1
  have gR9_2 := kR9.at (k := 2) (by decide) oR8_2
  have dR9 := kR9.1.trans dR8
  obtain ⟨fR10, hR10, kR10, oR10_13, oR10_14, oR10_15⟩ : ∃ fr', arun ((gamT tbl (handX exts) m).cg Y) [⟨(some 12), .faddr 2 (.t 1), none⟩, ⟨(some 13), .load false 1 (.t 12), none⟩, ⟨(some 14), .len 0 (.t 13), none⟩, ⟨(some 15), .mv (.c (.int .i64 (.ofNat 0))), none⟩] fR9 s4 = .ok fr' s4 ∧ Kp [2, 3] fR9 fr' ∧ fr'.get 13 = some (sl) ∧ fr'.get 14 = some (.int .i64 (.ofNat xs.length)) ∧ fr'.get 15 = some (.int .i64 (.ofNat 0)) := by
    refine ⟨?r100, ?r101, ?r102, ?r10o13, ?r10o14, ?r10o15⟩
    case r101 =>
      simp only [amE, Nat.reduceEqDiff, ↓reduceIte, reduceCtorEq, Nat.reduceAdd, gR9_1, faf, ld2f, lenl]
      rfl
    case r102 => repeat (first | exact Kp.refl | refine Kp.set (by decide) ?_)
    case r10o13 => simp only [Fr.get_set, Nat.reduceEqDiff, ↓reduceIte]
    case r10o14 => simp only [Fr.get_set, Nat.reduceEqDiff, ↓reduceIte]
    case r10o15 => simp only [Fr.get_set, Nat.reduceEqDiff, ↓reduceIte]
  have gR10_2 := kR10.at (k := 2) (by decide) gR9_2
  have gR10_3 := kR10.at (k := 3) (by decide) oR9_3
  have dR10 := kR10.1.trans dR9
  have Qn : ∀ (k : Nat) (s : St), (Keeps st s ∧ s4.next ≤ s.next ∧ s.get st.next = some (.row [.int .i64 (.ofNat 0), .nilsl, .nilsl]) ∧ ∃ (so : AV) (xo : List (List AV)) (G : Nat → Prop), s.get s1.next = some (.row [.int .i64 r, sv', so]) ∧ Same (fun i => s2.next ≤ i ∧ i < s3.next) s4 s ∧ xo.length = k ∧ RepDs G s (l.take k) xo ∧ Gr s3.next s so xo G) →
      (Keeps st s ∧ s4.next ≤ s.next ∧ s.get st.next = some (.row [.int .i64 (.ofNat 0), .nilsl, .nilsl]) ∧ ∃ (so : AV) (xo : List (List AV)) (G : Nat → Prop), s.get s1.next = some (.row [.int .i64 r, sv', so]) ∧ Same (fun i => s2.next ≤ i ∧ i < s3.next) s4 s ∧ xo.length = k ∧ RepDs G s (l.take k) xo ∧ Gr s3.next s so xo G) := fun _ _ h => h
  have hB : ∀ k fr s, k < xs.length → Kp [2, 3, 13, 14] fR10 fr → fr.get 15 = some (.int .i64 (.ofNat k)) →
      (Keeps st s ∧ s4.next ≤ s.next ∧ s.get st.next = some (.row [.int .i64 (.ofNat 0), .nilsl, .nilsl]) ∧ ∃ (so : AV) (xo : List (List AV)) (G : Nat → Prop), s.get s1.next = some (.row [.int .i64 r, sv', so]) ∧ Same (fun i => s2.next ≤ i ∧ i < s3.next) s4 s ∧ xo.length = k ∧ RepDs G s (l.take k) xo ∧ Gr s3.next s so xo G) →
      (∃ FR s', acode (gamT tbl (handX exts) m) Y m bf43_0 none fr s = .norm FR s' ∧ Kp [15, 2, 3, 13, 14] fr FR ∧ (Keeps st s' ∧ s4.next ≤ s'.next ∧ s'.get st.next = some (.row [.int .i64 (.ofNat 0), .nilsl, .nilsl]) ∧ ∃ (so : AV) (xo : List (List AV)) (G : Nat → Prop), s'.get s1.next = some (.row [.int .i64 r, sv', so]) ∧ Same (fun i => s2.next ≤ i ∧ i < s3.next) s4 s' ∧ xo.length = k + 1 ∧ RepDs G s' (l.take (k + 1)) xo ∧ Gr s3.next s' so xo G)) ∨
      (∃ FR s', acode (gamT tbl (handX exts) m) Y m bf43_0 none fr s = .ret FR s' ∧ False) := by
    intro k fr s hk hkp g15 ⟨hks, hnx4, hgz, so, xo, G, hgo, hsv4, hxo, hro, hgr⟩
    obtain ⟨t, ht, hdr⟩ := drop_at (l := l) (k := k) (by omega)
    obtain ⟨x, hx, hrx⟩ := hrl.at ht
    have hsame : Same F st s := Same.of hks hF
    obtain ⟨p, ia, ld⟩ := hsl.at hx
    have ld := ld s hsame
    obtain ⟨t1, sto, ks, gox, hnx⟩ := next_el s (zs := [(.int .i64 (.ofNat 0)), .nilsl, .nilsl]) rfl hrx.cells3
    have hmem := List.mem_of_getElem? ht
    have hfz := Dv.fzL_mem hmem
    have hF1 : ∀ i, F i → i < t1.next := fun i hi => Nat.lt_of_lt_of_le (hF i hi) (Nat.le_trans hks.1 ks.1)
    have hrx1 := hrx.mono (hsame.trans (Same.of ks fun i hi => Nat.lt_of_lt_of_le (hF i hi) hks.1)) fun _ h => h
    have lx := load_row gox hrx.cells3.1
    have htake : l.take (k + 1) = l.take k ++ [t] := by rw [List.take_add_one, ht]; rfl
    obtain ⟨y, t2, hcall, kt2, hry⟩ := ih t.fz (by omega) t rfl m Y (by omega) (goodL_mem hgl t hmem) F t1 x hrx1 hF1
    have hcall' : ((gamT tbl (handX exts) m).cg Y).fn 43 [.agg x] t1 = .ret (.agg y) t2 := hcall
    have hk02 : Keeps s t2 := ks.trans kt2
    have hle := hks.1
    obtain ⟨so', t3, happ, hk3, hn3, sG, sG2, hgr'⟩ := hgr.app (bytes := 56) (G2 := fun i => t1.next ≤ i ∧ i < t2.next) (by omega) (by omega) (by omega) hk02 hry.cells3 (fun i hi => ⟨by have := ks.1; omega, hi.2⟩)
    have hlow : ∀ i, i < s3.next → t3.get i = s.get i := fun i hi => by
      rw [hk3 i (by have := hk02.1; omega) (fun e => by
          rcases hgr.2.2 with ⟨e', _⟩ | ⟨id, e', hid, _⟩
          · rw [e'] at e; cases e
          · rw [e'] at e; injection e with e1; omega), hk02.2 i (by omega)]
    have hgo1 := ks.get (i := s1.next) (by omega) hgo
    have hgo2 := hk02.get (i := s1.next) (by omega) hgo
    have hgo3 : t3.get s1.next = some (.row [.int .i64 r, sv', so]) := (hlow _ (by omega)).trans hgo
    have lso1 := ld2 hgo1
    have lso2 := ld2 hgo2
    have sto2 := st32 hgo3 hgr'.one
    obtain ⟨t4, ht4⟩ : ∃ t4, t4 = t3.put s1.next (.row [.int .i64 r, sv', so']) := ⟨_, rfl⟩
    rw [← ht4] at sto2
    have fa2 : faddrA 2 (.ptr s1.next 0) = some (.ptr s1.next 2) := rfl
    have bso := hgr.beq
    have q3 := hkp.at (k := 3) (by decide) gR10_3
    have q13 := hkp.at (k := 13) (by decide) oR10_13
    have nt3 : s.next ≤ t3.next := by have := hk02.1; omega
    have nt4 : t4.next = t3.next := by rw [ht4]; rfl
    have hlow4 : ∀ i, i < s3.next → i ≠ s1.next → t4.get i = s.get i := fun i hi hne => by rw [ht4, St.get_put, if_neg hne]; exact hlow i hi
    have hk4 : Keeps st t4 := ⟨by omega, fun i hi => (hlow4 i (by omega) (by omega)).trans (hks.2 i hi)⟩
    have smG : Same (fun i => G i ∨ t1.next ≤ i ∧ i < t2.next) t3 t4 := fun i hi => by
      have : s1.next ≠ i := by
        rcases hi with hi | hi
        · have := (hgr.1 i hi).1; omega
        · have := ks.1; omega
      rw [ht4, St.get_put, if_neg (fun e => this e.symm)]
    have hro' : RepDs (fun i => G i ∨ t1.next ≤ i ∧ i < t2.next) t4 (l.take (k + 1)) (xo ++ [y]) := by
      rw [htake]
      exact RepDs.mono smG (fun _ h => h) _ _ (RepDs.snoc (RepDs.mono sG (fun i hi => .inl hi) _ _ hro) (hry.mono sG2 fun i hi => .inr hi))
    have hgr4 := hgr'.mono (s2 := t4) (by omega) (fun id h1 _ _ _ => by rw [ht4, St.get_put, if_neg (by omega)])
    have hgo4 : t4.get s1.next = some (.row [.int .i64 r, sv', so']) := by rw [ht4, St.get_put, if_pos rfl]
    have smv4 : Same (fun i => s2.next ≤ i ∧ i < s3.next) s4 t4 := fun i hi => (hlow4 i hi.2 (by omega)).trans (hsv4 i hi)
    obtain ⟨ya, yb, yc, rfl⟩ : ∃ a b c, y = [a, b, c] := by
      match y, hry.cells3.1 with
      | [a, b, c], _ => exact ⟨a, b, c, rfl⟩
    have fl : fillA [.int .i64 (.ofNat 0), .nilsl, .nilsl] [(0, 3, .agg [ya, yb, yc])] = some [ya, yb, yc] := rfl
    obtain ⟨fR11, hR11, kR11, oR11_5⟩ : ∃ fr', arun ((gamT tbl (handX exts) m).cg Y) [⟨(some 17), .iaddr 3 (.t 13) (.t 15), none⟩, ⟨(some 18), .load true 3 (.t 17), none⟩, ⟨(some 5), .alloc [(.int .i64 (.ofNat 0)), .nilsl, .nilsl], none⟩, ⟨none, .store 3 (.t 5) (.t 18), none⟩] fr s = .ok fr' t1 ∧ Kp [15, 2, 3, 13, 14] fr fr' ∧ fr'.get 5 = some (.ptr s.next 0) := by
      refine ⟨?r110, ?r111, ?r112, ?r11o5⟩
      case r111 =>
        simp only [amE, Nat.reduceEqDiff, ↓reduceIte, reduceCtorEq, Nat.reduceAdd, q13, g15, ia, ld, sto]
        rfl
      case r112 => repeat (first | exact Kp.refl | refine Kp.set (by decide) ?_)
      case r11o5 => simp only [Fr.get_set, Nat.reduceEqDiff, ↓reduceIte]
    have gR11_3 := kR11.at (k := 3) (by decide) q3
    obtain ⟨fR12, hR12, kR12⟩ : ∃ fr', adraw ((gamT tbl (handX exts) m).cg Y) [(⟨(some 19), .faddr 2 (.t 3), none⟩, 0), (⟨(some 20), .load false 1 (.t 19), none⟩, 1), (⟨(some 21), .load true 3 (.t 5), none⟩, 0), (⟨(some 22), .call (.c (.func (.func 43) [] [])) [(.t 21)], none⟩, 4), (⟨(some 23), .bslice 1 [(.int .i64 (.ofNat 0)), .nilsl, .nilsl] [(0, 3, (.t 22))], none⟩, 12), (⟨(some 24), .append 56 3 none (.t 20) (.t 23), none⟩, 31), (⟨(some 25), .faddr 2 (.t 3), none⟩, 63), (⟨none, .store 1 (.t 25) (.t 24), none⟩, 127)] [(1, some 3), (1, some 5)] fR11 t1 = .ok fr' t4 ∧ Kp [15, 2, 3, 13, 14] fR11 fr' := by
      refine ⟨?r120, ?r121, ?r122⟩
      case r121 =>
        refine adraw_ok (its := ?r12i) ?r12x ?r12y ?r12z
        case r12x =>
          simp only [amE, Nat.reduceEqDiff, ↓reduceIte, reduceCtorEq, Nat.reduceAdd, drun_cons, drun_nil, DR.cons, oprD, nextId, preA, gR11_3, oR11_5, fa2, lso1, lso2, lx, hcall', fl, cnt1, happ, tag0, sto2]
          rfl
        case r12y => rfl
        case r12z =>
          simp only [List.all_cons, List.all_nil, Bool.and_true, Bool.and_eq_true]
          refine ⟨chk_of (i := 1) (k := 3) rfl rfl rfl rfl ?r12k0, chk_of (i := 1) (k := 5) rfl rfl rfl rfl ?r12k1⟩
          case r12k0 =>
            right
            refine ⟨?r12s0, ?r12l0, bso⟩
            case r12l0 =>
              simp only [amE, Nat.reduceEqDiff, ↓reduceIte, reduceCtorEq, Nat.reduceAdd, oprD, gR11_3, oR11_5, fa2, lso1, lso2, lx, hcall', fl, cnt1, happ, tag0, sto2]
              rfl
          case r12k1 =>
            right
            refine ⟨?r12s1, ?r12l1, bso⟩
            case r12l1 =>
              simp only [amE, Nat.reduceEqDiff, ↓reduceIte, reduceCtorEq, Nat.reduceAdd, oprD, gR11_3, oR11_5, fa2, lso1, lso2, lx, hcall', fl, cnt1, happ, tag0, sto2]
              rfl
      case r122 => repeat (first | exact Kp.refl | refine Kp.set (by decide) ?_)
    refine .inl ⟨fR12, t4, ?q12, kR11.trans kR12, hk4, by omega, (hlow4 _ (by omega) (by omega)).trans hgz, so', xo ++ [[ya, yb, yc]], _, hgo4, smv4, by simp [hxo], hro', hgr4⟩
    case q12 => simp only [amE, Nat.reduceEqDiff, ↓reduceIte, reduceCtorEq, Nat.reduceAdd, bf43_0, hR11, hR12]
  rcases kloop (Γ := gamT tbl (handX exts) m) (Y := Y) (m := m) (N := xs.length) (c := 16) (i := 15) (n := 14) (i2 := 26) (ro := none) (L := [2, 3, 13, 14]) (fr0 := fR10) (by decide) (by decide) (by decide) (by decide) oR10_14 hsl.2.1
    (Q := fun k _ s => Keeps st s ∧ s4.next ≤ s.next ∧ s.get st.next = some (.row [.int .i64 (.ofNat 0), .nilsl, .nilsl]) ∧ ∃ (so : AV) (xo : List (List AV)) (G : Nat → Prop), s.get s1.next = some (.row [.int .i64 r, sv', so]) ∧ Same (fun i => s2.next ≤ i ∧ i < s3.next) s4 s ∧ xo.length = k ∧ RepDs G s (l.take k) xo ∧ Gr s3.next s so xo G) (fun _ _ _ _ _ _ h => h) hB xs.length 0 fR10 s4 m (by omega) (by omega) Kp.refl oR10_15
    ⟨ks4, Nat.le_refl _, gr4, .nilsl, [], _, go4, Same.refl _ _, rfl, by simp only [List.take_zero, RepDs], Gr.nil _ _⟩
    with ⟨FR, s', h1, h2, h3, h4, h5, so, xo, G, h6, h7, h8, h9, h10⟩ | ⟨FR, s', h1, h2⟩
  · rw [hxl, List.take_length] at h9
    have lr := load_row h6 rfl
    have hoo := h10.one
    have hx3 : [AV.int .i64 r, sv', so].length = 3 ∧ [AV.int .i64 r, sv', so].all AV.one = true := ⟨rfl, by show (true && (AV.one sv' && (AV.one so && true))) = true; rw [hov, hoo]; rfl⟩
    have sof := st3 h5 rfl hx3
    obtain ⟨s5, hs5⟩ : ∃ s5, s5 = s'.put st.next (.row [.int .i64 r, sv', so]) := ⟨_, rfl⟩
    rw [← hs5] at sof
    have g5 : s5.get st.next = some (.row [.int .i64 r, sv', so]) := by rw [hs5, St.get_put, if_pos rfl]
    have lr5 := load_row g5 rfl
    have n5 : s5.next = s'.next := by rw [hs5]; rfl
    have k5 : Keeps st s5 := by rw [hs5]; exact h3.put' _ _ (Nat.le_refl _)
    have e2 := h2.at (k := 2) (by decide) gR10_2
    have e3 := h2.at (k := 3) (by decide) gR10_3
    have sm5 : ∀ lo, st.next < lo → Same (fun i => lo ≤ i ∧ i < s'.next) s' s5 := fun lo hlo i hi => by rw [hs5, St.get_put, if_neg (by omega)]
    have hrep : RepD (fun i => st.next ≤ i ∧ i < s5.next) s5 (.mk r nv ev vs nl ex l) [.int .i64 r, sv', so] := by
      simp only [RepD]
      have m1 : Same (fun i => s2.next ≤ i ∧ i < s3.next) s3 s5 := (smv.trans h7).trans fun i hi => by rw [hs5, St.get_put, if_neg (by omega)]
      exact ⟨sv', xv', so, xo, rfl, hsv'.mono m1 (fun i hi => ⟨by omega, by omega⟩), RepTs.mono m1 (fun i hi => ⟨by omega, by omega⟩) _ _ hrv',
        (h10.slr (by omega)).mono (sm5 _ (by omega)) (fun i hi => ⟨by omega, by omega⟩), RepDs.mono (fun i hi => by have := h10.1 i hi; rw [hs5, St.get_put, if_neg (by omega)]) (fun i hi => by have := h10.1 i hi; exact ⟨by omega, by omega⟩) _ _ h9⟩
    refine ⟨_, s5, fun_of (mf := kf43) (fr := FR.set 27 (some (.agg [.int .i64 r, sv', so]))) (by rw [t43, m43_eq]) rfl (.inl ?w1) (h2.1.trans dR10) ?w2, k5, hrep⟩
    case w1 =>
      rw [← hA7]
      simp only [amE, Nat.reduceEqDiff, ↓reduceIte, reduceCtorEq, Nat.reduceAdd, kf43, hR8, hR9, hR10, h1, b00, e2, e3, lr, sof]
    case w2 => simp only [kf43, resultA, ressA, resA, Fr.get_set, Nat.reduceEqDiff, ↓reduceIte, e2, lr5, Option.bind_some, Option.map_some]
  · exact absurd h2 id
end Go.AM.D16
set_option maxRecDepth 100000
namespace Go.AM.D16
open Go Go.AM
theorem intBeq_refl (n : Int) : intBeq n n = true := by cases n <;> exact Nat.beq_refl _
theorem bb_refl (b : Bool) : (bif b then b else !b) = true := by cases b <;> rfl
theorem avsBeq_app : ∀ {a b : List AV}, avsBeq a a = true → avsBeq b b = true → avsBeq (a ++ b) (a ++ b) = true
  | [], b, _, h => h
  | x :: a, b, h, k => by
    simp only [avsBeq, Bool.and_eq_true, List.cons_append] at h ⊢
    exact ⟨h.1, avsBeq_app h.2 k⟩
theorem SlR.beq {F : Nat → Prop} {st : St} {sl : AV} {xs : List (List AV)} (h : SlR F st sl xs) (hx : avsBeq xs.flatten xs.flatten = true) : avBeq sl sl = true := by
  rcases h.2.2 with ⟨rfl, _⟩ | ⟨ex, rfl⟩ | ⟨id, cap, lo, rfl, _⟩
  · rfl
  · simp only [avBeq, Nat.beq_refl, bb_refl, hx, Bool.and_true]
  · cases cap <;> simp only [avBeq, Nat.beq_refl, onBeq, Bool.and_true]
mutual
theorem RepT.beq {F : Nat → Prop} {st : St} : ∀ (t : Tm) (cs : List AV), RepT F st t cs → avsBeq cs cs = true
  | .mk k n nl ex l, cs, h => by
    simp only [RepT] at h
    obtain ⟨sl, xs, rfl, h2, h3⟩ := h
    simp only [avsBeq, avBeq, intBeq_refl, h2.beq (RepTs.beq l xs h3), decide_true, Bool.and_true]
theorem RepTs.beq {F : Nat → Prop} {st : St} : ∀ (l : List Tm) (xs : List (List AV)), RepTs F st l xs → avsBeq xs.flatten xs.flatten = true
  | [], xs, h => by simp only [RepTs] at h; subst h; rfl
  | t :: l, xs, h => by
    simp only [RepTs] at h
    obtain ⟨x, ys, rfl, h2, h3⟩ := h
    rw [List.flatten_cons]; exact avsBeq_app (RepT.beq t x h2) (RepTs.beq l ys h3)
end
mutual
theorem RepD.beq {F : Nat → Prop} {st : St} : ∀ (t : Dv) (cs : List AV), RepD F st t cs → avsBeq cs cs = true
  | .mk r nv ev vs nl ex l, cs, h => by
    simp only [RepD] at h
    obtain ⟨s1, x1, s2, x2, rfl, h2, h3, h4, h5⟩ := h
    simp only [avsBeq, avBeq, intBeq_refl, h2.beq (RepTs.beq vs x1 h3), h4.beq (RepDs.beq l x2 h5), decide_true, Bool.and_true]
theorem RepDs.beq {F : Nat → Prop} {st : St} : ∀ (l : List Dv) (xs : List (List AV)), RepDs F st l xs → avsBeq xs.flatten xs.flatten = true
  | [], xs, h => by simp only [RepDs] at h; subst h; rfl
  | t :: l, xs, h => by
    simp only [RepDs] at h
    obtain ⟨x, ys, rfl, h2, h3⟩ := h
    rw [List.flatten_cons]; exact avsBeq_app (RepD.beq t x h2) (RepDs.beq l ys h3)
end
theorem stw1 {st : St} {id : Nat} {x v : AV} (h : st.get id = some (.row [x])) (hv : AV.one v = true) : storeA 1 st (.ptr id 0) v = some (st.put id (.row [v])) := by
  simp only [storeA, h, one_cells hv]
  show (bif (true && (true && (AV.one v && true)) : Bool) then _ else _) = _
  rw [hv]; rfl
def Wy (P : Nat → Prop) (s : St) (sl : AV) (w : Nat) : Prop := (sl = .nilsl ∧ w = 0) ∨ ∃ id cs, sl = .own id 0 w 1 none w ∧ P id ∧ s.get id = some (.row cs) ∧ cs.length = w ∧ 1 ≤ w ∧ cs.all AV.one = true
theorem Wy.mono {P P' : Nat → Prop} {s s' : St} {sl : AV} {w : Nat} (h : Wy P s sl w) (k : Same P s s') (hP : ∀ i, P i → P' i) : Wy P' s' sl w := by
  rcases h with h | ⟨id, cs, h1, h2, h3, h4⟩
  · exact .inl h
  · exact .inr ⟨id, cs, h1, hP _ h2, k.get h2 h3, h4⟩
theorem Wy.len {P : Nat → Prop} {s : St} {sl : AV} {w : Nat} (h : Wy P s sl w) (s' : St) : (bif lenFits 0 sl then lenA s' sl else none) = some (.int .i64 (.ofNat w)) := by
  rcases h with ⟨rfl, rfl⟩ | ⟨id, cs, rfl, _⟩ <;> rfl
def Out (P : Nat → Prop) (o : Nat) (s : St) (sl : AV) (c : Nat) : Prop := (sl = .nilsl ∧ c = 0) ∨ ∃ id cs, sl = .own id 0 c 1 none c ∧ id < s.next ∧ s.get id = some (.row cs) ∧ cs.length = c ∧ ¬ P id ∧ id ≠ o
theorem Out.one {P : Nat → Prop} {o : Nat} {s : St} {sl : AV} {c : Nat} (h : Out P o s sl c) : AV.one sl = true := by
  rcases h with ⟨rfl, _⟩ | ⟨id, cs, rfl, _⟩ <;> rfl
theorem Out.beq {P : Nat → Prop} {o : Nat} {s : St} {sl : AV} {c : Nat} (h : Out P o s sl c) : avBeq sl sl = true := by
  rcases h with ⟨rfl, _⟩ | ⟨id, cs, rfl, _⟩
  · rfl
  · simp only [avBeq, Nat.beq_refl, onBeq, Bool.and_true]
theorem Out.len {P : Nat → Prop} {o : Nat} {s : St} {sl : AV} {c : Nat} (h : Out P o s sl c) (s' : St) : (bif lenFits 0 sl then lenA s' sl else none) = some (.int .i64 (.ofNat c)) := by
  rcases h with ⟨rfl, rfl⟩ | ⟨id, cs, rfl, _⟩ <;> rfl
theorem Out.keep {P P' : Nat → Prop} {o : Nat} {s s' : St} {sl : AV} {c : Nat} (h : Out P o s sl c) (k : Keeps s s') (hP : ∀ i, P' i → P i ∨ s.next ≤ i) : Out P' o s' sl c := by
  rcases h with h | ⟨id, cs, h1, h2, h3, h4, h5, h6⟩
  · exact .inl h
  · exact .inr ⟨id, cs, h1, Nat.lt_of_lt_of_le h2 k.1, k.get h2 h3, h4, fun hp => (hP id hp).elim h5 (fun h => by omega), h6⟩
theorem Out.sub {P P' : Nat → Prop} {o : Nat} {s : St} {sl : AV} {c : Nat} (h : Out P o s sl c) (hP : ∀ i, P' i → P i) : Out P' o s sl c := by
  rcases h with h | ⟨id, cs, h1, h2, h3, h4, h5, h6⟩
  · exact .inl h
  · exact .inr ⟨id, cs, h1, h2, h3, h4, fun hp => h5 (hP id hp), h6⟩
theorem Out.app {P : Nat → Prop} {o : Nat} {s s2 : St} {sl v : AV} {c : Nat} (h : Out P o s sl c) (k : Keeps s s2) (hP : ∀ i, P i → i < s.next) (ho : o < s.next) (hv : AV.one v = true) (hc : c ≤ 100000) :
    ∃ sl' s3, appendA 24 1 s2 sl 1 [v] = some (sl', s3) ∧ s3.next = s2.next + 1 ∧ Same P s s3 ∧ s3.get o = s.get o ∧ Out P o s3 sl' (c + 1) := by
  have hk := k.1
  have hnP : ¬ P s2.next := fun h => by have := hP _ h; omega
  rcases h with ⟨rfl, rfl⟩ | ⟨id, cs, rfl, hid, hg, hcl, hnp, hno⟩
  · refine ⟨.own s2.next 0 1 1 none 1, s2.new (.row [v]), rfl, rfl, fun i hi => ?_, ?_, .inr ⟨s2.next, [v], rfl, by simp, by rw [St.get_new, if_pos rfl], rfl, hnP, by omega⟩⟩
    · have := hP i hi
      rw [St.get_new, if_neg (by omega), k.2 i this]
    · rw [St.get_new, if_neg (by omega), k.2 o ho]
  · have hg2 := k.get hid hg
    refine ⟨.own s2.next 0 (c + 1) 1 none (c + 1), (s2.del id).new (.row (cs ++ [v])), ?_, rfl, fun i hi => ?_, ?_, .inr ⟨s2.next, cs ++ [v], rfl, by simp [St.del, St.new], ?_, by simp [hcl], hnP, by omega⟩⟩
    · have h0 : Nat.beq 1 0 = false := rfl
      have h1 : ((c + 1) * 24).ble 140737488355328 = true := Nat.ble_eq_true_of_le (by omega)
      have h2 : (c + 1).ble 140737488355328 = true := Nat.ble_eq_true_of_le (by omega)
      have h3 : (0 + c * 1).ble cs.length = true := Nat.ble_eq_true_of_le (by omega)
      have h4 : fitsA (c + 1) c none = none := by
        have : (c + 1).ble c = false := by
          cases hc : (c + 1).ble c with
          | false => rfl
          | true => have := Nat.le_of_ble_eq_true hc; omega
        simp only [fitsA, this]; rfl
      have h5 : (c * 1).beq cs.length = true := by rw [hcl, Nat.mul_one]; exact Nat.beq_refl _
      have h6 : [v].all AV.one = true := by show (AV.one v && true) = true; rw [hv]; rfl
      unfold appendA
      simp only [h0, cond_false, hg2, h1, h2, h3, h4, h5, h6]; rfl
    · have := hP i hi
      have hne : i ≠ id := fun e => hnp (e ▸ hi)
      rw [St.get_new, if_neg (by simp only [St.next_del]; omega), St.get_del, if_neg hne, k.2 i this]
    · rw [St.get_new, if_neg (by simp only [St.next_del]; omega), St.get_del, if_neg (fun e => hno e.symm), k.2 o ho]
    · have : (s2.del id).next = s2.next := rfl
      rw [← this, St.get_new, if_pos rfl]
theorem Wy.app {P : Nat → Prop} {s : St} {sl : AV} {w : Nat} (h : Wy P s sl w) (k : Int) (hw : w ≤ 100000) :
    ∃ sl1 sl2 s2, sliceA 1 sl none (some (.int .i64 (.ofNat w))) (some (.int .i64 (.ofNat w))) = some sl1 ∧ appendA 8 1 s sl1 1 [.int .i64 k] = some (sl2, s2) ∧ Keeps s s2 ∧ s2.next = s.next + 1 ∧ Wy (fun i => i = s.next) s2 sl2 (w + 1) := by
  rcases h with ⟨rfl, rfl⟩ | ⟨id, cs, rfl, hp, hg, hcl, hw1, hone⟩
  · exact ⟨.nilsl, .own s.next 0 1 1 none 1, s.new (.row [.int .i64 k]), rfl, rfl, Keeps.new _ _, rfl, .inr ⟨s.next, [.int .i64 k], rfl, rfl, by rw [St.get_new, if_pos rfl], rfl, by omega, rfl⟩⟩
  · refine ⟨.own id 0 w 1 (some w) 0, .own s.next 0 (w + 1) 1 none (w + 1), s.new (.row (cs ++ [.int .i64 k])), ?_, ?_, Keeps.new _ _, rfl, .inr ⟨s.next, cs ++ [.int .i64 k], rfl, rfl, by rw [St.get_new, if_pos rfl], by simp [hcl], by omega, by simp [hone, AV.one]⟩⟩
    · have h1 : w.ble w = true := Nat.ble_eq_true_of_le (Nat.le_refl w)
      have h0 : Nat.ble 0 w = true := Nat.ble_eq_true_of_le (Nat.zero_le w)
      show sliceN 1 (.own id 0 w 1 none w) none (some w) (some w) = _
      simp only [sliceN, Option.getD_none, Option.getD_some, h1, h0, Option.isSome_some, Nat.zero_mul, Nat.sub_zero]
      rfl
    · have h0 : Nat.beq 1 0 = false := rfl
      have h1 : ((w + 1) * 8).ble 140737488355328 = true := Nat.ble_eq_true_of_le (by omega)
      have h2 : (w + 1).ble 140737488355328 = true := Nat.ble_eq_true_of_le (by omega)
      have h3 : (0 + w * 1).ble cs.length = true := Nat.ble_eq_true_of_le (by omega)
      have h4 : fitsA (w + 1) 0 (some w) = some false := by
        have : (w + 1).ble w = false := by
          cases hc : (w + 1).ble w with
          | false => rfl
          | true => have := Nat.le_of_ble_eq_true hc; omega
        simp only [fitsA, this]
      have h6 : [AV.int .i64 k].all AV.one = true := rfl
      have h7 : (cs.drop 0).take (w * 1) = cs := by rw [List.drop_zero, List.take_of_length_le (by omega)]
      unfold appendA
      simp only [h0, cond_false, hg, h1, h2, h3, h4, h6, h7]; rfl
noncomputable def kf45 : MFunc := ⟨8, (.seq (.region [⟨(some 2), .mv (.c .nilsl), none⟩])
 (.seq (.seq (.region [⟨(some 3), .mv (.t 0), none⟩, ⟨(some 4), .eqnil 1 false .eql (.t 3) (.c .nilsl), none⟩])
 (.cond (.t 4)
 (.seq (.region [⟨(some 2), .mv (.c .nilsl), none⟩])
 .ret)
 .skip))
 (.seq (.region [⟨(some 5), .bslice 0 [] [], none⟩, ⟨(some 6), .mv (.t 0), none⟩, ⟨(some 7), .append 8 1 none (.t 5) (.t 6), none⟩, ⟨(some 2), .mv (.t 7), none⟩])
 .ret))), [.t 2]⟩
theorem m45_eq : m45 = kf45 := by kernel_rfl
theorem t45 : tbl 45 = some m45 := by kernel_rfl
noncomputable def bf44_0 : MCode := (.seq (.region [⟨(some 22), .mv (.t 20), none⟩, ⟨(some 23), .iaddr 3 (.t 18) (.t 20), none⟩, ⟨(some 24), .load true 3 (.t 23), none⟩, ⟨(some 7), .alloc [(.int .i64 (.ofNat 0)), .nilsl, .nilsl], none⟩, ⟨(some 6), .mv (.t 22), none⟩, ⟨none, .store 3 (.t 7) (.t 24), none⟩])
 (.draw [(⟨(some 25), .load false 1 (.t 3), none⟩, 0), (⟨(some 26), .load true 3 (.t 7), none⟩, 0), (⟨(some 27), .mv (.t 1), none⟩, 0), (⟨(some 28), .mv (.t 1), none⟩, 0), (⟨(some 29), .len 0 (.t 28), none⟩, 8), (⟨(some 30), .mv (.t 1), none⟩, 0), (⟨(some 31), .len 0 (.t 30), none⟩, 32), (⟨(some 32), .slice 1 (.t 27) none (some (.t 29)) (some (.t 31)), none⟩, 124), (⟨(some 33), .mv (.t 6), none⟩, 0), (⟨(some 34), .bslice 1 [(.int .i64 (.ofNat 0))] [(0, 1, (.t 33))], none⟩, 256), (⟨(some 35), .append 8 1 none (.t 32) (.t 34), none⟩, 1020), (⟨(some 36), .call (.t 25) [(.t 26), (.t 35)], none⟩, 2047)] [(0, some 10), (0, some 11), (1, some 10), (1, some 11)]))
noncomputable def kf44 : MFunc := ⟨38, (.seq (.region [⟨(some 4), .box true (.t 0), none⟩])
 (.seq (.seq (.region [⟨(some 8), .faddr 2 (.t 4), none⟩, ⟨(some 9), .load false 1 (.t 8), none⟩, ⟨(some 10), .len 0 (.t 9), none⟩, ⟨(some 11), .bin false .eql (.t 10) (.c (.int .i64 (.ofNat 0))), none⟩])
 (.cond (.t 11)
 (.draw [(⟨(some 12), .load false 1 (.t 2), none⟩, 0), (⟨(some 13), .mv (.t 1), none⟩, 0), (⟨(some 14), .call (.c (.func (.func 45) [] [])) [(.t 13)], none⟩, 2), (⟨(some 15), .bslice 1 [.nilsl] [(0, 1, (.t 14))], none⟩, 6), (⟨(some 16), .append 24 1 none (.t 12) (.t 15), none⟩, 15), (⟨none, .store 1 (.t 2) (.t 16), none⟩, 31)] [(0, some 2), (0, some 4)])
 .skip))
 (.seq (.region [⟨(some 17), .faddr 2 (.t 4), none⟩, ⟨(some 18), .load false 1 (.t 17), none⟩, ⟨(some 19), .len 0 (.t 18), none⟩, ⟨(some 20), .mv (.c (.int .i64 (.ofNat 0))), none⟩])
 (.block 0 (.loop (lb 21 20 19 37 bf44_0)))))), []⟩
theorem m44_eq : m44 = kf44 := by kernel_rfl
theorem t44 : tbl 44 = some m44 := by kernel_rfl
noncomputable def kf12 : MFunc := ⟨14, (.seq (.region [⟨(some 1), .box true (.t 0), none⟩, ⟨(some 2), .mv (.c .nilsl), none⟩, ⟨(some 3), .mv (.c (.int .i64 (.ofNat 0))), none⟩])
 (.seq (.seq (.region [⟨(some 6), .load true 3 (.t 1), none⟩, ⟨(some 7), .call (.c (.func (.func 41) [] [])) [(.t 6)], none⟩, ⟨(some 8), .un .not (.t 7), none⟩])
 (.cond (.t 8)
 (.seq (.region [⟨(some 2), .mv (.c .nilsl), none⟩, ⟨(some 3), .mv (.c (.int .i64 (.ofNat 160))), none⟩])
 .ret)
 .skip))
 (.seq (.region [⟨(some 4), .alloc [.nilsl], none⟩])
 (.seq (.region [⟨(some 5), .alloc [.nilfn], none⟩])
 (.seq (.region [⟨(some 9), .mkfn 44 [] [(.t 4), (.t 5)], none⟩, ⟨none, .store 1 (.t 5) (.t 9), none⟩])
 (.seq (.region [⟨(some 10), .load false 1 (.t 5), none⟩, ⟨(some 11), .load true 3 (.t 1), none⟩, ⟨(some 12), .call (.t 10) [(.t 11), (.c .nilsl)], none⟩])
 (.seq (.region [⟨(some 13), .load false 1 (.t 4), none⟩, ⟨(some 2), .mv (.t 13), none⟩, ⟨(some 3), .mv (.c (.int .i64 (.ofNat 0))), none⟩])
 .ret))))))), [.t 2, .t 3]⟩
theorem m12_eq : m12 = kf12 := by kernel_rfl
theorem t12 : tbl 12 = some m12 := by kernel_rfl
theorem clone_run {P : Nat → Prop} {st : St} {sl : AV} {w : Nat} (h : Wy P st sl w) (n : Nat) (Y : Yenv) (hw : w ≤ 100000) : ∃ v st', R (n + 1) Y 45 [sl] st = .ret v st' ∧ Keeps st st' ∧ AV.one v = true := by
  have b00 : Nat.beq 0 0 = true := rfl
  rcases h with ⟨rfl, rfl⟩ | ⟨id, cs, rfl, hp, hg, hcl, hw1, hone⟩
  · refine ⟨.nilsl, st, fun_of (mf := kf45) (fr := ?a0) (by rw [t45, m45_eq]) rfl (.inl ?a1) ?a2 ?a3, Keeps.refl st, rfl⟩
    case a1 =>
      have e : eqNilA 1 .eql .nilsl .nilsl = some (.bool true) := rfl
      simp only [amE, Nat.reduceEqDiff, ↓reduceIte, reduceCtorEq, Nat.reduceAdd, kf45, e]
      rfl
    case a2 => rfl
    case a3 => simp only [kf45, resultA, ressA, resA, Fr.get_set, Nat.reduceEqDiff, ↓reduceIte, Option.bind_some, Option.map_some]
  · refine ⟨.own st.next 0 (0 + w) 1 none (0 + w), st.new (.row ([] ++ cs)), fun_of (mf := kf45) (fr := ?b0) (by rw [t45, m45_eq]) rfl (.inl ?b1) ?b2 ?b3, Keeps.new _ _, rfl⟩
    case b1 =>
      have e : eqNilA 1 .eql (.own id 0 w 1 none w) .nilsl = some (.bool false) := rfl
      have c1 : contentA 1 st (.own id 0 w 1 none w) = some (w, cs) := by
        simp only [contentA, hg]
        have h1 : (0 + w * 1).ble cs.length = true := Nat.ble_eq_true_of_le (by omega)
        rw [h1, List.drop_zero, List.take_of_length_le (by omega)]; rfl
      have a1 : appendA 8 1 st (.lst 0 [] true) w cs = some (.own st.next 0 (0 + w) 1 none (0 + w), st.new (.row ([] ++ cs))) := by
        have h0 : w.beq 0 = false := by
          cases w with
          | zero => omega
          | succ w => rfl
        have h1 : ((0 + w) * 8).ble 140737488355328 = true := Nat.ble_eq_true_of_le (by omega)
        have h2 : (0 + w).ble 140737488355328 = true := Nat.ble_eq_true_of_le (by omega)
        unfold appendA
        simp only [h0, cond_false, h1, h2]; rfl
      have fl : fillA [] [] = some [] := rfl
      simp only [amE, Nat.reduceEqDiff, ↓reduceIte, reduceCtorEq, Nat.reduceAdd, kf45, e, c1, a1, fl, tag0]
      rfl
    case b2 => rfl
    case b3 => simp only [kf45, resultA, ressA, resA, Fr.get_set, Nat.reduceEqDiff, ↓reduceIte, Option.bind_some, Option.map_some]
end Go.AM.D16
set_option maxRecDepth 100000
namespace Go.AM.D16
open Go Go.AM
theorem seq_reg {Γ : Gam} {Y : Yenv} {n : Nat} {ms : List MOper} {b : MCode} {ro : Option Nat} {fr fr' : Fr} {st st' : St} (h : arun (Γ.cg Y) ms fr st = .ok fr' st') : acode Γ Y n (.seq (.region ms) b) ro fr st = acode Γ Y n b ro fr' st' := by
  conv => lhs; unfold acode
  have : acode Γ Y n (.region ms) ro fr st = .norm fr' st' := by unfold acode; rw [h]
  rw [this]
theorem seq_reg2 {Γ : Gam} {Y : Yenv} {n : Nat} {ms : List MOper} {a b : MCode} {ro : Option Nat} {fr fr' fr2 : Fr} {st st' st2 : St} (h : arun (Γ.cg Y) ms fr st = .ok fr' st') (k : acode Γ Y n a ro fr' st' = .norm fr2 st2) : acode Γ Y n (.seq (.seq (.region ms) a) b) ro fr st = acode Γ Y n b ro fr2 st2 := by
  conv => lhs; unfold acode
  rw [seq_reg h, k]
theorem leavesL_nil : Dv.leavesL [] = 0 := by unfold Dv.leavesL; rfl
theorem leavesL_snoc : ∀ (l : List Dv) (d : Dv), Dv.leavesL (l ++ [d]) = Dv.leavesL l + d.leaves
  | [], d => by simp [Dv.leavesL]
  | x :: l, d => by simp only [List.cons_append, Dv.leavesL, leavesL_snoc l d]; omega
theorem leavesL_take : ∀ (l : List Dv) (k : Nat), Dv.leavesL (l.take k) ≤ Dv.leavesL l
  | [], k => by simp
  | x :: l, 0 => by simp [Dv.leavesL]
  | x :: l, k + 1 => by simp only [List.take_succ_cons, Dv.leavesL]; have := leavesL_take l k; omega
theorem depthL_mem : ∀ {l : List Dv} {d : Dv}, d ∈ l → d.depth ≤ Dv.depthL l
  | x :: l, d, h => by
    rw [depthL_max]
    rcases List.mem_cons.1 h with rfl | h
    · split <;> omega
    · have := depthL_mem h; split <;> omega
theorem visit_run (d : Dv) : ∀ (n : Nat) (Y : Yenv) (F P : Nat → Prop) (st : St) (cs : List AV) (way so : AV) (w o v c : Nat), RepD F st d cs → (∀ i, F i → P i) → (∀ i, P i → i < st.next) → P v → ¬ P o → o < st.next →
    Wy P st way w → st.get o = some (.row [so]) → Out P o st so c → st.get v = some (.row [.func (.func 44) [] [.ptr o 0, .ptr v 0]]) → c + d.leaves ≤ 90000 → w + d.depth ≤ 90000 → d.fz ≤ n →
    ∃ so' st', R n Y 44 [.agg cs, way, .ptr o 0, .ptr v 0] st = .ret (.tuple []) st' ∧ st.next ≤ st'.next ∧ Same P st st' ∧ st'.get o = some (.row [so']) ∧ Out P o st' so' (c + d.leaves) := by
  induction hs : d.fz using Nat.strongRecOn generalizing d with
  | _ s ih =>
  intro n Y F P st cs way so w o v c hr hFP hP hv ho hol hway hgo hout hgv hc hw hn
  cases d with
  | mk r nv ev vs nl ex l =>
  simp only [RepD] at hr
  obtain ⟨sv, xv, sl, xs, rfl, hsv, hrv, hsl, hrl⟩ := hr
  simp only [Dv.fz] at hs
  obtain ⟨m, rfl⟩ : ∃ m, n = m + 1 := ⟨n - 1, by omega⟩
  have hxl := hrl.len
  have b00 : Nat.beq 0 0 = true := rfl
  have hF : ∀ i, F i → i < st.next := fun i hi => hP i (hFP i hi)
  have hlen := hsl.len st
  have hw' : w + (Dv.depthL l + 1) ≤ 90000 := by simpa only [Dv.depth] using hw
  have hlv : Dv.leaves (.mk r nv ev vs nl ex l) = (if l.length = 0 then 1 else Dv.leavesL l) := by conv => lhs; unfold Dv.leaves
  rw [hlv] at hc
  -- the leaf itself
  obtain ⟨c0, hc0⟩ : ∃ c0, c0 = c + (if l.length = 0 then 1 else 0) := ⟨_, rfl⟩
  have hc1 : c + (if l.length = 0 then 1 else Dv.leavesL l) = c0 + Dv.leavesL l := by
    rw [hc0]
    by_cases h : l.length = 0
    · have : l = [] := List.eq_nil_of_length_eq_zero h
      subst this; simp [leavesL_nil]
    · rw [if_neg h, if_neg h]; omega
  rw [hlv, hc1]
  rw [hc1] at hc
  obtain ⟨cl, sc, hcl, kcl, hclo⟩ := clone_run hway (m - 1) Y (by omega)
  have hm1 : m - 1 + 1 = m := by omega
  rw [hm1] at hcl
  have hcl' : ((gamT tbl (handX exts) m).cg Y).fn 45 [way] st = .ret cl sc := hcl
  have lso := ld0 hgo
  have hgoc := kcl.get hol hgo
  have lsoc := ld0 hgoc
  have bso := hout.beq
  have eq0 : binB false .eql (.int .i64 (.ofNat xs.length)) (.int .i64 (.ofNat 0)) = some (.bool (decide (l.length = 0))) := by
    rw [hxl]
    show some (AV.bool (Int.ofNat l.length == Int.ofNat 0)) = _
    congr 2
    by_cases h : l.length = 0
    · rw [h]; rfl
    · rw [decide_eq_false h]; simp; exact fun e => h (by rw [e]; rfl)
  obtain ⟨fA1, hA1⟩ : ∃ fA, fA = frOf 0 [.agg [.int .i64 r, sv, sl], way, .ptr o 0, .ptr v 0] Fr.nil := ⟨_, rfl⟩
  have gA1_0 : fA1.get 0 = some (.agg [.int .i64 r, sv, sl]) := by rw [hA1]; simp only [frOf, Fr.get_set, Nat.reduceAdd, Nat.reduceEqDiff, ↓reduceIte]
  have gA1_1 : fA1.get 1 = some (way) := by rw [hA1]; simp only [frOf, Fr.get_set, Nat.reduceAdd, Nat.reduceEqDiff, ↓reduceIte]
  have gA1_2 : fA1.get 2 = some (.ptr o 0) := by rw [hA1]; simp only [frOf, Fr.get_set, Nat.reduceAdd, Nat.reduceEqDiff, ↓reduceIte]
  have gA1_3 : fA1.get 3 = some (.ptr v 0) := by rw [hA1]; simp only [frOf, Fr.get_set, Nat.reduceAdd, Nat.reduceEqDiff, ↓reduceIte]
  have dA1 : fA1.ds = [] := by rw [hA1]; rfl
  obtain ⟨fR2, hR2, kR2, oR2_4⟩ : ∃ fr', arun ((gamT tbl (handX exts) m).cg Y) [⟨(some 4), .box true (.t 0), none⟩] fA1 st = .ok fr' st ∧ Kp [0, 1, 2, 3] fA1 fr' ∧ fr'.get 4 = some (.fptr [.int .i64 r, sv, sl] 0) := by
    refine ⟨?r20, ?r21, ?r22, ?r2o4⟩
    case r21 =>
      simp only [amE, Nat.reduceEqDiff, ↓reduceIte, reduceCtorEq, Nat.reduceAdd, gA1_0]
      rfl
    case r22 => repeat (first | exact Kp.refl | refine Kp.set (by decide) ?_)
    case r2o4 => simp only [Fr.get_set, Nat.reduceEqDiff, ↓reduceIte]
  have gR2_1 := kR2.at (k := 1) (by decide) gA1_1
  have gR2_2 := kR2.at (k := 2) (by decide) gA1_2
  have gR2_3 := kR2.at (k := 3) (by decide) gA1_3
  have dR2 := kR2.1.trans dA1
  obtain ⟨fR3, hR3, kR3, oR3_11⟩ : ∃ fr', arun ((gamT tbl (handX exts) m).cg Y) [⟨(some 8), .faddr 2 (.t 4), none⟩, ⟨(some 9), .load false 1 (.t 8), none⟩, ⟨(some 10), .len 0 (.t 9), none⟩, ⟨(some 11), .bin false .eql (.t 10) (.c (.int .i64 (.ofNat 0))), none⟩] fR2 st = .ok fr' st ∧ Kp [1, 2, 3, 4] fR2 fr' ∧ fr'.get 11 = some (.bool (decide (l.length = 0))) := by
    refine ⟨?r30, ?r31, ?r32, ?r3o11⟩
    case r31 =>
      simp only [amE, Nat.reduceEqDiff, ↓reduceIte, reduceCtorEq, Nat.reduceAdd, oR2_4, faf, ld2f, hlen, eq0]
      rfl
    case r32 => repeat (first | exact Kp.refl | refine Kp.set (by decide) ?_)
    case r3o11 => simp only [Fr.get_set, Nat.reduceEqDiff, ↓reduceIte]
  have gR3_1 := kR3.at (k := 1) (by decide) gR2_1
  have gR3_2 := kR3.at (k := 2) (by decide) gR2_2
  have gR3_3 := kR3.at (k := 3) (by decide) gR2_3
  have gR3_4 := kR3.at (k := 4) (by decide) oR2_4
  have dR3 := kR3.1.trans dR2
  obtain ⟨fD, sD, soD, hD, kD, nD, smD, gD, oD⟩ : ∃ fD sD soD, acode (gamT tbl (handX exts) m) Y m (.cond (.t 11) (.draw [(⟨(some 12), .load false 1 (.t 2), none⟩, 0), (⟨(some 13), .mv (.t 1), none⟩, 0), (⟨(some 14), .call (.c (.func (.func 45) [] [])) [(.t 13)], none⟩, 2), (⟨(some 15), .bslice 1 [.nilsl] [(0, 1, (.t 14))], none⟩, 6), (⟨(some 16), .append 24 1 none (.t 12) (.t 15), none⟩, 15), (⟨none, .store 1 (.t 2) (.t 16), none⟩, 31)] [(0, some 2), (0, some 4)]) .skip) none fR3 st = .norm fD sD ∧ Kp [1, 2, 3, 4] fR3 fD ∧ st.next ≤ sD.next ∧ Same P st sD ∧ sD.get o = some (.row [soD]) ∧ Out P o sD soD c0 := by
    generalize hB : decide (l.length = 0) = B at *
    cases B with
    | true =>
      have hl0 : l.length = 0 := of_decide_eq_true hB
      have hc2 : c0 = c + 1 := by rw [hc0, if_pos hl0]
      obtain ⟨so1, s3, happ, hn3, sm3, hgo3, hout3⟩ := hout.app kcl hP hol hclo (by omega)
      have sto := stw1 (hgo3.trans hgo) hout3.one
      obtain ⟨s4, hs4⟩ : ∃ s4, s4 = s3.put o (.row [so1]) := ⟨_, rfl⟩
      rw [← hs4] at sto
      have fl : fillA [.nilsl] [(0, 1, cl)] = some [cl] := by cases cl <;> first | rfl | (simp [AV.one] at hclo)
      have ct : contentA 1 sc (.lst 1 [cl] true) = some (1, [cl]) := rfl
      obtain ⟨fR4, hR4, kR4⟩ : ∃ fr', adraw ((gamT tbl (handX exts) m).cg Y) [(⟨(some 12), .load false 1 (.t 2), none⟩, 0), (⟨(some 13), .mv (.t 1), none⟩, 0), (⟨(some 14), .call (.c (.func (.func 45) [] [])) [(.t 13)], none⟩, 2), (⟨(some 15), .bslice 1 [.nilsl] [(0, 1, (.t 14))], none⟩, 6), (⟨(some 16), .append 24 1 none (.t 12) (.t 15), none⟩, 15), (⟨none, .store 1 (.t 2) (.t 16), none⟩, 31)] [(0, some 2), (0, some 4)] fR3 st = .ok fr' s4 ∧ Kp [1, 2, 3, 4] fR3 fr' := by
        refine ⟨?r40, ?r41, ?r42⟩
        case r41 =>
          refine adraw_ok (its := ?r4i) ?r4x ?r4y ?r4z
          case r4x =>
            simp only [amE, Nat.reduceEqDiff, ↓reduceIte, reduceCtorEq, Nat.reduceAdd, drun_cons, drun_nil, DR.cons, oprD, nextId, preA, gR3_1, gR3_2, lso, lsoc, hcl', fl, ct, happ, tag0, sto]
            rfl
          case r4y => rfl
          case r4z =>
            simp only [List.all_cons, List.all_nil, Bool.and_true, Bool.and_eq_true]
            refine ⟨chk_of (i := 0) (k := 2) rfl rfl rfl rfl ?r4k0, chk_of (i := 0) (k := 4) rfl rfl rfl rfl ?r4k1⟩
            case r4k0 =>
              right
              refine ⟨?r4s0, ?r4l0, bso⟩
              case r4l0 =>
                simp only [amE, Nat.reduceEqDiff, ↓reduceIte, reduceCtorEq, Nat.reduceAdd, oprD, gR3_1, gR3_2, lso, lsoc, hcl', fl, ct, happ, tag0, sto]
                rfl
            case r4k1 =>
              right
              refine ⟨?r4s1, ?r4l1, bso⟩
              case r4l1 =>
                simp only [amE, Nat.reduceEqDiff, ↓reduceIte, reduceCtorEq, Nat.reduceAdd, oprD, gR3_1, gR3_2, lso, lsoc, hcl', fl, ct, happ, tag0, sto]
                rfl
        case r42 => repeat (first | exact Kp.refl | refine Kp.set (by decide) ?_)
      refine ⟨fR4, s4, so1, ?d4, kR4, by rw [hs4]; show st.next ≤ s3.next; have := kcl.1; omega, fun i hi => by rw [hs4, St.get_put, if_neg (fun e : i = o => ho (e ▸ hi))]; exact sm3 i hi, by rw [hs4, St.get_put, if_pos rfl], ?e4⟩
      case d4 => simp only [amE, Nat.reduceEqDiff, ↓reduceIte, reduceCtorEq, Nat.reduceAdd, oR3_11, hR4]
      case e4 =>
        rw [hc2]
        rcases hout3 with h | ⟨id, cs', h1, h2, h3, h4, h5, h6⟩
        · exact .inl h
        · exact .inr ⟨id, cs', h1, by rw [hs4]; exact h2, by rw [hs4, St.get_put, if_neg h6]; exact h3, h4, h5, h6⟩
    | false =>
      have hl0 : ¬ l.length = 0 := of_decide_eq_false hB
      have hc2 : c0 = c := by rw [hc0, if_neg hl0]; rfl
      refine ⟨fR3, st, so, ?dd, Kp.refl, Nat.le_refl _, Same.refl _ _, hgo, by rw [hc2]; exact hout⟩
      case dd => simp only [amE, Nat.reduceEqDiff, ↓reduceIte, reduceCtorEq, Nat.reduceAdd, oR3_11]
  have xD1 := kD.at (k := 1) (by decide) gR3_1
  have xD2 := kD.at (k := 2) (by decide) gR3_2
  have xD3 := kD.at (k := 3) (by decide) gR3_3
  have xD4 := kD.at (k := 4) (by decide) gR3_4
  have dD := kD.1.trans dR3
  have hlenD := hsl.len sD
  have hPD : ∀ i, P i → i < sD.next := fun i hi => Nat.lt_of_lt_of_le (hP i hi) nD
  have hsameD : Same F st sD := fun i hi => smD i (hFP i hi)
  obtain ⟨fR5, hR5, kR5, oR5_18, oR5_19, oR5_20⟩ : ∃ fr', arun ((gamT tbl (handX exts) m).cg Y) [⟨(some 17), .faddr 2 (.t 4), none⟩, ⟨(some 18), .load false 1 (.t 17), none⟩, ⟨(some 19), .len 0 (.t 18), none⟩, ⟨(some 20), .mv (.c (.int .i64 (.ofNat 0))), none⟩] fD sD = .ok fr' sD ∧ Kp [1, 2, 3] fD fr' ∧ fr'.get 18 = some (sl) ∧ fr'.get 19 = some (.int .i64 (.ofNat xs.length)) ∧ fr'.get 20 = some (.int .i64 (.ofNat 0)) := by
    refine ⟨?r50, ?r51, ?r52, ?r5o18, ?r5o19, ?r5o20⟩
    case r51 =>
      simp only [amE, Nat.reduceEqDiff, ↓reduceIte, reduceCtorEq, Nat.reduceAdd, xD4, faf, ld2f, hlenD]
      rfl
    case r52 => repeat (first | exact Kp.refl | refine Kp.set (by decide) ?_)
    case r5o18 => simp only [Fr.get_set, Nat.reduceEqDiff, ↓reduceIte]
    case r5o19 => simp only [Fr.get_set, Nat.reduceEqDiff, ↓reduceIte]
    case r5o20 => simp only [Fr.get_set, Nat.reduceEqDiff, ↓reduceIte]
  have gR5_1 := kR5.at (k := 1) (by decide) xD1
  have gR5_2 := kR5.at (k := 2) (by decide) xD2
  have gR5_3 := kR5.at (k := 3) (by decide) xD3
  have dR5 := kR5.1.trans dD
  have hB : ∀ k fr s, k < xs.length → Kp [1, 2, 3, 18, 19] fR5 fr → fr.get 20 = some (.int .i64 (.ofNat k)) →
      (sD.next ≤ s.next ∧ Same P sD s ∧ ∃ so, s.get o = some (.row [so]) ∧ Out P o s so (c0 + Dv.leavesL (l.take k))) →
      (∃ FR s', acode (gamT tbl (handX exts) m) Y m bf44_0 none fr s = .norm FR s' ∧ Kp [20, 1, 2, 3, 18, 19] fr FR ∧ (sD.next ≤ s'.next ∧ Same P sD s' ∧ ∃ so, s'.get o = some (.row [so]) ∧ Out P o s' so (c0 + Dv.leavesL (l.take (k + 1))))) ∨
      (∃ FR s', acode (gamT tbl (handX exts) m) Y m bf44_0 none fr s = .ret FR s' ∧ False) := by
    intro k fr s hk hkp g20 ⟨hnx, hsm, so, hgo, hout⟩
    obtain ⟨t, ht, hdr⟩ := drop_at (l := l) (k := k) (by omega)
    obtain ⟨x, hx, hrx⟩ := hrl.at ht
    have hsame : Same F st s := hsameD.trans fun i hi => hsm i (hFP i hi)
    obtain ⟨p, ia, ld⟩ := hsl.at hx
    have ld := ld s hsame
    obtain ⟨t1, sto, ks, gox, hnx1⟩ := next_el s (zs := [(.int .i64 (.ofNat 0)), .nilsl, .nilsl]) rfl hrx.cells3
    have hmem := List.mem_of_getElem? ht
    have hfz := Dv.fzL_mem hmem
    have hdp := depthL_mem hmem
    have lx := load_row gox hrx.cells3.1
    have htake : l.take (k + 1) = l.take k ++ [t] := by rw [List.take_add_one, ht]; rfl
    have hlt := leavesL_take l (k + 1)
    rw [htake, leavesL_snoc] at hlt
    have hPs : ∀ i, P i → i < s.next := fun i hi => Nat.lt_of_lt_of_le (hPD i hi) hnx
    have smt1 : Same P st t1 := (smD.trans hsm).trans (Same.of ks hPs)
    have hway1 := hway.mono smt1 fun _ h => h
    have lnw := hway1.len t1
    obtain ⟨w1, w2, t2, hsl1, happ, k2, hn2, hway2⟩ := hway1.app (.ofNat k) (by omega)
    have hgv1 : t1.get v = some (.row [.func (.func 44) [] [.ptr o 0, .ptr v 0]]) := smt1.get hv hgv
    have hgv2 := k2.get (by have := hPs v hv; have := ks.1; omega) hgv1
    have lv1 := ld0 hgv1
    have lv2 := ld0 hgv2
    have gox2 := k2.get (i := s.next) (by omega) gox
    have lx2 := load_row gox2 hrx.cells3.1
    have hk02 : Keeps s t2 := ks.trans k2
    have bx : avBeq (.agg x) (.agg x) = true := by simp only [avBeq]; exact RepD.beq t x hrx
    have bv : avBeq (.func (.func 44) [] [.ptr o 0, .ptr v 0]) (.func (.func 44) [] [.ptr o 0, .ptr v 0]) = true := by simp only [avBeq, avsBeq, fnBeq, Nat.beq_refl, Bool.and_true]
    have hol' : o < s.next := by omega
    obtain ⟨so', t3, hcall, hn3, sm3, hgo3, hout3⟩ := ih t.fz (by omega) t rfl m Y F (fun i => P i ∨ i = t1.next) t2 x w2 so (w + 1) o v (c0 + Dv.leavesL (l.take k)) (hrx.mono (hsame.trans (Same.of hk02 fun i hi => hPs i (hFP i hi))) fun _ h => h)
      (fun i hi => .inl (hFP i hi)) (fun i hi => by
        have := hk02.1
        rcases hi with hi | hi
        · have := hPs i hi; omega
        · omega) (.inl hv) (fun h => by rcases h with h | h; · exact ho h
                                        · omega) (by have := hk02.1; omega)
      (hway2.mono (Same.refl _ _) fun i hi => .inr hi) (hk02.get hol' hgo) (hout.keep hk02 fun i hi => by
        rcases hi with hi | hi
        · exact .inl hi
        · exact .inr (by omega)) hgv2 (by omega) (by omega) (by omega)
    have hcall' : ((gamT tbl (handX exts) m).cg Y).fn 44 [.agg x, w2, .ptr o 0, .ptr v 0] t2 = .ret (.tuple []) t3 := hcall
    have fl : fillA [.int .i64 (.ofNat 0)] [(0, 1, .int .i64 (.ofNat k))] = some [.int .i64 (.ofNat k)] := rfl
    have ct : contentA 1 t1 (.lst 1 [.int .i64 (.ofNat k)] true) = some (1, [.int .i64 (.ofNat k)]) := rfl
    have q1 := hkp.at (k := 1) (by decide) gR5_1
    have q2 := hkp.at (k := 2) (by decide) gR5_2
    have q3 := hkp.at (k := 3) (by decide) gR5_3
    have q18 := hkp.at (k := 18) (by decide) oR5_18
    have q19 := hkp.at (k := 19) (by decide) oR5_19
    obtain ⟨fR6, hR6, kR6, oR6_7, oR6_6⟩ : ∃ fr', arun ((gamT tbl (handX exts) m).cg Y) [⟨(some 22), .mv (.t 20), none⟩, ⟨(some 23), .iaddr 3 (.t 18) (.t 20), none⟩, ⟨(some 24), .load true 3 (.t 23), none⟩, ⟨(some 7), .alloc [(.int .i64 (.ofNat 0)), .nilsl, .nilsl], none⟩, ⟨(some 6), .mv (.t 22), none⟩, ⟨none, .store 3 (.t 7) (.t 24), none⟩] fr s = .ok fr' t1 ∧ Kp [1, 2, 3, 18, 19, 20] fr fr' ∧ fr'.get 7 = some (.ptr s.next 0) ∧ fr'.get 6 = some (.int .i64 (.ofNat k)) := by
      refine ⟨?r60, ?r61, ?r62, ?r6o7, ?r6o6⟩
      case r61 =>
        simp only [amE, Nat.reduceEqDiff, ↓reduceIte, reduceCtorEq, Nat.reduceAdd, q18, g20, ia, ld, sto]
        rfl
      case r62 => repeat (first | exact Kp.refl | refine Kp.set (by decide) ?_)
      case r6o7 => simp only [Fr.get_set, Nat.reduceEqDiff, ↓reduceIte]
      case r6o6 => simp only [Fr.get_set, Nat.reduceEqDiff, ↓reduceIte]
    have gR6_1 := kR6.at (k := 1) (by decide) q1
    have gR6_3 := kR6.at (k := 3) (by decide) q3
    obtain ⟨fR7, hR7, kR7⟩ : ∃ fr', adraw ((gamT tbl (handX exts) m).cg Y) [(⟨(some 25), .load false 1 (.t 3), none⟩, 0), (⟨(some 26), .load true 3 (.t 7), none⟩, 0), (⟨(some 27), .mv (.t 1), none⟩, 0), (⟨(some 28), .mv (.t 1), none⟩, 0), (⟨(some 29), .len 0 (.t 28), none⟩, 8), (⟨(some 30), .mv (.t 1), none⟩, 0), (⟨(some 31), .len 0 (.t 30), none⟩, 32), (⟨(some 32), .slice 1 (.t 27) none (some (.t 29)) (some (.t 31)), none⟩, 124), (⟨(some 33), .mv (.t 6), none⟩, 0), (⟨(some 34), .bslice 1 [(.int .i64 (.ofNat 0))] [(0, 1, (.t 33))], none⟩, 256), (⟨(some 35), .append 8 1 none (.t 32) (.t 34), none⟩, 1020), (⟨(some 36), .call (.t 25) [(.t 26), (.t 35)], none⟩, 2047)] [(0, some 10), (0, some 11), (1, some 10), (1, some 11)] fR6 t1 = .ok fr' t3 ∧ Kp [1, 2, 3, 18, 19, 20] fR6 fr' := by
      refine ⟨?r70, ?r71, ?r72⟩
      case r71 =>
        refine adraw_ok (its := ?r7i) ?r7x ?r7y ?r7z
        case r7x =>
          simp only [amE, Nat.reduceEqDiff, ↓reduceIte, reduceCtorEq, Nat.reduceAdd, drun_cons, drun_nil, DR.cons, oprD, nextId, preA, gR6_1, gR6_3, oR6_7, oR6_6, nd_slice, Option.map_none, lv1, lv2, lx, lx2, lnw, hsl1, fl, ct, happ, tag0, hcall', Bool.not_true, Bool.not_false]
          rfl
        case r7y => rfl
        case r7z =>
          simp only [List.all_cons, List.all_nil, Bool.and_true, Bool.and_eq_true]
          refine ⟨chk_of (i := 0) (k := 10) rfl rfl rfl rfl ?r7k0, chk_of (i := 0) (k := 11) rfl rfl rfl rfl ?r7k1, chk_of (i := 1) (k := 10) rfl rfl rfl rfl ?r7k2, chk_of (i := 1) (k := 11) rfl rfl rfl rfl ?r7k3⟩
          case r7k0 =>
            right
            refine ⟨?r7s0, ?r7l0, bv⟩
            case r7l0 =>
              simp only [amE, Nat.reduceEqDiff, ↓reduceIte, reduceCtorEq, Nat.reduceAdd, oprD, gR6_1, gR6_3, oR6_7, oR6_6, nd_slice, Option.map_none, lv1, lv2, lx, lx2, lnw, hsl1, fl, ct, happ, tag0, hcall', Bool.not_true, Bool.not_false]
              rfl
          case r7k1 =>
            right
            refine ⟨?r7s1, ?r7l1, bv⟩
            case r7l1 =>
              simp only [amE, Nat.reduceEqDiff, ↓reduceIte, reduceCtorEq, Nat.reduceAdd, oprD, gR6_1, gR6_3, oR6_7, oR6_6, nd_slice, Option.map_none, lv1, lv2, lx, lx2, lnw, hsl1, fl, ct, happ, tag0, hcall', Bool.not_true, Bool.not_false]
              rfl
          case r7k2 =>
            right
            refine ⟨?r7s2, ?r7l2, bx⟩
            case r7l2 =>
              simp only [amE, Nat.reduceEqDiff, ↓reduceIte, reduceCtorEq, Nat.reduceAdd, oprD, gR6_1, gR6_3, oR6_7, oR6_6, nd_slice, Option.map_none, lv1, lv2, lx, lx2, lnw, hsl1, fl, ct, happ, tag0, hcall', Bool.not_true, Bool.not_false]
              rfl
          case r7k3 =>
            right
            refine ⟨?r7s3, ?r7l3, bx⟩
            case r7l3 =>
              simp only [amE, Nat.reduceEqDiff, ↓reduceIte, reduceCtorEq, Nat.reduceAdd, oprD, gR6_1, gR6_3, oR6_7, oR6_6, nd_slice, Option.map_none, lv1, lv2, lx, lx2, lnw, hsl1, fl, ct, happ, tag0, hcall', Bool.not_true, Bool.not_false]
              rfl
      case r72 => repeat (first | exact Kp.refl | refine Kp.set (by decide) ?_)
    refine .inl ⟨fR7, t3, ?q7, (kR6.sub (by decide)).trans (kR7.sub (by decide)), by have := hk02.1; omega, ?z7, so', hgo3, ?y7⟩
    case q7 => simp only [amE, Nat.reduceEqDiff, ↓reduceIte, reduceCtorEq, Nat.reduceAdd, bf44_0, hR6, hR7]
    case z7 => exact (hsm.trans (Same.of hk02 hPs)).trans fun i hi => sm3 i (.inl hi)
    case y7 =>
      rw [htake, leavesL_snoc, ← Nat.add_assoc]
      exact hout3.sub fun i hi => .inl hi
  rcases kloop (Γ := (gamT tbl (handX exts) m)) (Y := Y) (m := m) (N := xs.length) (c := 21) (i := 20) (n := 19) (i2 := 37) (ro := none) (L := [1, 2, 3, 18, 19]) (fr0 := fR5) (by decide) (by decide) (by decide) (by decide) oR5_19 hsl.2.1
    (Q := fun k _ s => sD.next ≤ s.next ∧ Same P sD s ∧ ∃ so, s.get o = some (.row [so]) ∧ Out P o s so (c0 + Dv.leavesL (l.take k))) (fun _ _ _ _ _ _ h => h) hB xs.length 0 fR5 sD m (by omega) (by omega) Kp.refl oR5_20
    ⟨Nat.le_refl _, Same.refl _ _, soD, gD, by simpa only [List.take_zero, leavesL_nil, Nat.add_zero] using oD⟩
    with ⟨FR, s', h1, h2, h3, h4, so', h5, h6⟩ | ⟨FR, s', h1, h2⟩
  · rw [hxl, List.take_length] at h6
    refine ⟨so', s', fun_of (mf := kf44) (fr := FR) (by rw [t44, m44_eq]) rfl (.inr ?w1) (h2.1.trans dR5) rfl, Nat.le_trans nD h3, smD.trans h4, h5, h6⟩
    case w1 =>
      rw [← hA1]
      show acode _ _ _ (.seq _ (.seq (.seq _ (.cond (.t 11) _ .skip)) _)) _ _ _ = _
      rw [seq_reg hR2, seq_reg2 hR3 hD]
      simp only [amE, Nat.reduceEqDiff, ↓reduceIte, reduceCtorEq, Nat.reduceAdd, hD, hR5, h1, b00]
  · exact absurd h2 id
theorem leaves_run (d : Dv) (n : Nat) (Y : Yenv) (F : Nat → Prop) (st : St) (cs : List AV) (hr : RepD F st d cs) (hF : ∀ i, F i → i < st.next) (hn : d.fz + 2 ≤ n) :
    ∃ x st', R n Y 12 [.agg cs] st = .ret (.tuple [x, .int .i64 (.ofNat (if isDv d = true then 0 else 160))]) st' ∧ Keeps st st' ∧ ∀ s, (bif lenFits 0 x then lenA s x else none) = some (.int .i64 (.ofNat (if isDv d = true then d.leaves else 0))) := by
  obtain ⟨m, rfl⟩ : ∃ m, n = m + 1 := ⟨n - 1, by omega⟩
  have b00 : Nat.beq 0 0 = true := rfl
  obtain ⟨st1, c1, k1⟩ := isDeriv_run d m Y F st cs hr hF (by omega)
  have c1' : ((gamT tbl (handX exts) m).cg Y).fn 41 [.agg cs] st = .ret (.bool (isDv d)) st1 := c1
  have hr1 := hr.mono (Same.of k1 hF) fun _ h => h
  have hF1 : ∀ i, F i → i < st1.next := fun i hi => Nat.lt_of_lt_of_le (hF i hi) k1.1
  have hc3 := hr.cells3
  generalize hB : isDv d = B at *
  obtain ⟨a, b, c, rfl⟩ : ∃ a b c, cs = [a, b, c] := by
    match cs, hc3.1 with
    | [a, b, c], _ => exact ⟨a, b, c, rfl⟩
  obtain ⟨fA8, hA8⟩ : ∃ fA, fA = frOf 0 [.agg [a, b, c]] Fr.nil := ⟨_, rfl⟩
  have gA8_0 : fA8.get 0 = some (.agg [a, b, c]) := by rw [hA8]; simp only [frOf, Fr.get_set, Nat.reduceAdd, Nat.reduceEqDiff, ↓reduceIte]
  have dA8 : fA8.ds = [] := by rw [hA8]; rfl
  obtain ⟨fR9, hR9, kR9, oR9_1⟩ : ∃ fr', arun ((gamT tbl (handX exts) m).cg Y) [⟨(some 1), .box true (.t 0), none⟩, ⟨(some 2), .mv (.c .nilsl), none⟩, ⟨(some 3), .mv (.c (.int .i64 (.ofNat 0))), none⟩] fA8 st = .ok fr' st ∧ Kp [] fA8 fr' ∧ fr'.get 1 = some (.fptr [a, b, c] 0) := by
    refine ⟨?r90, ?r91, ?r92, ?r9o1⟩
    case r91 =>
      simp only [amE, Nat.reduceEqDiff, ↓reduceIte, reduceCtorEq, Nat.reduceAdd, gA8_0]
      rfl
    case r92 => repeat (first | exact Kp.refl | refine Kp.set (by decide) ?_)
    case r9o1 => simp only [Fr.get_set, Nat.reduceEqDiff, ↓reduceIte]
  have dR9 := kR9.1.trans dA8
  obtain ⟨fR10, hR10, kR10, oR10_8⟩ : ∃ fr', arun ((gamT tbl (handX exts) m).cg Y) [⟨(some 6), .load true 3 (.t 1), none⟩, ⟨(some 7), .call (.c (.func (.func 41) [] [])) [(.t 6)], none⟩, ⟨(some 8), .un .not (.t 7), none⟩] fR9 st = .ok fr' st1 ∧ Kp [1] fR9 fr' ∧ fr'.get 8 = some (.bool (!B)) := by
    refine ⟨?r100, ?r101, ?r102, ?r10o8⟩
    case r101 =>
      simp only [amE, Nat.reduceEqDiff, ↓reduceIte, reduceCtorEq, Nat.reduceAdd, oR9_1, ld3f, c1', unN, Bool.not_true, Bool.not_false]
      rfl
    case r102 => repeat (first | exact Kp.refl | refine Kp.set (by decide) ?_)
    case r10o8 => simp only [Fr.get_set, Nat.reduceEqDiff, ↓reduceIte]
  have gR10_1 := kR10.at (k := 1) (by decide) oR9_1
  have dR10 := kR10.1.trans dR9
  cases B with
  | false =>
    obtain ⟨fR11, hR11, kR11, oR11_2, oR11_3⟩ : ∃ fr', arun ((gamT tbl (handX exts) m).cg Y) [⟨(some 2), .mv (.c .nilsl), none⟩, ⟨(some 3), .mv (.c (.int .i64 (.ofNat 160))), none⟩] fR10 st1 = .ok fr' st1 ∧ Kp [] fR10 fr' ∧ fr'.get 2 = some (.nilsl) ∧ fr'.get 3 = some (.int .i64 (.ofNat 160)) := by
      refine ⟨?r110, ?r111, ?r112, ?r11o2, ?r11o3⟩
      case r111 =>
        simp only [amE, Nat.reduceEqDiff, ↓reduceIte, reduceCtorEq, Nat.reduceAdd]
        rfl
      case r112 => repeat (first | exact Kp.refl | refine Kp.set (by decide) ?_)
      case r11o2 => simp only [Fr.get_set, Nat.reduceEqDiff, ↓reduceIte]
      case r11o3 => simp only [Fr.get_set, Nat.reduceEqDiff, ↓reduceIte]
    have dR11 := kR11.1.trans dR10
    refine ⟨.nilsl, st1, fun_of (mf := kf12) (fr := fR11) (by rw [t12, m12_eq]) rfl (.inl ?q11) dR11 (by simp only [kf12, resultA, ressA, resA, oR11_2, oR11_3, Option.bind_some, Option.map_some]; rfl), k1, fun _ => rfl⟩
    case q11 =>
      rw [← hA8]
      simp only [amE, Nat.reduceEqDiff, ↓reduceIte, reduceCtorEq, Nat.reduceAdd, kf12, hR9, hR10, hR11, oR10_8, Bool.not_false]
  | true =>
    obtain ⟨hgood, hsz, hdp⟩ := (isDv_iff d).1 hB
    have hlv := leaves_le d
    obtain ⟨s2, hs2⟩ : ∃ s2, s2 = st1.new (.row [.nilsl]) := ⟨_, rfl⟩
    obtain ⟨s3, hs3⟩ : ∃ s3, s3 = s2.new (.row [.nilfn]) := ⟨_, rfl⟩
    have n2 : s2.next = st1.next + 1 := by rw [hs2]; rfl
    have n3 : s3.next = st1.next + 2 := by rw [hs3]; show s2.next + 1 = _; omega
    have go3 : s3.get st1.next = some (.row [.nilsl]) := by rw [hs3, St.get_new, if_neg (by omega), hs2, St.get_new, if_pos rfl]
    have gv3 : s3.get s2.next = some (.row [.nilfn]) := by rw [hs3, St.get_new, if_pos rfl]
    have k3 : Keeps st1 s3 := by rw [hs3, hs2]; exact (Keeps.new _ _).trans (Keeps.new _ _)
    have sto := stw1 (v := .func (.func 44) [] [.ptr st1.next 0, .ptr s2.next 0]) gv3 rfl
    obtain ⟨s4, hs4⟩ : ∃ s4, s4 = s3.put s2.next (.row [.func (.func 44) [] [.ptr st1.next 0, .ptr s2.next 0]]) := ⟨_, rfl⟩
    rw [← hs4] at sto
    have n4 : s4.next = s3.next := by rw [hs4]; rfl
    have k4 : Keeps st1 s4 := by rw [hs4]; exact k3.put' _ _ (by omega)
    have gv4 : s4.get s2.next = some (.row [.func (.func 44) [] [.ptr st1.next 0, .ptr s2.next 0]]) := by rw [hs4, St.get_put, if_pos rfl]
    have go4 : s4.get st1.next = some (.row [.nilsl]) := by rw [hs4, St.get_put, if_neg (by omega)]; exact go3
    obtain ⟨so, st2, c2, hnx, hsm, hgo, hout⟩ := visit_run d m Y F (fun i => i < st1.next ∨ i = s2.next) s4 [a, b, c] .nilsl .nilsl 0 st1.next s2.next 0 (hr1.mono (Same.of k4 hF1) fun _ h => h)
      (fun i hi => .inl (hF1 i hi)) (fun i hi => by omega) (.inr rfl) (by omega) (by omega) (.inl ⟨rfl, rfl⟩) go4 (.inl ⟨rfl, rfl⟩) gv4 (by omega) (by omega) (by omega)
    have c2' : ((gamT tbl (handX exts) m).cg Y).fn 44 [.agg [a, b, c], .nilsl, .ptr st1.next 0, .ptr s2.next 0] s4 = .ret (.tuple []) st2 := c2
    have lv := ld0 gv4
    have lo := ld0 hgo
    have kf : Keeps st st2 := k1.trans ⟨by omega, fun i hi => (hsm i (.inl hi)).trans (k4.2 i hi)⟩
    obtain ⟨fR12, hR12, kR12, oR12_4⟩ : ∃ fr', arun ((gamT tbl (handX exts) m).cg Y) [⟨(some 4), .alloc [.nilsl], none⟩] fR10 st1 = .ok fr' s2 ∧ Kp [1] fR10 fr' ∧ fr'.get 4 = some (.ptr st1.next 0) := by
      refine ⟨?r120, ?r121, ?r122, ?r12o4⟩
      case r121 =>
        simp only [amE, Nat.reduceEqDiff, ↓reduceIte, reduceCtorEq, Nat.reduceAdd, ← hs2]
        rfl
      case r122 => repeat (first | exact Kp.refl | refine Kp.set (by decide) ?_)
      case r12o4 => simp only [Fr.get_set, Nat.reduceEqDiff, ↓reduceIte]
    have gR12_1 := kR12.at (k := 1) (by decide) gR10_1
    have dR12 := kR12.1.trans dR10
    obtain ⟨fR13, hR13, kR13, oR13_5⟩ : ∃ fr', arun ((gamT tbl (handX exts) m).cg Y) [⟨(some 5), .alloc [.nilfn], none⟩] fR12 s2 = .ok fr' s3 ∧ Kp [1, 4] fR12 fr' ∧ fr'.get 5 = some (.ptr s2.next 0) := by
      refine ⟨?r130, ?r131, ?r132, ?r13o5⟩
      case r131 =>
        simp only [amE, Nat.reduceEqDiff, ↓reduceIte, reduceCtorEq, Nat.reduceAdd, ← hs3]
        rfl
      case r132 => repeat (first | exact Kp.refl | refine Kp.set (by decide) ?_)
      case r13o5 => simp only [Fr.get_set, Nat.reduceEqDiff, ↓reduceIte]
    have gR13_1 := kR13.at (k := 1) (by decide) gR12_1
    have gR13_4 := kR13.at (k := 4) (by decide) oR12_4
    have dR13 := kR13.1.trans dR12
    obtain ⟨fR14, hR14, kR14⟩ : ∃ fr', arun ((gamT tbl (handX exts) m).cg Y) [⟨(some 9), .mkfn 44 [] [(.t 4), (.t 5)], none⟩, ⟨none, .store 1 (.t 5) (.t 9), none⟩] fR13 s3 = .ok fr' s4 ∧ Kp [1, 4, 5] fR13 fr' := by
      refine ⟨?r140, ?r141, ?r142⟩
      case r141 =>
        simp only [amE, Nat.reduceEqDiff, ↓reduceIte, reduceCtorEq, Nat.reduceAdd, gR13_4, oR13_5, nd_mkfn, sto]
        rfl
      case r142 => repeat (first | exact Kp.refl | refine Kp.set (by decide) ?_)
    have gR14_1 := kR14.at (k := 1) (by decide) gR13_1
    have gR14_4 := kR14.at (k := 4) (by decide) gR13_4
    have gR14_5 := kR14.at (k := 5) (by decide) oR13_5
    have dR14 := kR14.1.trans dR13
    obtain ⟨fR15, hR15, kR15⟩ : ∃ fr', arun ((gamT tbl (handX exts) m).cg Y) [⟨(some 10), .load false 1 (.t 5), none⟩, ⟨(some 11), .load true 3 (.t 1), none⟩, ⟨(some 12), .call (.t 10) [(.t 11), (.c .nilsl)], none⟩] fR14 s4 = .ok fr' st2 ∧ Kp [1, 4, 5] fR14 fr' := by
      refine ⟨?r150, ?r151, ?r152⟩
      case r151 =>
        simp only [amE, Nat.reduceEqDiff, ↓reduceIte, reduceCtorEq, Nat.reduceAdd, gR14_1, gR14_5, ld3f, lv, c2']
        rfl
      case r152 => repeat (first | exact Kp.refl | refine Kp.set (by decide) ?_)
    have gR15_4 := kR15.at (k := 4) (by decide) gR14_4
    have dR15 := kR15.1.trans dR14
    obtain ⟨fR16, hR16, kR16, oR16_2, oR16_3⟩ : ∃ fr', arun ((gamT tbl (handX exts) m).cg Y) [⟨(some 13), .load false 1 (.t 4), none⟩, ⟨(some 2), .mv (.t 13), none⟩, ⟨(some 3), .mv (.c (.int .i64 (.ofNat 0))), none⟩] fR15 st2 = .ok fr' st2 ∧ Kp [1, 4, 5] fR15 fr' ∧ fr'.get 2 = some (so) ∧ fr'.get 3 = some (.int .i64 (.ofNat 0)) := by
      refine ⟨?r160, ?r161, ?r162, ?r16o2, ?r16o3⟩
      case r161 =>
        simp only [amE, Nat.reduceEqDiff, ↓reduceIte, reduceCtorEq, Nat.reduceAdd, gR15_4, lo]
        rfl
      case r162 => repeat (first | exact Kp.refl | refine Kp.set (by decide) ?_)
      case r16o2 => simp only [Fr.get_set, Nat.reduceEqDiff, ↓reduceIte]
      case r16o3 => simp only [Fr.get_set, Nat.reduceEqDiff, ↓reduceIte]
    have dR16 := kR16.1.trans dR15
    refine ⟨so, st2, fun_of (mf := kf12) (fr := fR16) (by rw [t12, m12_eq]) rfl (.inl ?q16) dR16 (by simp only [kf12, resultA, ressA, resA, oR16_2, oR16_3, Option.bind_some, Option.map_some]; rfl), kf, fun s => by rw [hout.len s, Nat.zero_add]; rfl⟩
    case q16 =>
      rw [← hA8]
      simp only [amE, Nat.reduceEqDiff, ↓reduceIte, reduceCtorEq, Nat.reduceAdd, kf12, hR9, hR10, hR12, hR13, hR14, hR15, hR16, oR10_8, Bool.not_true]
end Go.AM.D16
