import Derived.Test.YtphmjdnljmhipaaGreatDoorAmRd3
set_option linter.unusedSimpArgs false
set_option linter.unusedVariables false
set_option maxRecDepth 100000
namespace Go.AM.D16
open Go Go.AM
open Nat (reduceEqDiff reduceAdd)
section
variable {α : Type} {one : Nat -> PR α} {rest : Nat -> PR (List α)} {s : List Nat}
theorem pB_pos (h1 : ∀ p t p2, one p = .ok t p2 -> p < p2 /\ p2 <= s.length) (h2 : ∀ p l p2, rest p = .ok l p2 -> p < p2 /\ p2 <= s.length) {p o : Nat} {l : List α} {p2 : Nat} (hp : p <= s.length) (h : pB one rest s p o = .ok l p2) : p <= p2 /\ p2 <= s.length := by
 unfold pB at h
 split at h
 ·cases ho : one (p + 1) with
  | err e => rw [ho] at h; cases h
  | ok t q =>
   rw [ho] at h
   simp only at h
   have := h1 _ _ _ ho
   cases hr : rest q with
   | err e => rw [hr] at h; cases h
   | ok l' q' =>
    rw [hr] at h
    simp only [PR.ok.injEq] at h
    have := h2 _ _ _ hr
    omega
 ·simp only [PR.ok.injEq] at h; omega
theorem pN_pos (h1 : ∀ p t p2, one p = .ok t p2 -> p < p2 /\ p2 <= s.length) (h2 : ∀ p l p2, rest p = .ok l p2 -> p < p2 /\ p2 <= s.length) {p c : Nat} {l : List α} {p2 : Nat} (h : pN one rest s p c = .ok l p2) : p < p2 /\ p2 <= s.length := by
 unfold pN at h
 split at h
 ·cases ho : one (p + 1) with
  | err e => rw [ho] at h; cases h
  | ok t q =>
   rw [ho] at h
   simp only at h
   have := h1 _ _ _ ho
   cases hr : rest q with
   | err e => rw [hr] at h; cases h
   | ok l' q' =>
    rw [hr] at h
    simp only [PR.ok.injEq] at h
    have := h2 _ _ _ hr
    omega
 ·split at h
  ·rename_i hc
   have := sgn_lt hc
   simp only [PR.ok.injEq] at h; omega
  ·cases h
end
theorem pT_eq (s : List Nat) (f p : Nat) : pT s (f + 1) p = match nm s p with
  | .err e => .err e
  | .ok n p1 => match pB (pT s f) (pTl s f 41) s p1 40 with
   | .err e => .err e
   | .ok l p2 => .ok (.mk 2 (.ofNat n) false false l) p2 := by
 conv => lhs; unfold pT
 rfl
theorem pTl_eq (s : List Nat) (f c p : Nat) : pTl s (f + 1) c p = pN (pT s f) (pTl s f c) s p c := by conv => lhs; unfold pTl
theorem pD_eq (s : List Nat) (f p : Nat) : pD s (f + 1) p = match nm s p with
  | .err e => .err e
  | .ok n p1 => match pB (pT s f) (pTl s f 125) s p1 123 with
   | .err e => .err e
   | .ok vs p2 => match pB (pD s f) (pDl s f) s p2 40 with
    | .err e => .err e
    | .ok l p3 => .ok (.mk (.ofNat n) false false vs false false l) p3 := by
 conv => lhs; unfold pD
 rfl
theorem pDl_eq (s : List Nat) (f p : Nat) : pDl s (f + 1) p = pN (pD s f) (pDl s f) s p 41 := by conv => lhs; unfold pDl
theorem pT_pos (s : List Nat) : ∀ f, (∀ p t p2, pT s f p = .ok t p2 -> p < p2 /\ p2 <= s.length) /\ (∀ c p l p2, pTl s f c p = .ok l p2 -> p < p2 /\ p2 <= s.length)
 | 0 => ⟨fun p t p2 h => (by unfold pT at h; cases h), fun c p l p2 h => (by unfold pTl at h; cases h)⟩
 | f + 1 => by
  obtain ⟨i1, i2⟩ := pT_pos s f
  refine ⟨fun p t p2 h => ?_, fun c p l p2 h => ?_⟩
  ·rw [pT_eq] at h
   cases hn : nm s p with
   | err e => rw [hn] at h; cases h
   | ok n p1 =>
    rw [hn] at h
    simp only at h
    have := nm_pos hn
    cases hb : pB (pT s f) (pTl s f 41) s p1 40 with
    | err e => rw [hb] at h; cases h
    | ok l q =>
     rw [hb] at h
     simp only [PR.ok.injEq] at h
     have := pB_pos i1 (i2 41) this.2 hb
     omega
  ·rw [pTl_eq] at h
   exact pN_pos i1 (i2 c) h
theorem pD_pos (s : List Nat) : ∀ f, (∀ p t p2, pD s f p = .ok t p2 -> p < p2 /\ p2 <= s.length) /\ (∀ p l p2, pDl s f p = .ok l p2 -> p < p2 /\ p2 <= s.length)
 | 0 => ⟨fun p t p2 h => (by unfold pD at h; cases h), fun p l p2 h => (by unfold pDl at h; cases h)⟩
 | f + 1 => by
  obtain ⟨i1, i2⟩ := pD_pos s f
  obtain ⟨j1, j2⟩ := pT_pos s f
  refine ⟨fun p t p2 h => ?_, fun p l p2 h => ?_⟩
  ·rw [pD_eq] at h
   cases hn : nm s p with
   | err e => rw [hn] at h; cases h
   | ok n p1 =>
    rw [hn] at h
    simp only at h
    have h1 := nm_pos hn
    cases hb : pB (pT s f) (pTl s f 125) s p1 123 with
    | err e => rw [hb] at h; cases h
    | ok vs q =>
     rw [hb] at h
     simp only at h
     have h2 := pB_pos j1 (j2 125) h1.2 hb
     cases hd : pB (pD s f) (pDl s f) s q 40 with
     | err e => rw [hd] at h; cases h
     | ok l q' =>
      rw [hd] at h
      simp only [PR.ok.injEq] at h
      have := pB_pos i1 i2 h2.2 hd
      omega
  ·rw [pDl_eq] at h
   exact pN_pos i1 i2 h
theorem fillT {x : List AV} (h : x.length = 3) : fillA [(.int .i64 (.ofNat 0)), (.int .i64 (.ofNat 0)), .nilsl] [(0, 3, .agg x)] = some x := by
 match x, h with
 | [a, b, c], _ => rfl
theorem fillD {x : List AV} (h : x.length = 3) : fillA [(.int .i64 (.ofNat 0)), .nilsl, .nilsl] [(0, 3, .agg x)] = some x := by
 match x, h with
 | [a, b, c], _ => rfl
noncomputable def g91_1 : List MOper := [⟨(some 4), .mv (.t 0), none⟩, ⟨(some 5), .call (.c (.func (.func 89) [] [])) [(.t 4)], none⟩, ⟨(some 6), .build [(.int .i64 (.ofNat 0)), (.int .i64 (.ofNat 0)), .nilsl] [(0, 1, (.c (.int .i64 (.ofNat 2)))), (1, 1, (.t 5))], none⟩, ⟨(some 3), .alloc [(.int .i64 (.ofNat 0)), (.int .i64 (.ofNat 0)), .nilsl], none⟩, ⟨none, .store 3 (.t 3) (.t 6), none⟩]
noncomputable def g91_2 : List MOper := [⟨(some 7), .mv (.t 0), none⟩, ⟨(some 8), .mv (.t 0), none⟩, ⟨(some 9), .mkfn 91 [(.t 8)] [], none⟩, ⟨(some 10), .call (.c (.func (.func 90) [] [])) [(.t 7), (.c (.int .u8 (.ofNat 40))), (.c (.int .u8 (.ofNat 41))), (.t 9)], none⟩, ⟨(some 11), .faddr 2 (.t 3), none⟩, ⟨none, .store 1 (.t 11) (.t 10), none⟩]
noncomputable def kf91 : MFunc := ⟨13, (.seq (.region [⟨(some 2), .alloc [(.int .i64 (.ofNat 0)), (.int .i64 (.ofNat 0)), .nilsl], none⟩])
 (.seq (.region g91_1)
 (.seq (.region g91_2)
 (.seq (.region [⟨(some 12), .load true 3 (.t 3), none⟩, ⟨none, .store 3 (.t 2) (.t 12), none⟩])
 .ret)))), [.cell 2 true 3]⟩
theorem t91 : tbl 91 = some kf91 := by kernel_rfl
noncomputable def g59_1 : List MOper := [⟨(some 4), .mv (.t 0), none⟩, ⟨(some 5), .call (.c (.func (.func 89) [] [])) [(.t 4)], none⟩, ⟨(some 6), .build [(.int .i64 (.ofNat 0)), .nilsl, .nilsl] [(0, 1, (.t 5))], none⟩, ⟨(some 3), .alloc [(.int .i64 (.ofNat 0)), .nilsl, .nilsl], none⟩, ⟨none, .store 3 (.t 3) (.t 6), none⟩]
noncomputable def g59_2 : List MOper := [⟨(some 7), .mv (.t 0), none⟩, ⟨(some 8), .mv (.t 0), none⟩, ⟨(some 9), .mkfn 91 [(.t 8)] [], none⟩, ⟨(some 10), .call (.c (.func (.func 90) [] [])) [(.t 7), (.c (.int .u8 (.ofNat 123))), (.c (.int .u8 (.ofNat 125))), (.t 9)], none⟩, ⟨(some 11), .faddr 1 (.t 3), none⟩, ⟨none, .store 1 (.t 11) (.t 10), none⟩]
noncomputable def g59_3 : List MOper := [⟨(some 12), .mv (.t 0), none⟩, ⟨(some 13), .mv (.t 0), none⟩, ⟨(some 14), .mkfn 59 [(.t 13)] [], none⟩, ⟨(some 15), .call (.c (.func (.func 92) [] [])) [(.t 12), (.c (.int .u8 (.ofNat 40))), (.c (.int .u8 (.ofNat 41))), (.t 14)], none⟩, ⟨(some 16), .faddr 2 (.t 3), none⟩, ⟨none, .store 1 (.t 16) (.t 15), none⟩]
noncomputable def kf59 : MFunc := ⟨18, (.seq (.region [⟨(some 2), .alloc [(.int .i64 (.ofNat 0)), .nilsl, .nilsl], none⟩])
 (.seq (.region g59_1)
 (.seq (.region g59_2)
 (.seq (.region g59_3)
 (.seq (.region [⟨(some 17), .load true 3 (.t 3), none⟩, ⟨none, .store 3 (.t 2) (.t 17), none⟩])
 .ret))))), [.cell 2 true 3]⟩
theorem t59 : tbl 59 = some kf59 := by kernel_rfl
theorem keepNew {q : Nat} {a : St} (o : AO) : Keep1 q a (a.new o) := Keep1.of (Keeps.new a o)
theorem rdrNew {q p : Nat} {a : St} {s : List Nat} {o : AO} (h : Rdr q a s p) (hq : q < a.next) : Rdr q (a.new o) s p := by
 unfold Rdr
 rw [St.get_new, if_neg (by omega)]; exact h
theorem rdrPut {q p i : Nat} {a : St} {s : List Nat} {o : AO} (h : Rdr q a s p) (hq : q ≠ i) : Rdr q (a.put i o) s p := by
 unfold Rdr
 rw [St.get_put, if_neg hq]; exact h
theorem keepPut {q i : Nat} {a b : St} {o : AO} (h : Keep1 q a b) (hi : a.next <= i) : Keep1 q a (b.put i o) := ⟨h.1, fun j hj hq => by rw [St.get_put, if_neg (by omega)]; exact h.2 j hj hq⟩
theorem pval_run {q : Nat} {s : List Nat} (hl : s.length <= 100000) (Y : Yenv) : ∀ (f m p : Nat) (st : St), 2 * f + s.length + 30 <= m -> Rdr q st s p -> p <= s.length -> s.length + 1 - p <= f -> q < st.next -> OneR RepT q s m Y 91 st (pT s f p) := by
 intro f
 induction f using Nat.strongRecOn with
 | _ f ih =>
 intro m p st hm h hp hf hq
 cases f with
 | zero => omega
 | succ f =>
 obtain ⟨m, rfl⟩ : ∃ k, m = k + 2 := ⟨m - 2, by omega⟩
 have h0 := rdrNew (o := .row [(.int .i64 (.ofNat 0)), (.int .i64 (.ofNat 0)), .nilsl]) h hq
 have k0 := keepNew (q := q) (a := st) (.row [(.int .i64 (.ofNat 0)), (.int .i64 (.ofNat 0)), .nilsl])
 have hnum := num_run h0 (by omega) m Y (by omega)
 rw [pT_eq]
 cases hn : nm s p with
 | err e =>
  rw [hn] at hnum
  obtain ⟨sB, hc, hB, kB, nB⟩ := hnum
  refine ⟨sB, fun_pan (mf := kf91) (fr := ?f1) t91 rfl ?x1 ?d1, hB, k0.trans kB⟩
  case x1 => simp only [amE, reduceEqDiff, ↓reduceIte, reduceCtorEq, reduceAdd, kf91, g91_1, cg_fn, hc] <;> rfl
  case d1 => rfl
 | ok n p1 =>
  rw [hn] at hnum
  obtain ⟨sB, hc, hB, kB, nB⟩ := hnum
  obtain ⟨hp1, hp2⟩ := nm_pos hn
  simp only [St.next_new] at nB
  have fi : fillA [(.int .i64 (.ofNat 0)), (.int .i64 (.ofNat 0)), .nilsl] [(0, 1, .int .i64 (.ofNat 2)), (1, 1, .int .i64 (.ofNat n))] = some [.int .i64 (.ofNat 2), .int .i64 (.ofNat n), .nilsl] := rfl
  have sto := store_new (st := sB) (zs := [(.int .i64 (.ofNat 0)), (.int .i64 (.ofNat 0)), .nilsl]) (x := [.int .i64 (.ofNat 2), .int .i64 (.ofNat n), .nilsl]) rfl rfl rfl
  obtain ⟨sC, hsC⟩ : ∃ sC, sC = (sB.new (.row [(.int .i64 (.ofNat 0)), (.int .i64 (.ofNat 0)), .nilsl])).put sB.next (.row [.int .i64 (.ofNat 2), .int .i64 (.ofNat n), .nilsl]) := ⟨_, rfl⟩
  have hC : Rdr q sC s p1 := by rw [hsC]; exact rdrPut (rdrNew hB (by omega)) (by omega)
  have nC : sC.next = sB.next + 1 := by rw [hsC]; rfl
  have kC : Keep1 q sB sC := by rw [hsC]; exact keepPut (keepNew _) (Nat.le_refl _)
  have gC : sC.get sB.next = some (.row [.int .i64 (.ofNat 2), .int .i64 (.ofNat n), .nilsl]) := by rw [hsC, St.get_put, if_pos rfl]
  have gA : sC.get st.next = some (.row [(.int .i64 (.ofNat 0)), (.int .i64 (.ofNat 0)), .nilsl]) := by
   rw [kC.2 _ (by omega) (by omega), kB.2 _ (by simp) (by omega), St.get_new, if_pos rfl]
  have hsev := sev_run (Rep := RepT) (FM := f + 1) (m := m) (g := 91) (c := 41) (o := 40) (one := pT s) (rs := fun f p => pTl s f 41 p) (Y := Y) t90 (fun f p => pTl_eq s f 41 p) (fun f p t p2 h => (pT_pos s f).1 p t p2 h) (fun {_ _ _ _ t cs} k g h => RepT.mono k g t cs h) (fun h => h.cells3) (fun x hx => fillT hx) (by decide) (by omega) hl
   (fun f' p' st' r1 r2 r3 r4 r5 => ih f' (by omega) m p' st' (by omega) r1 r2 r3 r5) (f := f) hC hp2 (by omega) (by omega) (by omega) (by omega)
  rw [<- hsC] at sto
  simp only []
  cases hb : pB (pT s f) (pTl s f 41) s p1 40 with
  | err e =>
   rw [hb] at hsev
   obtain ⟨sD, hc2, hD, kD⟩ := hsev
   refine ⟨sD, fun_pan (mf := kf91) (fr := ?f2) t91 rfl ?x2 ?d2, hD, (k0.trans kB).trans (kC.trans kD)⟩
   case x2 => simp only [amE, reduceEqDiff, ↓reduceIte, reduceCtorEq, reduceAdd, kf91, g91_1, g91_2, nd_mkfn, cg_fn, hc, fi, sto, hc2] <;> rfl
   case d2 => rfl
  | ok l p3 =>
   rw [hb] at hsev
   obtain ⟨sl, xs, sD, hc2, hD, kD, hsl, hrl⟩ := hsev
   have gD : sD.get sB.next = some (.row [.int .i64 (.ofNat 2), .int .i64 (.ofNat n), .nilsl]) := (kD.2 _ (by omega) (by omega)).trans gC
   have gDA : sD.get st.next = some (.row [(.int .i64 (.ofNat 0)), (.int .i64 (.ofNat 0)), .nilsl]) := (kD.2 _ (by omega) (by omega)).trans gA
   have st1 := st32 (v := sl) gD hsl.one
   have fa : faddrA 2 (.ptr sB.next 0) = some (.ptr sB.next 2) := rfl
   obtain ⟨sE, hsE⟩ : ∃ sE, sE = sD.put sB.next (.row [.int .i64 (.ofNat 2), .int .i64 (.ofNat n), sl]) := ⟨_, rfl⟩
   have gE : sE.get sB.next = some (.row [.int .i64 (.ofNat 2), .int .i64 (.ofNat n), sl]) := by rw [hsE, St.get_put, if_pos rfl]
   have ld := load_row gE rfl
   have c3 : [AV.int .i64 (.ofNat 2), .int .i64 (.ofNat n), sl].length = 3 /\ [AV.int .i64 (.ofNat 2), .int .i64 (.ofNat n), sl].all AV.one = true := ⟨rfl, by show (true && (true && (AV.one sl && true))) = true; rw [hsl.one]; rfl⟩
   have gEA : sE.get st.next = some (.row [(.int .i64 (.ofNat 0)), (.int .i64 (.ofNat 0)), .nilsl]) := by rw [hsE, St.get_put, if_neg (by omega)]; exact gDA
   have st2 := st3 gEA rfl c3
   obtain ⟨sF, hsF⟩ : ∃ sF, sF = sE.put st.next (.row [.int .i64 (.ofNat 2), .int .i64 (.ofNat n), sl]) := ⟨_, rfl⟩
   have gF : sF.get st.next = some (.row [.int .i64 (.ofNat 2), .int .i64 (.ofNat n), sl]) := by rw [hsF, St.get_put, if_pos rfl]
   have ldF := load_row gF rfl
   rw [<- hsE] at st1
   rw [<- hsF] at st2
   have nF : sF.next = sD.next := by rw [hsF, hsE]; rfl
   have sm : Same (fun i => sC.next <= i /\ i < sD.next) sD sF := fun i hi => by rw [hsF, St.get_put, if_neg (by omega), hsE, St.get_put, if_neg (by omega)]
   have kF : Keep1 q st sF := by
    have := (k0.trans kB).trans (kC.trans kD)
    rw [hsF, hsE]
    exact keepPut (keepPut this (by omega)) (Nat.le_refl _)
   refine ⟨[.int .i64 (.ofNat 2), .int .i64 (.ofNat n), sl], sF, fun_of (mf := kf91) (fr := ?f3) t91 rfl (.inl ?x3) ?d3 ?r3, ?h3, kF, ?p3⟩
   case x3 => simp only [amE, reduceEqDiff, ↓reduceIte, reduceCtorEq, reduceAdd, kf91, g91_1, g91_2, nd_mkfn, cg_fn, hc, fi, sto, hc2, fa, st1, ld, st2] <;> rfl
   case d3 => rfl
   case r3 => simp only [kf91, amE, reduceEqDiff, ↓reduceIte, ldF]
   case h3 =>
    rw [hsF, hsE]
    exact rdrPut (rdrPut hD (by omega)) (by omega)
   case p3 =>
    simp only [RepT]
    have hF : ∀ i, (sC.next <= i /\ i < sD.next) -> st.next <= i /\ i < sF.next := fun i hi => by omega
    exact ⟨sl, xs, rfl, hsl.mono sm hF, RepTs.mono sm hF l xs hrl.tms⟩
theorem st3m {st : St} {id : Nat} {x y z v : AV} (h : st.get id = some (.row [x, y, z])) (hv : AV.one v = true) : storeA 1 st (.ptr id 1) v = some (st.put id (.row [x, v, z])) := by
 simp only [storeA, h, one_cells hv]
 show (bif (true && (true && (AV.one v && true))) then _ else _) = _
 rw [hv]; rfl
theorem pder_run {q : Nat} {s : List Nat} (hl : s.length <= 100000) (Y : Yenv) : ∀ (f m p : Nat) (st : St), 2 * f + s.length + 40 <= m -> Rdr q st s p -> p <= s.length -> s.length + 1 - p <= f -> q < st.next -> OneR RepD q s m Y 59 st (pD s f p) := by
 intro f
 induction f using Nat.strongRecOn with
 | _ f ih =>
 intro m p st hm h hp hf hq
 cases f with
 | zero => omega
 | succ f =>
 obtain ⟨m, rfl⟩ : ∃ k, m = k + 2 := ⟨m - 2, by omega⟩
 have h0 := rdrNew (o := .row [(.int .i64 (.ofNat 0)), .nilsl, .nilsl]) h hq
 have k0 := keepNew (q := q) (a := st) (.row [(.int .i64 (.ofNat 0)), .nilsl, .nilsl])
 have hnum := num_run h0 (by omega) m Y (by omega)
 rw [pD_eq]
 cases hn : nm s p with
 | err e =>
  rw [hn] at hnum
  obtain ⟨sB, hc, hB, kB, nB⟩ := hnum
  refine ⟨sB, fun_pan (mf := kf59) (fr := ?f1) t59 rfl ?x1 ?d1, hB, k0.trans kB⟩
  case x1 => simp only [amE, reduceEqDiff, ↓reduceIte, reduceCtorEq, reduceAdd, kf59, g59_1, cg_fn, hc] <;> rfl
  case d1 => rfl
 | ok n p1 =>
  rw [hn] at hnum
  obtain ⟨sB, hc, hB, kB, nB⟩ := hnum
  obtain ⟨hp1, hp2⟩ := nm_pos hn
  simp only [St.next_new] at nB
  have fi : fillA [(.int .i64 (.ofNat 0)), .nilsl, .nilsl] [(0, 1, .int .i64 (.ofNat n))] = some [.int .i64 (.ofNat n), .nilsl, .nilsl] := rfl
  have sto := store_new (st := sB) (zs := [(.int .i64 (.ofNat 0)), .nilsl, .nilsl]) (x := [.int .i64 (.ofNat n), .nilsl, .nilsl]) rfl rfl rfl
  obtain ⟨sC, hsC⟩ : ∃ sC, sC = (sB.new (.row [(.int .i64 (.ofNat 0)), .nilsl, .nilsl])).put sB.next (.row [.int .i64 (.ofNat n), .nilsl, .nilsl]) := ⟨_, rfl⟩
  have hC : Rdr q sC s p1 := by rw [hsC]; exact rdrPut (rdrNew hB (by omega)) (by omega)
  have nC : sC.next = sB.next + 1 := by rw [hsC]; rfl
  have kC : Keep1 q sB sC := by rw [hsC]; exact keepPut (keepNew _) (Nat.le_refl _)
  have gC : sC.get sB.next = some (.row [.int .i64 (.ofNat n), .nilsl, .nilsl]) := by rw [hsC, St.get_put, if_pos rfl]
  have gA : sC.get st.next = some (.row [(.int .i64 (.ofNat 0)), .nilsl, .nilsl]) := by
   rw [kC.2 _ (by omega) (by omega), kB.2 _ (by simp) (by omega), St.get_new, if_pos rfl]
  have hsev := sev_run (Rep := RepT) (FM := f + 1) (m := m) (g := 91) (c := 125) (o := 123) (one := pT s) (rs := fun f p => pTl s f 125 p) (Y := Y) t90 (fun f p => pTl_eq s f 125 p) (fun f p t p2 h => (pT_pos s f).1 p t p2 h) (fun {_ _ _ _ t cs} k g h => RepT.mono k g t cs h) (fun h => h.cells3) (fun x hx => fillT hx) (by decide) (by omega) hl
   (fun f' p' st' r1 r2 r3 r4 r5 => pval_run hl Y f' m p' st' (by omega) r1 r2 r3 r5) (f := f) hC hp2 (by omega) (by omega) (by omega) (by omega)
  rw [<- hsC] at sto
  simp only []
  cases hb : pB (pT s f) (pTl s f 125) s p1 123 with
  | err e =>
   rw [hb] at hsev
   obtain ⟨sD, hc2, hD, kD⟩ := hsev
   refine ⟨sD, fun_pan (mf := kf59) (fr := ?f2) t59 rfl ?x2 ?d2, hD, (k0.trans kB).trans (kC.trans kD)⟩
   case x2 => simp only [amE, reduceEqDiff, ↓reduceIte, reduceCtorEq, reduceAdd, kf59, g59_1, g59_2, nd_mkfn, cg_fn, hc, fi, sto, hc2] <;> rfl
   case d2 => rfl
  | ok vs p3 =>
   rw [hb] at hsev
   obtain ⟨sl, xs, sD, hc2, hD, kD, hsl, hrl⟩ := hsev
   have hp3 := pB_pos (pT_pos s f).1 ((pT_pos s f).2 125) hp2 hb
   have gD : sD.get sB.next = some (.row [.int .i64 (.ofNat n), .nilsl, .nilsl]) := (kD.2 _ (by omega) (by omega)).trans gC
   have gDA : sD.get st.next = some (.row [(.int .i64 (.ofNat 0)), .nilsl, .nilsl]) := (kD.2 _ (by omega) (by omega)).trans gA
   have st1 := st3m (v := sl) gD hsl.one
   have fa1' : faddrA 1 (.ptr sB.next 0) = some (.ptr sB.next 1) := rfl
   have fa2' : faddrA 2 (.ptr sB.next 0) = some (.ptr sB.next 2) := rfl
   obtain ⟨sE, hsE⟩ : ∃ sE, sE = sD.put sB.next (.row [.int .i64 (.ofNat n), sl, .nilsl]) := ⟨_, rfl⟩
   have gE : sE.get sB.next = some (.row [.int .i64 (.ofNat n), sl, .nilsl]) := by rw [hsE, St.get_put, if_pos rfl]
   have gEA : sE.get st.next = some (.row [(.int .i64 (.ofNat 0)), .nilsl, .nilsl]) := by rw [hsE, St.get_put, if_neg (by omega)]; exact gDA
   have hE : Rdr q sE s p3 := by rw [hsE]; exact rdrPut hD (by omega)
   have nE : sE.next = sD.next := by rw [hsE]; rfl
   rw [<- hsE] at st1
   have kDn := kD.1
   have hsev2 := sev_run (Rep := RepD) (FM := f + 1) (m := m) (g := 59) (c := 41) (o := 40) (one := pD s) (rs := pDl s) (Y := Y) t92 (fun f p => pDl_eq s f p) (fun f p t p2 h => (pD_pos s f).1 p t p2 h) (fun {_ _ _ _ t cs} k g h => RepD.mono k g t cs h) (fun h => h.cells3) (fun x hx => fillD hx) (by decide) (by omega) hl
    (fun f' p' st' r1 r2 r3 r4 r5 => ih f' (by omega) m p' st' (by omega) r1 r2 r3 r5) (f := f) hE hp3.2 (by omega) (by omega) (by omega) (by omega)
   simp only []
   cases hb2 : pB (pD s f) (pDl s f) s p3 40 with
   | err e =>
    rw [hb2] at hsev2
    obtain ⟨sG, hc3, hG, kG⟩ := hsev2
    refine ⟨sG, fun_pan (mf := kf59) (fr := ?f4) t59 rfl ?x4 ?d4, hG, ?k4⟩
    case x4 => simp only [amE, reduceEqDiff, ↓reduceIte, reduceCtorEq, reduceAdd, kf59, g59_1, g59_2, g59_3, nd_mkfn, cg_fn, hc, fi, sto, hc2, fa1', st1, hc3] <;> rfl
    case d4 => rfl
    case k4 =>
     have h2 := keepPut (i := sB.next) (o := .row [.int .i64 (.ofNat n), sl, .nilsl]) ((k0.trans kB).trans (kC.trans kD)) (by omega)
     rw [<- hsE] at h2
     exact h2.trans kG
   | ok l p4 =>
    rw [hb2] at hsev2
    obtain ⟨sl2, xs2, sG, hc3, hG, kG, hsl2, hrl2⟩ := hsev2
    have gG : sG.get sB.next = some (.row [.int .i64 (.ofNat n), sl, .nilsl]) := (kG.2 _ (by omega) (by omega)).trans gE
    have gGA : sG.get st.next = some (.row [(.int .i64 (.ofNat 0)), .nilsl, .nilsl]) := (kG.2 _ (by omega) (by omega)).trans gEA
    have st2 := st32 (v := sl2) gG hsl2.one
    obtain ⟨sH, hsH⟩ : ∃ sH, sH = sG.put sB.next (.row [.int .i64 (.ofNat n), sl, sl2]) := ⟨_, rfl⟩
    have gH : sH.get sB.next = some (.row [.int .i64 (.ofNat n), sl, sl2]) := by rw [hsH, St.get_put, if_pos rfl]
    have ld := load_row gH rfl
    have c3 : [AV.int .i64 (.ofNat n), sl, sl2].length = 3 /\ [AV.int .i64 (.ofNat n), sl, sl2].all AV.one = true := ⟨rfl, by show (true && (AV.one sl && (AV.one sl2 && true))) = true; rw [hsl.one, hsl2.one]; rfl⟩
    have gHA : sH.get st.next = some (.row [(.int .i64 (.ofNat 0)), .nilsl, .nilsl]) := by rw [hsH, St.get_put, if_neg (by omega)]; exact gGA
    have st4 := st3 gHA rfl c3
    obtain ⟨sF, hsF⟩ : ∃ sF, sF = sH.put st.next (.row [.int .i64 (.ofNat n), sl, sl2]) := ⟨_, rfl⟩
    have gF : sF.get st.next = some (.row [.int .i64 (.ofNat n), sl, sl2]) := by rw [hsF, St.get_put, if_pos rfl]
    have ldF := load_row gF rfl
    rw [<- hsH] at st2
    rw [<- hsF] at st4
    have nF : sF.next = sG.next := by rw [hsF, hsH]; rfl
    have kGn := kG.1
    have sm1 : Same (fun i => sC.next <= i /\ i < sD.next) sD sF := fun i hi => by
     rw [hsF, St.get_put, if_neg (by omega), hsH, St.get_put, if_neg (by omega), kG.2 i (by omega) (by omega), hsE, St.get_put, if_neg (by omega)]
    have sm2 : Same (fun i => sE.next <= i /\ i < sG.next) sG sF := fun i hi => by rw [hsF, St.get_put, if_neg (by omega), hsH, St.get_put, if_neg (by omega)]
    have kF : Keep1 q st sF := by
     have h1 := (k0.trans kB).trans (kC.trans kD)
     have h2 := (keepPut (i := sB.next) (o := .row [.int .i64 (.ofNat n), sl, .nilsl]) h1 (by omega))
     rw [<- hsE] at h2
     have h3 := h2.trans kG
     rw [hsF, hsH]
     exact keepPut (keepPut h3 (by omega)) (Nat.le_refl _)
    refine ⟨[.int .i64 (.ofNat n), sl, sl2], sF, fun_of (mf := kf59) (fr := ?f3) t59 rfl (.inl ?x3) ?d3 ?r3, ?h3, kF, ?p3⟩
    case x3 => simp only [amE, reduceEqDiff, ↓reduceIte, reduceCtorEq, reduceAdd, kf59, g59_1, g59_2, g59_3, nd_mkfn, cg_fn, hc, fi, sto, hc2, fa1', fa2', st1, hc3, st2, ld, st4] <;> rfl
    case d3 => rfl
    case r3 => simp only [kf59, amE, reduceEqDiff, ↓reduceIte, ldF]
    case h3 =>
     rw [hsF, hsH]
     exact rdrPut (rdrPut hG (by omega)) (by omega)
    case p3 =>
     simp only [RepD]
     have hF1 : ∀ i, (sC.next <= i /\ i < sD.next) -> st.next <= i /\ i < sF.next := fun i hi => by omega
     have hF2 : ∀ i, (sE.next <= i /\ i < sG.next) -> st.next <= i /\ i < sF.next := fun i hi => by omega
     exact ⟨sl, xs, sl2, xs2, rfl, hsl.mono sm1 hF1, RepTs.mono sm1 hF1 vs xs hrl.tms, hsl2.mono sm2 hF2, RepDs.mono sm2 hF2 l xs2 hrl2.dvs⟩
end Go.AM.D16
