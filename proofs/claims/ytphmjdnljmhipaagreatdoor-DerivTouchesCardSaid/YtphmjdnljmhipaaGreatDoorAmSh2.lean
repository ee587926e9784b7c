import Derived.Test.YtphmjdnljmhipaaGreatDoorAmShape
set_option linter.unusedSimpArgs false
set_option linter.unusedVariables false
set_option linter.defProp false
set_option maxRecDepth 100000
namespace Go.AM.D16
open Go Go.AM
section
variable {Γ : Cg} {dst : Option Nat} {gd : Option (Nat × Bool)} {ms : List MOper} {fr : Fr} {st : St}
theorem nd_max {a b} : arun Γ (⟨dst, (MOp.max a b), gd⟩ :: ms) fr st = match wantedA fr gd with
  | some true => (match opr Γ fr st (MOp.max a b) with
    | .val v st' => arun Γ ms (Fr.put fr dst v) st'
    | .pan v st' => .pan fr v st'
    | .stuck => .stuck)
  | some false => arun Γ ms (Fr.put fr dst .undef) st
  | none => .stuck := arun_nd rfl
theorem nd_mkfn {a b c} : arun Γ (⟨dst, (MOp.mkfn a b c), gd⟩ :: ms) fr st = match wantedA fr gd with
  | some true => (match opr Γ fr st (MOp.mkfn a b c) with
    | .val v st' => arun Γ ms (Fr.put fr dst v) st'
    | .pan v st' => .pan fr v st'
    | .stuck => .stuck)
  | some false => arun Γ ms (Fr.put fr dst .undef) st
  | none => .stuck := arun_nd rfl
theorem nd_slice {a b c d e} : arun Γ (⟨dst, (MOp.slice a b c d e), gd⟩ :: ms) fr st = match wantedA fr gd with
  | some true => (match opr Γ fr st (MOp.slice a b c d e) with
    | .val v st' => arun Γ ms (Fr.put fr dst v) st'
    | .pan v st' => .pan fr v st'
    | .stuck => .stuck)
  | some false => arun Γ ms (Fr.put fr dst .undef) st
  | none => .stuck := arun_nd rfl
theorem nd_aaddr {a b c d} : arun Γ (⟨dst, (MOp.aaddr a b c d), gd⟩ :: ms) fr st = match wantedA fr gd with
  | some true => (match opr Γ fr st (MOp.aaddr a b c d) with
    | .val v st' => arun Γ ms (Fr.put fr dst v) st'
    | .pan v st' => .pan fr v st'
    | .stuck => .stuck)
  | some false => arun Γ ms (Fr.put fr dst .undef) st
  | none => .stuck := arun_nd rfl
end
theorem kloop {Γ : Gam} {Y : Yenv} {m N c i n i2 : Nat} {ro : Option Nat} {B : MCode} {L : List Nat} {fr0 : Fr} {Q : Nat → Fr → St → Prop} {Post : Fr → St → Prop}
    (hc : c ∉ i :: L) (hi : i ∉ L) (hi2 : i2 ∉ L) (hn : n ∈ L) (g0 : fr0.get n = some (.int .i64 (.ofNat N))) (hN : N ≤ 9223372036854775807)
    (hQ : ∀ k fr st s v, (s = c ∨ s = i ∨ s = i2) → Q k fr st → Q k (fr.set s v) st)
    (hB : ∀ k fr st, k < N → Kp L fr0 fr → fr.get i = some (.int .i64 (.ofNat k)) → Q k fr st →
      (∃ FR st', acode Γ Y m B ro fr st = .norm FR st' ∧ Kp (i :: L) fr FR ∧ Q (k + 1) FR st') ∨ (∃ FR st', acode Γ Y m B ro fr st = .ret FR st' ∧ Post FR st')) :
    ∀ (j k : Nat) (fr : Fr) (st : St) (fuel : Nat), k + j = N → j < fuel → Kp L fr0 fr → fr.get i = some (.int .i64 (.ofNat k)) → Q k fr st →
      (∃ FR st', aloop (acode Γ Y m (lb c i n i2 B) ro) fuel fr st = .exit 0 FR st' ∧ Kp L fr0 FR ∧ Q N FR st') ∨ (∃ FR st', aloop (acode Γ Y m (lb c i n i2 B) ro) fuel fr st = .ret FR st' ∧ Post FR st')
  | _, _, _, _, 0, _, hf, _, _, _ => by omega
  | 0, k, fr, st, fuel + 1, hk, _, hp, gi, hq => by
    have hl : binB false .lss (.int .i64 (.ofNat k)) (.int .i64 (.ofNat N)) = some (.bool false) := by rw [lssN]; simp; omega
    have gn := hp.at hn g0
    have hkN : k = N := by omega
    refine .inl ⟨fr.set c (some (.bool false)), st, ?_, Kp.set (fun h => hc (List.mem_cons_of_mem _ h)) hp, hkN ▸ hQ _ _ _ _ _ (.inl rfl) hq⟩
    rw [aloop]
    simp only [amE, Nat.reduceEqDiff, ↓reduceIte, reduceCtorEq, Nat.reduceAdd, lb, gi, gn, hl]
  | j + 1, k, fr, st, fuel + 1, hk, hf, hp, gi, hq => by
    have hl : binB false .lss (.int .i64 (.ofNat k)) (.int .i64 (.ofNat N)) = some (.bool true) := by rw [lssN]; simp; omega
    have gn := hp.at hn g0
    have had := add1 (i := k) (by omega)
    have b11 : Nat.beq 1 1 = true := rfl
    have hic : i ≠ c := fun e => hc (by rw [e]; exact List.mem_cons_self)
    have hp1 : Kp L fr0 (fr.set c (some (.bool true))) := Kp.set (fun h => hc (List.mem_cons_of_mem _ h)) hp
    rcases hB k (fr.set c (some (.bool true))) st (by omega) hp1 (by rw [Fr.get_set, if_neg hic]; exact gi) (hQ _ _ _ _ _ (.inl rfl) hq) with ⟨FR, st', hb, hkp, hq'⟩ | ⟨FR, st', hb, hpo⟩
    · have gi' : FR.get i = some (.int .i64 (.ofNat k)) := hkp.at List.mem_cons_self (by rw [Fr.get_set, if_neg hic]; exact gi)
      have hkL : Kp L fr0 FR := hp1.trans ⟨hkp.1, fun x hx => hkp.2 x (List.mem_cons_of_mem _ hx)⟩
      have hst : acode Γ Y m (lb c i n i2 B) ro fr st = .norm ((FR.set i2 (some (.int .i64 (.ofNat (k + 1))))).set i (some (.int .i64 (.ofNat (k + 1))))) st' := by
        simp only [amE, Nat.reduceEqDiff, ↓reduceIte, reduceCtorEq, Nat.reduceAdd, lb, gi, gn, hl, hb, gi', had]
      rcases kloop hc hi hi2 hn g0 hN hQ hB j (k + 1) ((FR.set i2 (some (.int .i64 (.ofNat (k + 1))))).set i (some (.int .i64 (.ofNat (k + 1))))) st' fuel (by omega) (by omega)
        (Kp.set hi (Kp.set hi2 hkL)) (by rw [Fr.get_set, if_pos rfl]) (hQ _ _ _ _ _ (.inr (.inl rfl)) (hQ _ _ _ _ _ (.inr (.inr rfl)) hq')) with ⟨F2, s2, h, h2⟩ | ⟨F2, s2, h, h2⟩
      · refine .inl ⟨F2, s2, ?_, h2⟩
        rw [aloop, hst]
        exact h
      · refine .inr ⟨F2, s2, ?_, h2⟩
        rw [aloop, hst]
        exact h
    · refine .inr ⟨FR, st', ?_, hpo⟩
      rw [aloop]
      simp only [amE, Nat.reduceEqDiff, ↓reduceIte, reduceCtorEq, Nat.reduceAdd, lb, gi, gn, hl, hb]
theorem fun_of {f n : Nat} {mf : MFunc} {Y : Yenv} {args : List AV} {st st' : St} {fr : Fr} {v : AV} (ht : tbl f = some mf) (hle : args.length.ble mf.N = true)
    (h : acode (gamT tbl (handX exts) n) Y n mf.code none (frOf 0 args Fr.nil) st = .ret fr st' ∨ acode (gamT tbl (handX exts) n) Y n mf.code none (frOf 0 args Fr.nil) st = .norm fr st') (hd : fr.ds = []) (hr : resultA fr st' mf.res = .ret v st') :
    R (n + 1) Y f args st = .ret v st' := by
  unfold R
  rw [run_of ht]
  unfold abody
  rw [hle]
  rcases h with h | h <;> simp only [cond_true, h, endF, hd, aleaves, hr]
theorem Kp.sub {l l' : List Nat} {a b : Fr} (h : Kp l a b) (hs : ∀ x ∈ l', x ∈ l) : Kp l' a b := ⟨h.1, fun k hk => h.2 k (hs k hk)⟩
theorem drop_at {α : Type} {l : List α} {k : Nat} (h : k < l.length) : ∃ x, l[k]? = some x ∧ l.drop k = x :: l.drop (k + 1) := ⟨l[k], List.getElem?_eq_getElem h, List.drop_eq_getElem_cons h⟩
theorem ld0 {st : St} {id : Nat} {x : AV} {l : List AV} (h : st.get id = some (.row (x :: l))) : loadA false 1 st (.ptr id 0) = some x := by
  simp only [loadA, cellsAt, h, Option.bind_some, List.drop_zero]; rfl
theorem ld1 {st : St} {id : Nat} {x y : AV} {l : List AV} (h : st.get id = some (.row (x :: y :: l))) : loadA false 1 st (.ptr id 1) = some y := by
  simp only [loadA, cellsAt, h, Option.bind_some]; rfl
theorem ld2 {st : St} {id : Nat} {x y z : AV} {l : List AV} (h : st.get id = some (.row (x :: y :: z :: l))) : loadA false 1 st (.ptr id 2) = some z := by
  simp only [loadA, cellsAt, h, Option.bind_some]; rfl
theorem st20 {st : St} {id : Nat} {x y : AV} {k : IntKind} {v : Int} (h : st.get id = some (.row [x, y])) : storeA 1 st (.ptr id 0) (.int k v) = some (st.put id (.row [.int k v, y])) := by
  simp only [storeA, h]; rfl
theorem st21 {st : St} {id : Nat} {x y : AV} {k : IntKind} {v : Int} (h : st.get id = some (.row [x, y])) : storeA 1 st (.ptr id 1) (.int k v) = some (st.put id (.row [x, .int k v])) := by
  simp only [storeA, h]; rfl
noncomputable def bf162_0 : MCode := (.seq (.region [⟨(some 29), .iaddr 3 (.t 25) (.t 27), none⟩, ⟨(some 30), .load true 3 (.t 29), none⟩, ⟨(some 7), .alloc [(.int .i64 (.ofNat 0)), (.int .i64 (.ofNat 0)), .nilsl], none⟩, ⟨none, .store 3 (.t 7) (.t 30), none⟩])
 (.seq (.seq (.region [⟨(some 31), .mv (.t 0), none⟩, ⟨(some 32), .nilchk (.t 31), none⟩, ⟨(some 33), .faddr 0 (.t 32), none⟩, ⟨(some 34), .load false 1 (.t 33), none⟩, ⟨(some 35), .bin false .gtr (.t 34) (.c (.int .i64 (.ofNat 2000))), none⟩, ⟨(some 36), .mv (.t 35), none⟩, ⟨(some 37), .mv (.t 0), (some (36, false))⟩, ⟨(some 38), .nilchk (.t 37), (some (36, false))⟩, ⟨(some 39), .faddr 1 (.t 38), (some (36, false))⟩, ⟨(some 40), .load false 1 (.t 39), (some (36, false))⟩, ⟨(some 41), .bin false .gtr (.t 40) (.c (.int .i64 (.ofNat 200))), (some (36, false))⟩, ⟨(some 42), .pick (.t 36) (.c (.bool true)) (.t 41), none⟩])
 (.cond (.t 42)
 .ret
 .skip))
 (.region [⟨(some 43), .mv (.t 0), none⟩, ⟨(some 44), .load true 3 (.t 7), none⟩, ⟨(some 45), .mv (.t 2), none⟩, ⟨(some 46), .bin false .add (.t 45) (.c (.int .i64 (.ofNat 1))), none⟩, ⟨(some 47), .call (.c (.func (.func 162) [] [])) [(.t 43), (.t 44), (.t 46)], none⟩])))
noncomputable def kf162 : MFunc := ⟨49, (.seq (.region [⟨(some 4), .box true (.t 1), none⟩])
 (.seq (.region [⟨(some 8), .mv (.t 0), none⟩, ⟨(some 9), .nilchk (.t 8), none⟩, ⟨(some 10), .faddr 0 (.t 9), none⟩, ⟨(some 11), .load false 1 (.t 10), none⟩, ⟨(some 12), .bin false .add (.t 11) (.c (.int .i64 (.ofNat 1))), none⟩, ⟨(some 13), .nilchk (.t 8), none⟩, ⟨(some 14), .faddr 0 (.t 13), none⟩, ⟨none, .store 1 (.t 14) (.t 12), none⟩])
 (.seq (.region [⟨(some 15), .mv (.t 0), none⟩, ⟨(some 16), .mv (.t 0), none⟩, ⟨(some 17), .nilchk (.t 16), none⟩, ⟨(some 18), .faddr 1 (.t 17), none⟩, ⟨(some 19), .load false 1 (.t 18), none⟩, ⟨(some 20), .mv (.t 2), none⟩, ⟨(some 21), .max (.t 19) [(.t 20)], none⟩, ⟨(some 22), .nilchk (.t 15), none⟩, ⟨(some 23), .faddr 1 (.t 22), none⟩, ⟨none, .store 1 (.t 23) (.t 21), none⟩])
 (.seq (.region [⟨(some 24), .faddr 2 (.t 4), none⟩, ⟨(some 25), .load false 1 (.t 24), none⟩, ⟨(some 26), .len 0 (.t 25), none⟩, ⟨(some 27), .mv (.c (.int .i64 (.ofNat 0))), none⟩])
 (.block 0 (.loop (lb 28 27 26 48 bf162_0))))))), []⟩
theorem m162_eq : m162 = kf162 := by kernel_rfl
theorem t162 : tbl 162 = some m162 := by kernel_rfl
theorem count_run (t : Tm) : ∀ (n : Nat) (Y : Yenv) (F : Nat → Prop) (st : St) (id : Nat) (a b d : Int) (cs : List AV), RepT F st t cs → (∀ i, F i → i < st.next) → ¬ F id → id < st.next →
    st.get id = some (.row [.int .i64 a, .int .i64 b]) → t.fz ≤ n →
    ∃ st', R n Y 162 [.ptr id 0, .agg cs, .int .i64 d] st = .ret (.tuple []) st' ∧ Keep1 id st st' ∧ st'.get id = some (.row [.int .i64 (cntT t d a b).1, .int .i64 (cntT t d a b).2]) := by
  induction hs : t.fz using Nat.strongRecOn generalizing t with
  | _ s ih =>
  intro n Y F st id a b d cs hr hF hid hlt hg hn
  cases t with
  | mk k0 n0 nl ex l =>
  simp only [RepT] at hr
  obtain ⟨sl, xs, rfl, hsl, hrs⟩ := hr
  simp only [Tm.fz] at hs
  obtain ⟨m, rfl⟩ : ∃ m, n = m + 1 := ⟨n - 1, by omega⟩
  -- the start
  have nc : ∀ x, nilchkA (.ptr id x) = some (.ptr id x) := fun _ => rfl
  have fa : ∀ o, faddrA o (.ptr id 0) = some (.ptr id (0 + o)) := fun _ => rfl
  have e1 : binB false .add (.int .i64 a) (.int .i64 (.ofNat 1)) = some (.int .i64 (aw a 1)) := rfl
  have s1 := st20 (k := .i64) (v := aw a 1) hg
  have g1 : (st.put id (.row [.int .i64 (aw a 1), .int .i64 b])).get id = some (.row [.int .i64 (aw a 1), .int .i64 b]) := by rw [St.get_put, if_pos rfl]
  have e2 : foldA maxA (.int .i64 b) [.int .i64 d] = some (.int .i64 (mx b d)) := rfl
  have s2 := st21 (k := .i64) (v := mx b d) g1
  obtain ⟨st1, hst1⟩ : ∃ st1, st1 = (st.put id (.row [.int .i64 (aw a 1), .int .i64 b])).put id (.row [.int .i64 (aw a 1), .int .i64 (mx b d)]) := ⟨_, rfl⟩
  have k1 : Keep1 id st st1 := by rw [hst1]; exact (Keep1.put _ _ _).trans (Keep1.put _ _ _)
  have g2 : st1.get id = some (.row [.int .i64 (aw a 1), .int .i64 (mx b d)]) := by rw [hst1, St.get_put, if_pos rfl]
  rw [← hst1] at s2
  have fa2 : faddrA 2 (.fptr [.int .i64 k0, .int .i64 n0, sl] 0) = some (.fptr [.int .i64 k0, .int .i64 n0, sl] 2) := rfl
  have lf : loadA false 1 st1 (.fptr [.int .i64 k0, .int .i64 n0, sl] 2) = some sl := rfl
  have hlen := hsl.len st1
  obtain ⟨fr0, hfr0, z0, z2, z25, z26, z27, zd⟩ : ∃ fr0, (∀ X, acode (gamT tbl (handX exts) m) Y m (.seq (.region [⟨(some 4), .box true (.t 1), none⟩]) ( .seq (.region [⟨(some 8), .mv (.t 0), none⟩, ⟨(some 9), .nilchk (.t 8), none⟩, ⟨(some 10), .faddr 0 (.t 9), none⟩, ⟨(some 11), .load false 1 (.t 10), none⟩, ⟨(some 12), .bin false .add (.t 11) (.c (.int .i64 (.ofNat 1))), none⟩, ⟨(some 13), .nilchk (.t 8), none⟩, ⟨(some 14), .faddr 0 (.t 13), none⟩, ⟨none, .store 1 (.t 14) (.t 12), none⟩]) ( .seq (.region [⟨(some 15), .mv (.t 0), none⟩, ⟨(some 16), .mv (.t 0), none⟩, ⟨(some 17), .nilchk (.t 16), none⟩, ⟨(some 18), .faddr 1 (.t 17), none⟩, ⟨(some 19), .load false 1 (.t 18), none⟩, ⟨(some 20), .mv (.t 2), none⟩, ⟨(some 21), .max (.t 19) [(.t 20)], none⟩, ⟨(some 22), .nilchk (.t 15), none⟩, ⟨(some 23), .faddr 1 (.t 22), none⟩, ⟨none, .store 1 (.t 23) (.t 21), none⟩]) ( .seq (.region [⟨(some 24), .faddr 2 (.t 4), none⟩, ⟨(some 25), .load false 1 (.t 24), none⟩, ⟨(some 26), .len 0 (.t 25), none⟩, ⟨(some 27), .mv (.c (.int .i64 (.ofNat 0))), none⟩]) (X))))) none (frOf 0 [.ptr id 0, .agg [.int .i64 k0, .int .i64 n0, sl], .int .i64 d] Fr.nil) st = acode (gamT tbl (handX exts) m) Y m X none fr0 st1)
      ∧ fr0.get 0 = some (.ptr id 0) ∧ fr0.get 2 = some (.int .i64 d) ∧ fr0.get 25 = some sl ∧ fr0.get 26 = some (.int .i64 (.ofNat xs.length)) ∧ fr0.get 27 = some (.int .i64 (.ofNat 0)) ∧ fr0.ds = [] := by
    refine ⟨?f0, ?f1, ?f2, ?f3, ?f4, ?f5, ?f6, ?f7⟩
    case f1 =>
      intro X
      simp only [amE, Nat.reduceEqDiff, ↓reduceIte, reduceCtorEq, Nat.reduceAdd, nd_max, nc, fa, ld0 hg, e1, s1, ld1 g1, e2, s2, fa2, lf, hlen]
      rfl
    case f2 => simp only [frOf, Fr.get_set, Nat.reduceAdd, Nat.reduceEqDiff, ↓reduceIte]
    case f3 => simp only [frOf, Fr.get_set, Nat.reduceAdd, Nat.reduceEqDiff, ↓reduceIte]
    case f4 => simp only [Fr.get_set, Nat.reduceEqDiff, ↓reduceIte]
    case f5 => simp only [Fr.get_set, Nat.reduceEqDiff, ↓reduceIte]
    case f6 => simp only [Fr.get_set, ↓reduceIte]
    case f7 => rfl
  have hxl := hrs.len
  have hF1 : ∀ i, F i → i < st1.next := fun i hi => Nat.lt_of_lt_of_le (hF i hi) k1.1
  have b00 : Nat.beq 0 0 = true := rfl
  have hc : cntT (.mk k0 n0 nl ex l) d a b = cntL l d (aw a 1) (mx b d) := by unfold cntT; rfl
  rw [hc]
  have hB : ∀ k fr s, k < xs.length → Kp [0, 2, 25, 26] fr0 fr → fr.get 27 = some (.int .i64 (.ofNat k)) →
      (Keep1 id st s ∧ ∃ a1 b1, s.get id = some (.row [.int .i64 a1, .int .i64 b1]) ∧ cntL (l.drop k) d a1 b1 = cntL l d (aw a 1) (mx b d)) →
      (∃ FR s', acode (gamT tbl (handX exts) m) Y m bf162_0 none fr s = .norm FR s' ∧ Kp [27, 0, 2, 25, 26] fr FR ∧ (Keep1 id st s' ∧ ∃ a1 b1, s'.get id = some (.row [.int .i64 a1, .int .i64 b1]) ∧ cntL (l.drop (k + 1)) d a1 b1 = cntL l d (aw a 1) (mx b d))) ∨
      (∃ FR s', acode (gamT tbl (handX exts) m) Y m bf162_0 none fr s = .ret FR s' ∧ (FR.ds = [] ∧ Keep1 id st s' ∧ s'.get id = some (.row [.int .i64 (cntL l d (aw a 1) (mx b d)).1, .int .i64 (cntL l d (aw a 1) (mx b d)).2]))) := by
    intro k fr s hk hkp g27 ⟨hks, a1, b1, hg1, hcn⟩
    obtain ⟨t, ht, hdr⟩ := drop_at (l := l) (k := k) (by omega)
    obtain ⟨x, hx, hrx⟩ := hrs.at ht
    have hsame : Same F st s := Same.of1 hks hF hid
    obtain ⟨p, ia, ld⟩ := hsl.at hx
    have ld := ld s hsame
    obtain ⟨s1, sto, ks, go, hnx⟩ := next_el s (zs := [(.int .i64 (.ofNat 0)), (.int .i64 (.ofNat 0)), .nilsl]) rfl hrx.cells3
    have hlt1 : id < s.next := Nat.lt_of_lt_of_le hlt hks.1
    have hg2 := ks.get hlt1 hg1
    have q0 := hkp.at (k := 0) (by decide) z0
    have q2 := hkp.at (k := 2) (by decide) z2
    have q25 := hkp.at (k := 25) (by decide) z25
    have nc : ∀ x, nilchkA (.ptr id x) = some (.ptr id x) := fun _ => rfl
    have fa0 : faddrA 0 (.ptr id 0) = some (.ptr id 0) := rfl
    have fa1 : faddrA 1 (.ptr id 0) = some (.ptr id 1) := rfl
    have l0 := ld0 hg2
    have l1 := ld1 hg2
    have lx := load_row go hrx.cells3.1
    have ad : binB false .add (.int .i64 d) (.int .i64 (.ofNat 1)) = some (.int .i64 (aw d 1)) := rfl
    rw [hdr, cntL_cons] at hcn
    by_cases ca : a1 > 2000
    · have gt : binB false .gtr (.int .i64 a1) (.int .i64 (.ofNat 2000)) = some (.bool true) := by
        show some (AV.bool (decide (a1 > 2000))) = _
        rw [decide_eq_true ca]
      rw [if_pos ca] at hcn
      refine .inr ⟨?r0, s1, ?r1, ?r2, hks.trans (Keep1.of ks), ?r3⟩
      case r1 =>
        simp only [amE, Nat.reduceEqDiff, ↓reduceIte, reduceCtorEq, Nat.reduceAdd, bf162_0, q25, g27, ia, ld, sto, q0, nc, fa0, l0, gt, Bool.not_true, Bool.not_false]
        rfl
      case r2 => exact hkp.1.trans zd
      case r3 => rw [hg2, ← hcn]
    · have gt : binB false .gtr (.int .i64 a1) (.int .i64 (.ofNat 2000)) = some (.bool false) := by
        show some (AV.bool (decide (a1 > 2000))) = _
        rw [decide_eq_false ca]
      rw [if_neg ca] at hcn
      by_cases cb : b1 > 200
      · have gt2 : binB false .gtr (.int .i64 b1) (.int .i64 (.ofNat 200)) = some (.bool true) := by
          show some (AV.bool (decide (b1 > 200))) = _
          rw [decide_eq_true cb]
        rw [if_pos cb] at hcn
        refine .inr ⟨?u0, s1, ?u1, ?u2, hks.trans (Keep1.of ks), ?u3⟩
        case u1 =>
          simp only [amE, Nat.reduceEqDiff, ↓reduceIte, reduceCtorEq, Nat.reduceAdd, bf162_0, q25, g27, ia, ld, sto, q0, nc, fa0, fa1, l0, l1, gt, gt2, Bool.not_true, Bool.not_false]
          rfl
        case u2 => exact hkp.1.trans zd
        case u3 => rw [hg2, ← hcn]
      · have gt2 : binB false .gtr (.int .i64 b1) (.int .i64 (.ofNat 200)) = some (.bool false) := by
          show some (AV.bool (decide (b1 > 200))) = _
          rw [decide_eq_false cb]
        rw [if_neg cb] at hcn
        have hfz := Tm.fzL_mem (List.mem_of_getElem? ht)
        have hs1 : Same F st s1 := hsame.trans (Same.of ks fun i hi => Nat.lt_of_lt_of_le (hF i hi) hks.1)
        obtain ⟨s2, hcall, ks2, hg3⟩ := ih t.fz (by omega) t rfl m Y F s1 id a1 b1 (aw d 1) x (hrx.mono hs1 fun _ h => h) (fun i hi => Nat.lt_of_lt_of_le (hF i hi) (Nat.le_trans hks.1 ks.1)) hid (Nat.lt_of_lt_of_le hlt1 ks.1) hg2 (by omega)
        have hcall' : ((gamT tbl (handX exts) m).cg Y).fn 162 [.ptr id 0, .agg x, .int .i64 (aw d 1)] s1 = .ret (.tuple []) s2 := hcall
        refine .inl ⟨?v0, s2, ?v1, ?v2, (hks.trans (Keep1.of ks)).trans ks2, _, _, hg3, hcn⟩
        case v1 =>
          simp only [amE, Nat.reduceEqDiff, ↓reduceIte, reduceCtorEq, Nat.reduceAdd, bf162_0, q25, g27, ia, ld, sto, q0, q2, nc, fa0, fa1, l0, l1, gt, gt2, lx, ad, hcall', Bool.not_true, Bool.not_false]
          rfl
        case v2 => repeat (first | exact Kp.refl | refine Kp.set (by decide) ?_)
  rcases kloop (Γ := gamT tbl (handX exts) m) (Y := Y) (m := m) (N := xs.length) (c := 28) (i := 27) (n := 26) (i2 := 48) (ro := none) (L := [0, 2, 25, 26]) (fr0 := fr0) (by decide) (by decide) (by decide) (by decide) z26 hsl.2.1
    (Q := fun k _ s => Keep1 id st s ∧ ∃ a1 b1, s.get id = some (.row [.int .i64 a1, .int .i64 b1]) ∧ cntL (l.drop k) d a1 b1 = cntL l d (aw a 1) (mx b d)) (fun _ _ _ _ _ _ h => h) hB xs.length 0 fr0 st1 m (by omega) (by omega) Kp.refl z27 ⟨k1, _, _, g2, rfl⟩
    with ⟨FR, s', h1, h2, h3, a2, b2, h4, h5⟩ | ⟨FR, s', h1, h2, h3, h4⟩
  · rw [hxl, List.drop_length, cntL_nil] at h5
    refine ⟨s', fun_of (mf := kf162) (fr := FR) (by rw [t162, m162_eq]) rfl (.inr ?w1) (h2.1.trans zd) rfl, h3, by rw [h4, ← h5]⟩
    case w1 =>
      refine (hfr0 _).trans ?_
      simp only [amE, Nat.reduceEqDiff, ↓reduceIte, reduceCtorEq, Nat.reduceAdd, h1, b00]
  · refine ⟨s', fun_of (mf := kf162) (fr := FR) (by rw [t162, m162_eq]) rfl (.inl ?w2) h2 rfl, h3, h4⟩
    case w2 =>
      refine (hfr0 _).trans ?_
      simp only [amE, Nat.reduceEqDiff, ↓reduceIte, reduceCtorEq, Nat.reduceAdd, h1, b00]
noncomputable def bf136_0 : MCode := (.seq (.region [⟨(some 10), .mv (.t 8), none⟩, ⟨(some 5), .mv (.t 10), none⟩])
 (.seq (.region [⟨(some 11), .mv (.t 1), none⟩, ⟨(some 12), .mv (.t 0), none⟩, ⟨(some 13), .mv (.t 5), none⟩, ⟨(some 14), .iaddr 3 (.t 12) (.t 13), none⟩, ⟨(some 15), .load true 3 (.t 14), none⟩, ⟨(some 16), .call (.t 11) [(.t 15)], none⟩])
 (.cond (.t 16)
 (.seq (.region [⟨(some 17), .mv (.t 5), none⟩, ⟨(some 4), .mv (.t 17), none⟩])
 .ret)
 .skip)))
noncomputable def kf136 : MFunc := ⟨19, (.seq (.region [⟨(some 4), .mv (.c (.int .i64 (.ofNat 0))), none⟩])
 (.seq (.seq (.region [⟨(some 6), .mv (.t 0), none⟩, ⟨(some 7), .len 0 (.t 6), none⟩, ⟨(some 8), .mv (.c (.int .i64 (.ofNat 0))), none⟩])
 (.block 0 (.loop (lb 9 8 7 18 bf136_0))))
 (.seq (.region [⟨(some 4), .mv (.c (.int .i64 (.negSucc 0))), none⟩])
 .ret))), [.t 4]⟩
theorem m136_eq : m136 = kf136 := by kernel_rfl
theorem t136 : tbl 136 = some m136 := by kernel_rfl
theorem t139 : tbl 139 = some m139 := by kernel_rfl
theorem t108 : tbl 108 = some m108 := by kernel_rfl
theorem t111 : tbl 111 = some m111 := by kernel_rfl
theorem m139_eq : m139 = kf136 := by kernel_rfl
noncomputable def kf108 : MFunc := ⟨9, (.seq (.region [⟨(some 4), .mv (.c (.bool false)), none⟩])
 (.seq (.region [⟨(some 5), .mv (.t 0), none⟩, ⟨(some 6), .mv (.t 1), none⟩, ⟨(some 7), .call (.c (.func (.func 136) [] [])) [(.t 5), (.t 6)], none⟩, ⟨(some 8), .bin false .geq (.t 7) (.c (.int .i64 (.ofNat 0))), none⟩, ⟨(some 4), .mv (.t 8), none⟩])
 .ret)), [.t 4]⟩
theorem m108_eq : m108 = kf108 := by kernel_rfl
noncomputable def kf111 : MFunc := ⟨9, (.seq (.region [⟨(some 4), .mv (.c (.bool false)), none⟩])
 (.seq (.region [⟨(some 5), .mv (.t 0), none⟩, ⟨(some 6), .mv (.t 1), none⟩, ⟨(some 7), .call (.c (.func (.func 139) [] [])) [(.t 5), (.t 6)], none⟩, ⟨(some 8), .bin false .geq (.t 7) (.c (.int .i64 (.ofNat 0))), none⟩, ⟨(some 4), .mv (.t 8), none⟩])
 .ret)), [.t 4]⟩
theorem m111_eq : m111 = kf111 := by kernel_rfl
theorem idx_run {f q n : Nat} {Y : Yenv} {F : Nat → Prop} {st0 : St} {sl : AV} {xs : List (List AV)} {caps : List AV} {Inv : Nat → St → Prop} {Fin : St → Prop} (hf : tbl f = some kf136) (hsl : SlR F st0 sl xs)
    (hI : ∀ k s, Inv k s → Same F st0 s)
    (hcb : ∀ k x s, xs[k]? = some x → Inv k s → ∃ b s', R n Y q (.agg x :: caps) s = .ret (.bool b) s' ∧ (b = true → Fin s') ∧ (b = false → Inv (k + 1) s'))
    (st : St) (h0 : Inv 0 st) (hn : xs.length < n) :
    ∃ r s', R (n + 1) Y f [sl, .func (.func q) [] caps] st = .ret (.int .i64 r) s' ∧ ((r < 0 ∧ Inv xs.length s') ∨ (0 ≤ r ∧ Fin s')) := by
  have hlen := hsl.len st
  obtain ⟨fr0, hfr0, z0, z1, z7, z8, zd⟩ : ∃ fr0, (∀ L T, acode (gamT tbl (handX exts) n) Y n (.seq (.region [⟨(some 4), .mv (.c (.int .i64 (.ofNat 0))), none⟩]) (.seq (.seq (.region [⟨(some 6), .mv (.t 0), none⟩, ⟨(some 7), .len 0 (.t 6), none⟩, ⟨(some 8), .mv (.c (.int .i64 (.ofNat 0))), none⟩]) L) T)) none (frOf 0 [sl, .func (.func q) [] caps] Fr.nil) st = match acode (gamT tbl (handX exts) n) Y n L none fr0 st with
        | .norm fr st => acode (gamT tbl (handX exts) n) Y n T none fr st
        | r => r)
      ∧ fr0.get 0 = some sl ∧ fr0.get 1 = some (.func (.func q) [] caps) ∧ fr0.get 7 = some (.int .i64 (.ofNat xs.length)) ∧ fr0.get 8 = some (.int .i64 (.ofNat 0)) ∧ fr0.ds = [] := by
    refine ⟨?f0, ?f1, ?f2, ?f3, ?f4, ?f5, ?f7⟩
    case f1 =>
      intro L T
      simp only [amE, Nat.reduceEqDiff, ↓reduceIte, reduceCtorEq, Nat.reduceAdd, hlen]
      rfl
    case f2 => simp only [frOf, Fr.get_set, Nat.reduceAdd, Nat.reduceEqDiff, ↓reduceIte]
    case f3 => simp only [frOf, Fr.get_set, Nat.reduceAdd, Nat.reduceEqDiff, ↓reduceIte]
    case f4 => simp only [Fr.get_set, Nat.reduceEqDiff, ↓reduceIte]
    case f5 => simp only [Fr.get_set, ↓reduceIte]
    case f7 => rfl
  have b00 : Nat.beq 0 0 = true := rfl
  have hB : ∀ k fr s, k < xs.length → Kp [0, 1, 7] fr0 fr → fr.get 8 = some (.int .i64 (.ofNat k)) → Inv k s →
      (∃ FR s', acode (gamT tbl (handX exts) n) Y n bf136_0 none fr s = .norm FR s' ∧ Kp [8, 0, 1, 7] fr FR ∧ Inv (k + 1) s') ∨
      (∃ FR s', acode (gamT tbl (handX exts) n) Y n bf136_0 none fr s = .ret FR s' ∧ (FR.ds = [] ∧ (∃ j : Nat, FR.get 4 = some (.int .i64 (.ofNat j))) ∧ Fin s')) := by
    intro k fr s hk hkp g8 hi
    have hx : xs[k]? = some xs[k] := List.getElem?_eq_getElem hk
    generalize xs[k] = x at hx
    obtain ⟨p, ia, ld⟩ := hsl.at hx
    have ld := ld s (hI k s hi)
    obtain ⟨b, s', hc, h1, h2⟩ := hcb k x s hx hi
    have hc' : ((gamT tbl (handX exts) n).cg Y).fn q (.agg x :: caps) s = .ret (.bool b) s' := hc
    have q0 := hkp.at (k := 0) (by decide) z0
    have q1 := hkp.at (k := 1) (by decide) z1
    cases b with
    | true =>
      refine .inr ⟨?r0, s', ?r1, ?r2, ⟨k, ?r3⟩, h1 rfl⟩
      case r1 =>
        simp only [amE, Nat.reduceEqDiff, ↓reduceIte, reduceCtorEq, Nat.reduceAdd, bf136_0, q0, q1, g8, ia, ld, hc']
        rfl
      case r2 => exact hkp.1.trans zd
      case r3 => simp only [Fr.get_set, ↓reduceIte]
    | false =>
      refine .inl ⟨?v0, s', ?v1, ?v2, h2 rfl⟩
      case v1 =>
        simp only [amE, Nat.reduceEqDiff, ↓reduceIte, reduceCtorEq, Nat.reduceAdd, bf136_0, q0, q1, g8, ia, ld, hc']
        rfl
      case v2 => repeat (first | exact Kp.refl | refine Kp.set (by decide) ?_)
  rcases kloop (Γ := gamT tbl (handX exts) n) (Y := Y) (m := n) (N := xs.length) (c := 9) (i := 8) (n := 7) (i2 := 18) (ro := none) (L := [0, 1, 7]) (fr0 := fr0) (by decide) (by decide) (by decide) (by decide) z7 hsl.2.1
    (Q := fun k _ s => Inv k s) (fun _ _ _ _ _ _ h => h) hB xs.length 0 fr0 st n (by omega) (by omega) Kp.refl z8 h0
    with ⟨FR, s', h1, h2, h3⟩ | ⟨FR, s', h1, h2, ⟨j, h3⟩, h4⟩
  · refine ⟨.negSucc 0, s', fun_of (mf := kf136) (fr := FR.set 4 (some (.int .i64 (.negSucc 0)))) hf rfl (.inl ?w1) (h2.1.trans zd) ?w2, .inl ⟨by decide, h3⟩⟩
    case w1 =>
      refine (hfr0 _ _).trans ?_
      simp only [amE, Nat.reduceEqDiff, ↓reduceIte, reduceCtorEq, Nat.reduceAdd, h1, b00]
    case w2 => simp only [kf136, resultA, ressA, resA, Fr.get_set, ↓reduceIte, Option.bind_some, Option.map_some]
  · refine ⟨.ofNat j, s', fun_of (mf := kf136) (fr := FR) hf rfl (.inl ?w3) h2 ?w4, .inr ⟨Int.natCast_nonneg j, h4⟩⟩
    case w3 =>
      refine (hfr0 _ _).trans ?_
      simp only [amE, Nat.reduceEqDiff, ↓reduceIte, reduceCtorEq, Nat.reduceAdd, h1, b00]
    case w4 => simp only [kf136, resultA, ressA, resA, h3, Option.bind_some, Option.map_some]
theorem contains_run {f f' q n : Nat} {Y : Yenv} {F : Nat → Prop} {st0 : St} {sl : AV} {xs : List (List AV)} {caps : List AV} {Inv : Nat → St → Prop} {Fin : St → Prop} (hff : (f = 108 ∧ f' = 136) ∨ (f = 111 ∧ f' = 139)) (hsl : SlR F st0 sl xs)
    (hI : ∀ k s, Inv k s → Same F st0 s)
    (hcb : ∀ k x s, xs[k]? = some x → Inv k s → ∃ b s', R n Y q (.agg x :: caps) s = .ret (.bool b) s' ∧ (b = true → Fin s') ∧ (b = false → Inv (k + 1) s'))
    (st : St) (h0 : Inv 0 st) (hn : xs.length < n) :
    ∃ b s', R (n + 2) Y f [sl, .func (.func q) [] caps] st = .ret (.bool b) s' ∧ ((b = false ∧ Inv xs.length s') ∨ (b = true ∧ Fin s')) := by
  have hf' : tbl f' = some kf136 := by
    rcases hff with ⟨_, rfl⟩ | ⟨_, rfl⟩
    · rw [t136, m136_eq]
    · rw [t139, m139_eq]
  obtain ⟨r, s', hr, hc⟩ := idx_run hf' hsl hI hcb st h0 hn
  have hr' : ((gamT tbl (handX exts) (n + 1)).cg Y).fn f' [sl, .func (.func q) [] caps] st = .ret (.int .i64 r) s' := hr
  have hg : binB false .geq (.int .i64 r) (.int .i64 (.ofNat 0)) = some (.bool (decide (r ≥ 0))) := rfl
  refine ⟨decide (r ≥ 0), s', ?_, ?_⟩
  · rcases hff with ⟨rfl, rfl⟩ | ⟨rfl, rfl⟩
    · refine fun_of (mf := kf108) (fr := ?a0) (by rw [t108, m108_eq]) rfl (.inl ?a1) ?a2 ?a3
      case a1 =>
        simp only [amE, Nat.reduceEqDiff, ↓reduceIte, reduceCtorEq, Nat.reduceAdd, kf108, hr', hg]
        rfl
      case a2 => rfl
      case a3 => simp only [kf108, resultA, ressA, resA, Fr.get_set, ↓reduceIte, Option.bind_some, Option.map_some]
    · refine fun_of (mf := kf111) (fr := ?b0) (by rw [t111, m111_eq]) rfl (.inl ?b1) ?b2 ?b3
      case b1 =>
        simp only [amE, Nat.reduceEqDiff, ↓reduceIte, reduceCtorEq, Nat.reduceAdd, kf111, hr', hg]
        rfl
      case b2 => rfl
      case b3 => simp only [kf111, resultA, ressA, resA, Fr.get_set, ↓reduceIte, Option.bind_some, Option.map_some]
  · rcases hc with ⟨h1, h2⟩ | ⟨h1, h2⟩
    · exact .inl ⟨decide_eq_false (by omega), h2⟩
    · exact .inr ⟨decide_eq_true h1, h2⟩
end Go.AM.D16
set_option maxRecDepth 100000
namespace Go.AM.D16
open Go Go.AM
noncomputable def kf163 : MFunc := ⟨15, (.seq (.region [⟨(some 2), .mv (.c (.bool false)), none⟩])
 (.seq (.region [⟨(some 3), .mv (.t 0), none⟩, ⟨(some 4), .nilchk (.t 3), none⟩, ⟨(some 5), .faddr 0 (.t 4), none⟩, ⟨(some 6), .load false 1 (.t 5), none⟩, ⟨(some 7), .bin false .gtr (.t 6) (.c (.int .i64 (.ofNat 2000))), none⟩, ⟨(some 8), .mv (.t 7), none⟩, ⟨(some 9), .mv (.t 0), (some (8, false))⟩, ⟨(some 10), .nilchk (.t 9), (some (8, false))⟩, ⟨(some 11), .faddr 1 (.t 10), (some (8, false))⟩, ⟨(some 12), .load false 1 (.t 11), (some (8, false))⟩, ⟨(some 13), .bin false .gtr (.t 12) (.c (.int .i64 (.ofNat 200))), (some (8, false))⟩, ⟨(some 14), .pick (.t 8) (.c (.bool true)) (.t 13), none⟩, ⟨(some 2), .mv (.t 14), none⟩])
 .ret)), [.t 2]⟩
theorem m163_eq : m163 = kf163 := by kernel_rfl
theorem t163 : tbl 163 = some m163 := by kernel_rfl
noncomputable def g164_0 : List MOper := [⟨(some 1), .box true (.t 0), none⟩, ⟨(some 2), .mv (.c (.bool false)), none⟩]
noncomputable def g164_1 : List MOper := [⟨(some 4), .faddr 1 (.t 1), none⟩, ⟨(some 5), .load false 1 (.t 4), none⟩, ⟨(some 6), .bin false .lss (.t 5) (.c (.int .i64 (.ofNat 0))), none⟩, ⟨(some 3), .mv (.t 6), none⟩]
noncomputable def g164_2 : List MOper := [⟨(some 7), .faddr 0 (.t 1), none⟩, ⟨(some 8), .load false 1 (.t 7), none⟩, ⟨(some 9), .bin false .eql (.t 8) (.c (.int .i64 (.ofNat 1))), none⟩, ⟨(some 10), .mv (.t 9), none⟩, ⟨(some 11), .faddr 2 (.t 1), (some (10, true))⟩, ⟨(some 12), .load false 1 (.t 11), (some (10, true))⟩, ⟨(some 13), .len 0 (.t 12), (some (10, true))⟩, ⟨(some 14), .bin false .gtr (.t 13) (.c (.int .i64 (.ofNat 0))), (some (10, true))⟩, ⟨(some 15), .pick (.t 10) (.t 14) (.c (.bool false)), none⟩, ⟨(some 3), .mv (.t 15), none⟩]
noncomputable def g164_3 : List MOper := [⟨(some 16), .faddr 0 (.t 1), none⟩, ⟨(some 17), .load false 1 (.t 16), none⟩, ⟨(some 18), .bin false .neq (.t 17) (.c (.int .i64 (.ofNat 1))), none⟩, ⟨(some 19), .mv (.t 18), none⟩, ⟨(some 20), .faddr 0 (.t 1), (some (19, true))⟩, ⟨(some 21), .load false 1 (.t 20), (some (19, true))⟩, ⟨(some 22), .bin false .neq (.t 21) (.c (.int .i64 (.ofNat 2))), (some (19, true))⟩, ⟨(some 23), .pick (.t 19) (.t 22) (.c (.bool false)), none⟩, ⟨(some 3), .mv (.t 23), none⟩]
noncomputable def g164_4 : List MOper := [⟨(some 24), .faddr 2 (.t 1), none⟩, ⟨(some 25), .load false 1 (.t 24), none⟩, ⟨(some 26), .len 0 (.t 25), none⟩, ⟨(some 27), .bin false .gtr (.t 26) (.c (.int .i64 (.ofNat 8))), none⟩, ⟨(some 3), .mv (.t 27), none⟩]
noncomputable def g164_5 : List MOper := [⟨(some 2), .mv (.c (.bool false)), none⟩]
noncomputable def g164_6 : List MOper := [⟨(some 28), .faddr 2 (.t 1), none⟩, ⟨(some 29), .load false 1 (.t 28), none⟩, ⟨(some 30), .call (.c (.func (.func 108) [] [])) [(.t 29), (.c (.func (.func 214) [] []))], none⟩, ⟨(some 31), .un .not (.t 30), none⟩, ⟨(some 2), .mv (.t 31), none⟩]
noncomputable def kf164 : MFunc := ⟨32, (.seq (.region g164_0)
 (.seq (.block 0 (.seq (.seq (.region g164_1)
 (.cond (.t 3)
 .skip
 (.seq (.region g164_2)
 (.cond (.t 3)
 .skip
 (.seq (.region g164_3)
 (.cond (.t 3)
 .skip
 (.region g164_4)))))))
 (.cond (.t 3)
 (.seq (.region g164_5)
 .ret)
 .skip)))
 (.seq (.region g164_6)
 .ret))), [.t 2]⟩
theorem m164_eq : m164 = kf164 := by kernel_rfl
theorem t164 : tbl 164 = some m164 := by kernel_rfl
noncomputable def kf214 : MFunc := ⟨6, (.seq (.region [⟨(some 1), .box true (.t 0), none⟩, ⟨(some 2), .mv (.c (.bool false)), none⟩])
 (.seq (.region [⟨(some 3), .load true 3 (.t 1), none⟩, ⟨(some 4), .call (.c (.func (.func 164) [] [])) [(.t 3)], none⟩, ⟨(some 5), .un .not (.t 4), none⟩, ⟨(some 2), .mv (.t 5), none⟩])
 .ret)), [.t 2]⟩
theorem m214_eq : m214 = kf214 := by kernel_rfl
theorem t214 : tbl 214 = some m214 := by kernel_rfl
noncomputable def kf137 : MFunc := ⟨12, (.seq (.region [⟨(some 1), .box true (.t 0), none⟩, ⟨(some 2), .mv (.c (.bool false)), none⟩])
 (.seq (.region [⟨(some 3), .alloc [(.int .i64 (.ofNat 0)), (.int .i64 (.ofNat 0))], none⟩])
 (.seq (.region [⟨(some 4), .load true 3 (.t 1), none⟩, ⟨(some 5), .call (.c (.func (.func 162) [] [])) [(.t 3), (.t 4), (.c (.int .i64 (.ofNat 1)))], none⟩])
 (.seq (.region [⟨(some 6), .call (.c (.func (.func 163) [] [])) [(.t 3)], none⟩, ⟨(some 7), .un .not (.t 6), none⟩, ⟨(some 8), .mv (.t 7), none⟩, ⟨(some 9), .load true 3 (.t 1), (some (8, true))⟩, ⟨(some 10), .call (.c (.func (.func 164) [] [])) [(.t 9)], (some (8, true))⟩, ⟨(some 11), .pick (.t 8) (.t 10) (.c (.bool false)), none⟩, ⟨(some 2), .mv (.t 11), none⟩])
 .ret)))), [.t 2]⟩
theorem m137_eq : m137 = kf137 := by kernel_rfl
theorem t137 : tbl 137 = some m137 := by kernel_rfl
noncomputable def bf138_0 : MCode := (.seq (.region [⟨(some 10), .iaddr 3 (.t 6) (.t 8), none⟩, ⟨(some 11), .load true 3 (.t 10), none⟩, ⟨(some 5), .alloc [(.int .i64 (.ofNat 0)), (.int .i64 (.ofNat 0)), .nilsl], none⟩, ⟨none, .store 3 (.t 5) (.t 11), none⟩])
 (.seq (.seq (.region [⟨(some 12), .faddr 0 (.t 5), none⟩, ⟨(some 13), .load false 1 (.t 12), none⟩, ⟨(some 14), .bin false .eql (.t 13) (.c (.int .i64 (.ofNat 1))), none⟩])
 (.cond (.t 14)
 (.region [⟨(some 15), .mv (.t 3), none⟩, ⟨(some 16), .faddr 1 (.t 5), none⟩, ⟨(some 17), .load false 1 (.t 16), none⟩, ⟨(some 18), .max (.t 15) [(.t 17)], none⟩, ⟨(some 3), .mv (.t 18), none⟩])
 .skip))
 (.region [⟨(some 19), .mv (.t 3), none⟩, ⟨(some 20), .faddr 2 (.t 5), none⟩, ⟨(some 21), .load false 1 (.t 20), none⟩, ⟨(some 22), .call (.c (.func (.func 138) [] [])) [(.t 21)], none⟩, ⟨(some 23), .max (.t 19) [(.t 22)], none⟩, ⟨(some 3), .mv (.t 23), none⟩])))
noncomputable def kf138 : MFunc := ⟨26, (.seq (.region [⟨(some 2), .mv (.c (.int .i64 (.ofNat 0))), none⟩])
 (.seq (.region [⟨(some 3), .mv (.c (.int .i64 (.negSucc 0))), none⟩])
 (.seq (.seq (.region [⟨(some 6), .mv (.t 0), none⟩, ⟨(some 7), .len 0 (.t 6), none⟩, ⟨(some 8), .mv (.c (.int .i64 (.ofNat 0))), none⟩])
 (.block 0 (.loop (lb 9 8 7 24 bf138_0))))
 (.seq (.region [⟨(some 25), .mv (.t 3), none⟩, ⟨(some 2), .mv (.t 25), none⟩])
 .ret)))), [.t 2]⟩
theorem m138_eq : m138 = kf138 := by kernel_rfl
theorem t138 : tbl 138 = some m138 := by kernel_rfl
noncomputable def kf110 : MFunc := ⟨11, (.seq (.region [⟨(some 1), .box true (.t 0), none⟩, ⟨(some 2), .mv (.c (.bool false)), none⟩])
 (.seq (.region [⟨(some 3), .load true 3 (.t 1), none⟩, ⟨(some 4), .call (.c (.func (.func 137) [] [])) [(.t 3)], none⟩, ⟨(some 5), .mv (.t 4), none⟩, ⟨(some 6), .load true 3 (.t 1), (some (5, true))⟩, ⟨(some 7), .bslice 1 [(.int .i64 (.ofNat 0)), (.int .i64 (.ofNat 0)), .nilsl] [(0, 3, (.t 6))], (some (5, true))⟩, ⟨(some 8), .call (.c (.func (.func 138) [] [])) [(.t 7)], (some (5, true))⟩, ⟨(some 9), .bin false .lss (.t 8) (.c (.int .i64 (.ofNat 0))), (some (5, true))⟩, ⟨(some 10), .pick (.t 5) (.t 9) (.c (.bool false)), none⟩, ⟨(some 2), .mv (.t 10), none⟩])
 .ret)), [.t 2]⟩
theorem m110_eq : m110 = kf110 := by kernel_rfl
theorem t110 : tbl 110 = some m110 := by kernel_rfl
theorem over_run (n : Nat) (Y : Yenv) {st : St} {id : Nat} {a b : Int} (h : st.get id = some (.row [.int .i64 a, .int .i64 b])) : R (n + 1) Y 163 [.ptr id 0] st = .ret (.bool (overP (a, b))) st := by
  have nc : ∀ x, nilchkA (.ptr id x) = some (.ptr id x) := fun _ => rfl
  have fa0 : faddrA 0 (.ptr id 0) = some (.ptr id 0) := rfl
  have fa1 : faddrA 1 (.ptr id 0) = some (.ptr id 1) := rfl
  have l0 := ld0 h
  have l1 := ld1 h
  have gt : binB false .gtr (.int .i64 a) (.int .i64 (.ofNat 2000)) = some (.bool (decide (a > 2000))) := rfl
  have gt2 : binB false .gtr (.int .i64 b) (.int .i64 (.ofNat 200)) = some (.bool (decide (b > 200))) := rfl
  have ho : overP (a, b) = (decide (a > 2000) || decide (b > 200)) := rfl
  rw [ho]
  generalize decide (a > 2000) = B at *
  cases B with
  | true =>
    refine fun_of (mf := kf163) (fr := ?a0) (by rw [t163, m163_eq]) rfl (.inl ?a1) ?a2 ?a3
    case a1 =>
      simp only [amE, Nat.reduceEqDiff, ↓reduceIte, reduceCtorEq, Nat.reduceAdd, kf163, nc, fa0, l0, gt, Bool.not_true, Bool.not_false]
      rfl
    case a2 => rfl
    case a3 => simp only [kf163, resultA, ressA, resA, Fr.get_set, ↓reduceIte, Option.bind_some, Option.map_some, Bool.true_or]
  | false =>
    refine fun_of (mf := kf163) (fr := ?b0) (by rw [t163, m163_eq]) rfl (.inl ?b1) ?b2 ?b3
    case b1 =>
      simp only [amE, Nat.reduceEqDiff, ↓reduceIte, reduceCtorEq, Nat.reduceAdd, kf163, nc, fa0, fa1, l0, l1, gt, gt2, Bool.not_true, Bool.not_false]
      rfl
    case b2 => rfl
    case b3 => simp only [kf163, resultA, ressA, resA, Fr.get_set, ↓reduceIte, Option.bind_some, Option.map_some, Bool.false_or]
theorem ld3f (x y z : AV) (st : St) : loadA true 3 st (.fptr [x, y, z] 0) = some (.agg [x, y, z]) := rfl
theorem ld0f (x y z : AV) (st : St) : loadA false 1 st (.fptr [x, y, z] 0) = some x := rfl
theorem ld1f (x y z : AV) (st : St) : loadA false 1 st (.fptr [x, y, z] 1) = some y := rfl
theorem ld2f (x y z : AV) (st : St) : loadA false 1 st (.fptr [x, y, z] 2) = some z := rfl
theorem faf (cs : List AV) (o : Nat) : faddrA o (.fptr cs 0) = some (.fptr cs (0 + o)) := rfl
theorem unN (b : Bool) : unA .not (.bool b) = some (.bool (!b)) := rfl
theorem sigShaped (t : Tm) : ∀ (n : Nat) (Y : Yenv) (F : Nat → Prop) (st : St) (cs : List AV), RepT F st t cs → (∀ i, F i → i < st.next) → t.fz ≤ n →
    ∃ st', R n Y 164 [.agg cs] st = .ret (.bool (shT t)) st' ∧ Keeps st st' := by
  induction hs : t.fz using Nat.strongRecOn generalizing t with
  | _ s ih =>
  intro n Y F st cs hr hF hn
  cases t with
  | mk k0 n0 nl ex l =>
  simp only [RepT] at hr
  obtain ⟨sl, xs, rfl, hsl, hrs⟩ := hr
  simp only [Tm.fz] at hs
  obtain ⟨m, rfl⟩ : ∃ m, n = m + 5 := ⟨n - 5, by omega⟩
  have hxl := hrs.len
  have hlen := hsl.len st
  -- the list's elements
  obtain ⟨b, st', hc, hb⟩ := contains_run (n := m + 2) (Y := Y) (q := 214) (caps := []) (Inv := fun k s => Keeps st s ∧ shL (l.drop k) = shL l) (Fin := fun s => Keeps st s ∧ shL l = false) (.inl ⟨rfl, rfl⟩) hsl
    (fun k s h => Same.of h.1 hF) (fun k x s hx ⟨hk, hq⟩ => by
      have hkl : k < l.length := by have := (List.getElem?_eq_some_iff.1 hx).1; omega
      obtain ⟨t, ht, hdr⟩ := drop_at hkl
      obtain ⟨x', hx', hrx⟩ := hrs.at ht
      rw [hx] at hx'; injection hx' with hx'; subst hx'
      have hfz := Tm.fzL_mem (List.mem_of_getElem? ht)
      obtain ⟨s', hcall, hk'⟩ := ih t.fz (by omega) t rfl (m + 1) Y F s x (hrx.mono (Same.of hk hF) fun _ h => h) (fun i hi => Nat.lt_of_lt_of_le (hF i hi) hk.1) (by omega)
      refine ⟨!shT t, s', ?_, fun h => ⟨hk.trans hk', ?_⟩, fun h => ⟨hk.trans hk', ?_⟩⟩
      · have hcall' : ((gamT tbl (handX exts) (m + 1)).cg Y).fn 164 [.agg x] s = .ret (.bool (shT t)) s' := hcall
        obtain ⟨a, b, c, rfl⟩ : ∃ a b c, x = [a, b, c] := by
          have := hrx.cells3.1
          match x, this with
          | [a, b, c], _ => exact ⟨a, b, c, rfl⟩
        refine fun_of (mf := kf214) (fr := ?c0) (by rw [t214, m214_eq]) rfl (.inl ?c1) ?c2 ?c3
        case c1 =>
          simp only [amE, Nat.reduceEqDiff, ↓reduceIte, reduceCtorEq, Nat.reduceAdd, kf214, ld3f, hcall', unN]
          rfl
        case c2 => rfl
        case c3 => simp only [kf214, resultA, ressA, resA, Fr.get_set, ↓reduceIte, Option.bind_some, Option.map_some]
      · rw [← hq, hdr, shL_cons, if_neg (by simpa using h)]
      · rw [← hq, hdr, shL_cons, if_pos (by simpa using h)]) st ⟨Keeps.refl st, rfl⟩ (by omega)
  have hc' : ((gamT tbl (handX exts) (m + 4)).cg Y).fn 108 [sl, .func (.func 214) [] []] st = .ret (.bool b) st' := hc
  have hbs : (!b) = shL l ∧ Keeps st st' := by
    rcases hb with ⟨rfl, h1, h2⟩ | ⟨rfl, h1, h2⟩
    · rw [hxl, List.drop_length, shL_nil] at h2
      exact ⟨h2, h1⟩
    · exact ⟨h2.symm, h1⟩
  have lt : binB false .lss (.int .i64 n0) (.int .i64 (.ofNat 0)) = some (.bool (decide (n0 < 0))) := rfl
  have e1 : binB false .eql (.int .i64 k0) (.int .i64 (.ofNat 1)) = some (.bool (k0 == 1)) := rfl
  have g0 : binB false .gtr (.int .i64 (.ofNat xs.length)) (.int .i64 (.ofNat 0)) = some (.bool (decide (Int.ofNat l.length > 0))) := by rw [hxl]; rfl
  have ne1 : binB false .neq (.int .i64 k0) (.int .i64 (.ofNat 1)) = some (.bool (k0 != 1)) := rfl
  have ne2 : binB false .neq (.int .i64 k0) (.int .i64 (.ofNat 2)) = some (.bool (k0 != 2)) := rfl
  have g8 : binB false .gtr (.int .i64 (.ofNat xs.length)) (.int .i64 (.ofNat 8)) = some (.bool (decide (Int.ofNat l.length > 8))) := by rw [hxl]; rfl
  have b00 : Nat.beq 0 0 = true := rfl
  have hsh : shT (.mk k0 n0 nl ex l) = if badT k0 n0 l.length = true then false else shL l := by conv => lhs; unfold shT
  have hbad : badT k0 n0 l.length = (decide (n0 < 0) || ((k0 == 1) && decide (Int.ofNat l.length > 0)) || ((k0 != 1) && (k0 != 2)) || decide (Int.ofNat l.length > 8)) := rfl
  rw [hsh, hbad]
  generalize decide (n0 < 0) = B1 at *
  generalize (k0 == 1) = B2 at *
  generalize decide (Int.ofNat l.length > 0) = B3 at *
  generalize (k0 != 1) = B4 at *
  generalize (k0 != 2) = B5 at *
  generalize decide (Int.ofNat l.length > 8) = B6 at *
  obtain ⟨fA1, hA1⟩ : ∃ fA, fA = frOf 0 [.agg [.int .i64 k0, .int .i64 n0, sl]] Fr.nil := ⟨_, rfl⟩
  have gA1_0 : fA1.get 0 = some (.agg [.int .i64 k0, .int .i64 n0, sl]) := by rw [hA1]; simp only [frOf, Fr.get_set, Nat.reduceAdd, Nat.reduceEqDiff, ↓reduceIte]
  have dA1 : fA1.ds = [] := by rw [hA1]; rfl
  obtain ⟨fR2, hR2, kR2, oR2_1⟩ : ∃ fr', arun ((gamT tbl (handX exts) (m + 4)).cg Y) g164_0 fA1 st = .ok fr' st ∧ Kp [] fA1 fr' ∧ fr'.get 1 = some (.fptr [.int .i64 k0, .int .i64 n0, sl] 0) := by
    refine ⟨?r20, ?r21, ?r22, ?r2o1⟩
    case r21 =>
      simp only [amE, Nat.reduceEqDiff, ↓reduceIte, reduceCtorEq, Nat.reduceAdd, gA1_0, g164_0]
      rfl
    case r22 => repeat (first | exact Kp.refl | refine Kp.set (by decide) ?_)
    case r2o1 => simp only [Fr.get_set, Nat.reduceEqDiff, ↓reduceIte]
  have dR2 := kR2.1.trans dA1
  obtain ⟨fR3, hR3, kR3, oR3_3⟩ : ∃ fr', arun ((gamT tbl (handX exts) (m + 4)).cg Y) g164_1 fR2 st = .ok fr' st ∧ Kp [1] fR2 fr' ∧ fr'.get 3 = some (.bool B1) := by
    refine ⟨?r30, ?r31, ?r32, ?r3o3⟩
    case r31 =>
      simp only [amE, Nat.reduceEqDiff, ↓reduceIte, reduceCtorEq, Nat.reduceAdd, oR2_1, g164_1, faf, ld0f, ld1f, ld2f, hlen, lt]
      rfl
    case r32 => repeat (first | exact Kp.refl | refine Kp.set (by decide) ?_)
    case r3o3 => simp only [Fr.get_set, Nat.reduceEqDiff, ↓reduceIte]
  have gR3_1 := kR3.at (k := 1) (by decide) oR2_1
  have dR3 := kR3.1.trans dR2
  cases B1 with
  | true =>
    obtain ⟨fR4, hR4, kR4, oR4_2⟩ : ∃ fr', arun ((gamT tbl (handX exts) (m + 4)).cg Y) g164_5 fR3 st = .ok fr' st ∧ Kp [] fR3 fr' ∧ fr'.get 2 = some (.bool false) := by
      refine ⟨?r40, ?r41, ?r42, ?r4o2⟩
      case r41 =>
        simp only [amE, Nat.reduceEqDiff, ↓reduceIte, reduceCtorEq, Nat.reduceAdd, g164_5]
        rfl
      case r42 => repeat (first | exact Kp.refl | refine Kp.set (by decide) ?_)
      case r4o2 => simp only [Fr.get_set, Nat.reduceEqDiff, ↓reduceIte]
    have dR4 := kR4.1.trans dR3
    refine ⟨st, ?p4, Keeps.refl st⟩
    case p4 =>
      rw [if_pos (by simp)]
      refine fun_of (mf := kf164) (fr := fR4) (by rw [t164, m164_eq]) rfl (.inl ?q4) dR4 (by simp only [kf164, resultA, ressA, resA, oR4_2, Option.bind_some, Option.map_some])
      case q4 =>
        rw [← hA1]
        simp only [amE, Nat.reduceEqDiff, ↓reduceIte, reduceCtorEq, Nat.reduceAdd, kf164, b00, hR2, hR3, hR4, oR3_3]
  | false =>
    obtain ⟨fR5, hR5, kR5, oR5_3⟩ : ∃ fr', arun ((gamT tbl (handX exts) (m + 4)).cg Y) g164_2 fR3 st = .ok fr' st ∧ Kp [1] fR3 fr' ∧ fr'.get 3 = some (.bool (B2 && B3)) := by
      cases B2 with
      | true =>
        refine ⟨?r5t0, ?r5t1, ?r5t2, ?r5to3⟩
        case r5t1 =>
          simp only [amE, Nat.reduceEqDiff, ↓reduceIte, reduceCtorEq, Nat.reduceAdd, gR3_1, g164_2, faf, ld0f, ld1f, ld2f, hlen, e1, g0, Bool.not_true, Bool.not_false]
          rfl
        case r5t2 => repeat (first | exact Kp.refl | refine Kp.set (by decide) ?_)
        case r5to3 => simp only [Fr.get_set, Nat.reduceEqDiff, ↓reduceIte, Bool.true_and, Bool.false_and, Bool.true_or, Bool.false_or, Bool.and_true, Bool.and_false, Bool.or_true, Bool.or_false]
      | false =>
        refine ⟨?r5f0, ?r5f1, ?r5f2, ?r5fo3⟩
        case r5f1 =>
          simp only [amE, Nat.reduceEqDiff, ↓reduceIte, reduceCtorEq, Nat.reduceAdd, gR3_1, g164_2, faf, ld0f, ld1f, ld2f, hlen, e1, g0, Bool.not_true, Bool.not_false]
          rfl
        case r5f2 => repeat (first | exact Kp.refl | refine Kp.set (by decide) ?_)
        case r5fo3 => simp only [Fr.get_set, Nat.reduceEqDiff, ↓reduceIte, Bool.true_and, Bool.false_and, Bool.true_or, Bool.false_or, Bool.and_true, Bool.and_false, Bool.or_true, Bool.or_false]
    have gR5_1 := kR5.at (k := 1) (by decide) gR3_1
    have dR5 := kR5.1.trans dR3
    generalize (B2 && B3) = C2 at *
    cases C2 with
    | true =>
      obtain ⟨fR6, hR6, kR6, oR6_2⟩ : ∃ fr', arun ((gamT tbl (handX exts) (m + 4)).cg Y) g164_5 fR5 st = .ok fr' st ∧ Kp [] fR5 fr' ∧ fr'.get 2 = some (.bool false) := by
        refine ⟨?r60, ?r61, ?r62, ?r6o2⟩
        case r61 =>
          simp only [amE, Nat.reduceEqDiff, ↓reduceIte, reduceCtorEq, Nat.reduceAdd, g164_5]
          rfl
        case r62 => repeat (first | exact Kp.refl | refine Kp.set (by decide) ?_)
        case r6o2 => simp only [Fr.get_set, Nat.reduceEqDiff, ↓reduceIte]
      have dR6 := kR6.1.trans dR5
      refine ⟨st, ?p6, Keeps.refl st⟩
      case p6 =>
        rw [if_pos (by simp)]
        refine fun_of (mf := kf164) (fr := fR6) (by rw [t164, m164_eq]) rfl (.inl ?q6) dR6 (by simp only [kf164, resultA, ressA, resA, oR6_2, Option.bind_some, Option.map_some])
        case q6 =>
          rw [← hA1]
          simp only [amE, Nat.reduceEqDiff, ↓reduceIte, reduceCtorEq, Nat.reduceAdd, kf164, b00, hR2, hR3, hR5, hR6, oR3_3, oR5_3]
    | false =>
      obtain ⟨fR7, hR7, kR7, oR7_3⟩ : ∃ fr', arun ((gamT tbl (handX exts) (m + 4)).cg Y) g164_3 fR5 st = .ok fr' st ∧ Kp [1] fR5 fr' ∧ fr'.get 3 = some (.bool (B4 && B5)) := by
        cases B4 with
        | true =>
          refine ⟨?r7t0, ?r7t1, ?r7t2, ?r7to3⟩
          case r7t1 =>
            simp only [amE, Nat.reduceEqDiff, ↓reduceIte, reduceCtorEq, Nat.reduceAdd, gR5_1, g164_3, faf, ld0f, ld1f, ld2f, hlen, ne1, ne2, Bool.not_true, Bool.not_false]
            rfl
          case r7t2 => repeat (first | exact Kp.refl | refine Kp.set (by decide) ?_)
          case r7to3 => simp only [Fr.get_set, Nat.reduceEqDiff, ↓reduceIte, Bool.true_and, Bool.false_and, Bool.true_or, Bool.false_or, Bool.and_true, Bool.and_false, Bool.or_true, Bool.or_false]
        | false =>
          refine ⟨?r7f0, ?r7f1, ?r7f2, ?r7fo3⟩
          case r7f1 =>
            simp only [amE, Nat.reduceEqDiff, ↓reduceIte, reduceCtorEq, Nat.reduceAdd, gR5_1, g164_3, faf, ld0f, ld1f, ld2f, hlen, ne1, ne2, Bool.not_true, Bool.not_false]
            rfl
          case r7f2 => repeat (first | exact Kp.refl | refine Kp.set (by decide) ?_)
          case r7fo3 => simp only [Fr.get_set, Nat.reduceEqDiff, ↓reduceIte, Bool.true_and, Bool.false_and, Bool.true_or, Bool.false_or, Bool.and_true, Bool.and_false, Bool.or_true, Bool.or_false]
      have gR7_1 := kR7.at (k := 1) (by decide) gR5_1
      have dR7 := kR7.1.trans dR5
      generalize (B4 && B5) = C3 at *
      cases C3 with
      | true =>
        obtain ⟨fR8, hR8, kR8, oR8_2⟩ : ∃ fr', arun ((gamT tbl (handX exts) (m + 4)).cg Y) g164_5 fR7 st = .ok fr' st ∧ Kp [] fR7 fr' ∧ fr'.get 2 = some (.bool false) := by
          refine ⟨?r80, ?r81, ?r82, ?r8o2⟩
          case r81 =>
            simp only [amE, Nat.reduceEqDiff, ↓reduceIte, reduceCtorEq, Nat.reduceAdd, g164_5]
            rfl
          case r82 => repeat (first | exact Kp.refl | refine Kp.set (by decide) ?_)
          case r8o2 => simp only [Fr.get_set, Nat.reduceEqDiff, ↓reduceIte]
        have dR8 := kR8.1.trans dR7
        refine ⟨st, ?p8, Keeps.refl st⟩
        case p8 =>
          rw [if_pos (by simp)]
          refine fun_of (mf := kf164) (fr := fR8) (by rw [t164, m164_eq]) rfl (.inl ?q8) dR8 (by simp only [kf164, resultA, ressA, resA, oR8_2, Option.bind_some, Option.map_some])
          case q8 =>
            rw [← hA1]
            simp only [amE, Nat.reduceEqDiff, ↓reduceIte, reduceCtorEq, Nat.reduceAdd, kf164, b00, hR2, hR3, hR5, hR7, hR8, oR3_3, oR5_3, oR7_3]
      | false =>
        obtain ⟨fR9, hR9, kR9, oR9_3⟩ : ∃ fr', arun ((gamT tbl (handX exts) (m + 4)).cg Y) g164_4 fR7 st = .ok fr' st ∧ Kp [1] fR7 fr' ∧ fr'.get 3 = some (.bool B6) := by
          refine ⟨?r90, ?r91, ?r92, ?r9o3⟩
          case r91 =>
            simp only [amE, Nat.reduceEqDiff, ↓reduceIte, reduceCtorEq, Nat.reduceAdd, gR7_1, g164_4, faf, ld0f, ld1f, ld2f, hlen, g8]
            rfl
          case r92 => repeat (first | exact Kp.refl | refine Kp.set (by decide) ?_)
          case r9o3 => simp only [Fr.get_set, Nat.reduceEqDiff, ↓reduceIte]
        have gR9_1 := kR9.at (k := 1) (by decide) gR7_1
        have dR9 := kR9.1.trans dR7
        cases B6 with
        | true =>
          obtain ⟨fR10, hR10, kR10, oR10_2⟩ : ∃ fr', arun ((gamT tbl (handX exts) (m + 4)).cg Y) g164_5 fR9 st = .ok fr' st ∧ Kp [] fR9 fr' ∧ fr'.get 2 = some (.bool false) := by
            refine ⟨?r100, ?r101, ?r102, ?r10o2⟩
            case r101 =>
              simp only [amE, Nat.reduceEqDiff, ↓reduceIte, reduceCtorEq, Nat.reduceAdd, g164_5]
              rfl
            case r102 => repeat (first | exact Kp.refl | refine Kp.set (by decide) ?_)
            case r10o2 => simp only [Fr.get_set, Nat.reduceEqDiff, ↓reduceIte]
          have dR10 := kR10.1.trans dR9
          refine ⟨st, ?p10, Keeps.refl st⟩
          case p10 =>
            rw [if_pos (by simp)]
            refine fun_of (mf := kf164) (fr := fR10) (by rw [t164, m164_eq]) rfl (.inl ?q10) dR10 (by simp only [kf164, resultA, ressA, resA, oR10_2, Option.bind_some, Option.map_some])
            case q10 =>
              rw [← hA1]
              simp only [amE, Nat.reduceEqDiff, ↓reduceIte, reduceCtorEq, Nat.reduceAdd, kf164, b00, hR2, hR3, hR5, hR7, hR9, hR10, oR3_3, oR5_3, oR7_3, oR9_3]
        | false =>
          obtain ⟨fR11, hR11, kR11, oR11_2⟩ : ∃ fr', arun ((gamT tbl (handX exts) (m + 4)).cg Y) g164_6 fR9 st = .ok fr' st' ∧ Kp [] fR9 fr' ∧ fr'.get 2 = some (.bool (!b)) := by
            refine ⟨?r110, ?r111, ?r112, ?r11o2⟩
            case r111 =>
              simp only [amE, Nat.reduceEqDiff, ↓reduceIte, reduceCtorEq, Nat.reduceAdd, gR9_1, g164_6, faf, ld0f, ld1f, ld2f, hlen, hc', unN, Bool.not_true, Bool.not_false]
              rfl
            case r112 => repeat (first | exact Kp.refl | refine Kp.set (by decide) ?_)
            case r11o2 => simp only [Fr.get_set, Nat.reduceEqDiff, ↓reduceIte]
          have dR11 := kR11.1.trans dR9
          refine ⟨st', ?p11, hbs.2⟩
          case p11 =>
            rw [if_neg (by simp), ← hbs.1]
            refine fun_of (mf := kf164) (fr := fR11) (by rw [t164, m164_eq]) rfl (.inl ?q11) dR11 (by simp only [kf164, resultA, ressA, resA, oR11_2, Option.bind_some, Option.map_some])
            case q11 =>
              rw [← hA1]
              simp only [amE, Nat.reduceEqDiff, ↓reduceIte, reduceCtorEq, Nat.reduceAdd, kf164, b00, hR2, hR3, hR5, hR7, hR9, hR11, oR3_3, oR5_3, oR7_3, oR9_3]
theorem isTree_run (t : Tm) (n : Nat) (Y : Yenv) (F : Nat → Prop) (st : St) (cs : List AV) (hr : RepT F st t cs) (hF : ∀ i, F i → i < st.next) (hn : t.fz < n) :
    ∃ st', R n Y 137 [.agg cs] st = .ret (.bool (isTr t)) st' ∧ Keeps st st' := by
  obtain ⟨m, rfl⟩ : ∃ m, n = m + 1 := ⟨n - 1, by omega⟩
  have hfz : 12 ≤ t.fz := by cases t; simp only [Tm.fz]; omega
  obtain ⟨a, b, c, rfl⟩ : ∃ a b c, cs = [a, b, c] := by
    have := hr.cells3.1
    match cs, this with
    | [a, b, c], _ => exact ⟨a, b, c, rfl⟩
  obtain ⟨st1, hst1⟩ : ∃ st1, st1 = st.new (.row [.int .i64 (.ofNat 0), .int .i64 (.ofNat 0)]) := ⟨_, rfl⟩
  have k1 : Keeps st st1 := by rw [hst1]; exact Keeps.new _ _
  have g1 : st1.get st.next = some (.row [.int .i64 (.ofNat 0), .int .i64 (.ofNat 0)]) := by rw [hst1, St.get_new, if_pos rfl]
  have n1 : st1.next = st.next + 1 := by rw [hst1]; rfl
  have hF1 : ∀ i, F i → i < st1.next := fun i hi => Nat.lt_of_lt_of_le (hF i hi) k1.1
  have hid : ¬ F st.next := fun h => Nat.lt_irrefl _ (hF _ h)
  obtain ⟨st2, c1, k2, g2⟩ := count_run t m Y F st1 st.next (.ofNat 0) (.ofNat 0) (.ofNat 1) [a, b, c] (hr.mono (Same.of k1 hF) fun _ h => h) hF1 hid (by omega) g1 (by omega)
  have k02 := k1.then1 k2 (Nat.le_refl _)
  have c1' : ((gamT tbl (handX exts) m).cg Y).fn 162 [.ptr st.next 0, .agg [a, b, c], .int .i64 (.ofNat 1)] st1 = .ret (.tuple []) st2 := c1
  obtain ⟨m', rfl⟩ : ∃ m', m = m' + 1 := ⟨m - 1, by omega⟩
  have c2 : ((gamT tbl (handX exts) (m' + 1)).cg Y).fn 163 [.ptr st.next 0] st2 = .ret (.bool (overP (cntT t 1 0 0))) st2 := over_run m' Y g2
  obtain ⟨st3, c3, k3⟩ := sigShaped t (m' + 1) Y F st2 [a, b, c] (hr.mono (Same.of k02 hF) fun _ h => h) (fun i hi => Nat.lt_of_lt_of_le (hF i hi) k02.1) (by omega)
  have c3' : ((gamT tbl (handX exts) (m' + 1)).cg Y).fn 164 [.agg [a, b, c]] st2 = .ret (.bool (shT t)) st3 := c3
  have hres : isTr t = (!overP (cntT t 1 0 0) && shT t) := rfl
  rw [hres]
  generalize overP (cntT t 1 0 0) = B at *
  obtain ⟨fA12, hA12⟩ : ∃ fA, fA = frOf 0 [.agg [a, b, c]] Fr.nil := ⟨_, rfl⟩
  have gA12_0 : fA12.get 0 = some (.agg [a, b, c]) := by rw [hA12]; simp only [frOf, Fr.get_set, Nat.reduceAdd, Nat.reduceEqDiff, ↓reduceIte]
  have dA12 : fA12.ds = [] := by rw [hA12]; rfl
  obtain ⟨fR13, hR13, kR13, oR13_1⟩ : ∃ fr', arun ((gamT tbl (handX exts) (m' + 1)).cg Y) [⟨(some 1), .box true (.t 0), none⟩, ⟨(some 2), .mv (.c (.bool false)), none⟩] fA12 st = .ok fr' st ∧ Kp [] fA12 fr' ∧ fr'.get 1 = some (.fptr [a, b, c] 0) := by
    refine ⟨?r130, ?r131, ?r132, ?r13o1⟩
    case r131 =>
      simp only [amE, Nat.reduceEqDiff, ↓reduceIte, reduceCtorEq, Nat.reduceAdd, gA12_0]
      rfl
    case r132 => repeat (first | exact Kp.refl | refine Kp.set (by decide) ?_)
    case r13o1 => simp only [Fr.get_set, Nat.reduceEqDiff, ↓reduceIte]
  have dR13 := kR13.1.trans dA12
  obtain ⟨fR14, hR14, kR14, oR14_3⟩ : ∃ fr', arun ((gamT tbl (handX exts) (m' + 1)).cg Y) [⟨(some 3), .alloc [(.int .i64 (.ofNat 0)), (.int .i64 (.ofNat 0))], none⟩] fR13 st = .ok fr' st1 ∧ Kp [1] fR13 fr' ∧ fr'.get 3 = some (.ptr st.next 0) := by
    refine ⟨?r140, ?r141, ?r142, ?r14o3⟩
    case r141 =>
      simp only [amE, Nat.reduceEqDiff, ↓reduceIte, reduceCtorEq, Nat.reduceAdd, ← hst1]
      rfl
    case r142 => repeat (first | exact Kp.refl | refine Kp.set (by decide) ?_)
    case r14o3 => simp only [Fr.get_set, Nat.reduceEqDiff, ↓reduceIte]
  have gR14_1 := kR14.at (k := 1) (by decide) oR13_1
  have dR14 := kR14.1.trans dR13
  obtain ⟨fR15, hR15, kR15⟩ : ∃ fr', arun ((gamT tbl (handX exts) (m' + 1)).cg Y) [⟨(some 4), .load true 3 (.t 1), none⟩, ⟨(some 5), .call (.c (.func (.func 162) [] [])) [(.t 3), (.t 4), (.c (.int .i64 (.ofNat 1)))], none⟩] fR14 st1 = .ok fr' st2 ∧ Kp [1, 3] fR14 fr' := by
    refine ⟨?r150, ?r151, ?r152⟩
    case r151 =>
      simp only [amE, Nat.reduceEqDiff, ↓reduceIte, reduceCtorEq, Nat.reduceAdd, gR14_1, oR14_3, ld3f, c1']
      rfl
    case r152 => repeat (first | exact Kp.refl | refine Kp.set (by decide) ?_)
  have gR15_1 := kR15.at (k := 1) (by decide) gR14_1
  have gR15_3 := kR15.at (k := 3) (by decide) oR14_3
  have dR15 := kR15.1.trans dR14
  cases B with
  | true =>
    obtain ⟨fR16, hR16, kR16, oR16_2⟩ : ∃ fr', arun ((gamT tbl (handX exts) (m' + 1)).cg Y) [⟨(some 6), .call (.c (.func (.func 163) [] [])) [(.t 3)], none⟩, ⟨(some 7), .un .not (.t 6), none⟩, ⟨(some 8), .mv (.t 7), none⟩, ⟨(some 9), .load true 3 (.t 1), (some (8, true))⟩, ⟨(some 10), .call (.c (.func (.func 164) [] [])) [(.t 9)], (some (8, true))⟩, ⟨(some 11), .pick (.t 8) (.t 10) (.c (.bool false)), none⟩, ⟨(some 2), .mv (.t 11), none⟩] fR15 st2 = .ok fr' st2 ∧ Kp [] fR15 fr' ∧ fr'.get 2 = some (.bool false) := by
      refine ⟨?r160, ?r161, ?r162, ?r16o2⟩
      case r161 =>
        simp only [amE, Nat.reduceEqDiff, ↓reduceIte, reduceCtorEq, Nat.reduceAdd, gR15_1, gR15_3, ld3f, c2, c3', unN, Bool.not_true, Bool.not_false]
        rfl
      case r162 => repeat (first | exact Kp.refl | refine Kp.set (by decide) ?_)
      case r16o2 => simp only [Fr.get_set, Nat.reduceEqDiff, ↓reduceIte]
    have dR16 := kR16.1.trans dR15
    refine ⟨st2, fun_of (mf := kf137) (fr := fR16) (by rw [t137, m137_eq]) rfl (.inl ?q16) dR16 (by simp only [kf137, resultA, ressA, resA, oR16_2, Option.bind_some, Option.map_some, Bool.not_true, Bool.not_false, Bool.true_and, Bool.false_and]), k02⟩
    case q16 =>
      rw [← hA12]
      simp only [amE, Nat.reduceEqDiff, ↓reduceIte, reduceCtorEq, Nat.reduceAdd, kf137, hR13, hR14, hR15, hR16]
  | false =>
    obtain ⟨fR17, hR17, kR17, oR17_2⟩ : ∃ fr', arun ((gamT tbl (handX exts) (m' + 1)).cg Y) [⟨(some 6), .call (.c (.func (.func 163) [] [])) [(.t 3)], none⟩, ⟨(some 7), .un .not (.t 6), none⟩, ⟨(some 8), .mv (.t 7), none⟩, ⟨(some 9), .load true 3 (.t 1), (some (8, true))⟩, ⟨(some 10), .call (.c (.func (.func 164) [] [])) [(.t 9)], (some (8, true))⟩, ⟨(some 11), .pick (.t 8) (.t 10) (.c (.bool false)), none⟩, ⟨(some 2), .mv (.t 11), none⟩] fR15 st2 = .ok fr' st3 ∧ Kp [] fR15 fr' ∧ fr'.get 2 = some (.bool (shT t)) := by
      refine ⟨?r170, ?r171, ?r172, ?r17o2⟩
      case r171 =>
        simp only [amE, Nat.reduceEqDiff, ↓reduceIte, reduceCtorEq, Nat.reduceAdd, gR15_1, gR15_3, ld3f, c2, c3', unN, Bool.not_true, Bool.not_false]
        rfl
      case r172 => repeat (first | exact Kp.refl | refine Kp.set (by decide) ?_)
      case r17o2 => simp only [Fr.get_set, Nat.reduceEqDiff, ↓reduceIte]
    have dR17 := kR17.1.trans dR15
    refine ⟨st3, fun_of (mf := kf137) (fr := fR17) (by rw [t137, m137_eq]) rfl (.inl ?q17) dR17 (by simp only [kf137, resultA, ressA, resA, oR17_2, Option.bind_some, Option.map_some, Bool.not_true, Bool.not_false, Bool.true_and, Bool.false_and]), k02.trans k3⟩
    case q17 =>
      rw [← hA12]
      simp only [amE, Nat.reduceEqDiff, ↓reduceIte, reduceCtorEq, Nat.reduceAdd, kf137, hR13, hR14, hR15, hR17]
theorem greatest_run : ∀ (s : Nat) (l : List Tm) (n : Nat) (Y : Yenv) (F : Nat → Prop) (st : St) (sl : AV) (xs : List (List AV)), Tm.fzL l + l.length = s → SlR F st sl xs → RepTs F st l xs → (∀ i, F i → i < st.next) → s + 1 < n →
    ∃ st', R n Y 138 [sl] st = .ret (.int .i64 (greL l (.negSucc 0))) st' ∧ Keeps st st' := by
  intro s
  induction s using Nat.strongRecOn with
  | _ s ih =>
  intro l n Y F st sl xs hs hsl hrs hF hn
  obtain ⟨m, rfl⟩ : ∃ m, n = m + 1 := ⟨n - 1, by omega⟩
  have hxl := hrs.len
  have hlen := hsl.len st
  obtain ⟨fr0, hfr0, z3, z6, z7, z8, zd⟩ : ∃ fr0, (∀ L T, acode (gamT tbl (handX exts) m) Y m (.seq (.region [⟨(some 2), .mv (.c (.int .i64 (.ofNat 0))), none⟩]) (.seq (.region [⟨(some 3), .mv (.c (.int .i64 (.negSucc 0))), none⟩]) (.seq (.seq (.region [⟨(some 6), .mv (.t 0), none⟩, ⟨(some 7), .len 0 (.t 6), none⟩, ⟨(some 8), .mv (.c (.int .i64 (.ofNat 0))), none⟩]) L) T))) none (frOf 0 [sl] Fr.nil) st = match acode (gamT tbl (handX exts) m) Y m L none fr0 st with
        | .norm fr st => acode (gamT tbl (handX exts) m) Y m T none fr st
        | r => r)
      ∧ fr0.get 3 = some (.int .i64 (.negSucc 0)) ∧ fr0.get 6 = some sl ∧ fr0.get 7 = some (.int .i64 (.ofNat xs.length)) ∧ fr0.get 8 = some (.int .i64 (.ofNat 0)) ∧ fr0.ds = [] := by
    refine ⟨?f0, ?f1, ?f2, ?f3, ?f4, ?f5, ?f7⟩
    case f1 =>
      intro L T
      simp only [amE, Nat.reduceEqDiff, ↓reduceIte, reduceCtorEq, Nat.reduceAdd, hlen]
      rfl
    case f2 => simp only [Fr.get_set, Nat.reduceEqDiff, ↓reduceIte]
    case f3 => simp only [Fr.get_set, Nat.reduceEqDiff, ↓reduceIte]
    case f4 => simp only [Fr.get_set, Nat.reduceEqDiff, ↓reduceIte]
    case f5 => simp only [Fr.get_set, ↓reduceIte]
    case f7 => rfl
  have b00 : Nat.beq 0 0 = true := rfl
  have hB : ∀ k fr s, k < xs.length → Kp [6, 7] fr0 fr → fr.get 8 = some (.int .i64 (.ofNat k)) → (Keeps st s ∧ ∃ o, fr.get 3 = some (.int .i64 o) ∧ greL (l.drop k) o = greL l (.negSucc 0)) →
      (∃ FR s', acode (gamT tbl (handX exts) m) Y m bf138_0 none fr s = .norm FR s' ∧ Kp [8, 6, 7] fr FR ∧ (Keeps st s' ∧ ∃ o, FR.get 3 = some (.int .i64 o) ∧ greL (l.drop (k + 1)) o = greL l (.negSucc 0))) ∨
      (∃ FR s', acode (gamT tbl (handX exts) m) Y m bf138_0 none fr s = .ret FR s' ∧ False) := by
    intro k fr s hk hkp g8 ⟨hks, o, q3, hq⟩
    obtain ⟨t, ht, hdr⟩ := drop_at (l := l) (k := k) (by omega)
    obtain ⟨x, hx, hrx⟩ := hrs.at ht
    have hsame : Same F st s := Same.of hks hF
    obtain ⟨p, ia, ld⟩ := hsl.at hx
    have ld := ld s hsame
    obtain ⟨s1, sto, ks, go, hnx⟩ := next_el s (zs := [(.int .i64 (.ofNat 0)), (.int .i64 (.ofNat 0)), .nilsl]) rfl hrx.cells3
    rw [hdr, greL_cons] at hq
    have hfz := Tm.fzL_mem (List.mem_of_getElem? ht)
    cases t with
    | mk k1 n1 nl1 ex1 l1 =>
    have hrx1 := hrx.mono (hsame.trans (Same.of ks fun i hi => Nat.lt_of_lt_of_le (hF i hi) hks.1)) fun _ h => h
    simp only [RepT] at hrx1
    obtain ⟨sl1, xs1, rfl, hsl1, hrs1⟩ := hrx1
    simp only [Tm.fz] at hfz
    obtain ⟨s2, hcall, ks2⟩ := ih (Tm.fzL l1 + l1.length) (by omega) l1 m Y F s1 sl1 xs1 rfl hsl1 hrs1 (fun i hi => Nat.lt_of_lt_of_le (hF i hi) (Nat.le_trans hks.1 ks.1)) (by omega)
    have hcall' : ((gamT tbl (handX exts) m).cg Y).fn 138 [sl1] s1 = .ret (.int .i64 (greL l1 (.negSucc 0))) s2 := hcall
    have q6 := hkp.at (k := 6) (by decide) z6
    have q7 := hkp.at (k := 7) (by decide) z7
    have fa : ∀ o, faddrA o (.ptr s.next 0) = some (.ptr s.next (0 + o)) := fun _ => rfl
    have l0 := ld0 go
    have l1' := ld1 go
    have l2 := ld2 go
    have e1 : binB false .eql (.int .i64 k1) (.int .i64 (.ofNat 1)) = some (.bool (k1 == 1)) := rfl
    have fm : ∀ x y : Int, foldA maxA (.int .i64 x) [.int .i64 y] = some (.int .i64 (mx x y)) := fun _ _ => rfl
    have hgt : greT (.mk k1 n1 nl1 ex1 l1) o = mx (if k1 = 1 then mx o n1 else o) (greL l1 (.negSucc 0)) := by conv => lhs; unfold greT
    rw [hgt] at hq
    generalize hC : (k1 == 1) = C at *
    obtain ⟨fR18, hR18, kR18, oR18_5⟩ : ∃ fr', arun ((gamT tbl (handX exts) m).cg Y) [⟨(some 10), .iaddr 3 (.t 6) (.t 8), none⟩, ⟨(some 11), .load true 3 (.t 10), none⟩, ⟨(some 5), .alloc [(.int .i64 (.ofNat 0)), (.int .i64 (.ofNat 0)), .nilsl], none⟩, ⟨none, .store 3 (.t 5) (.t 11), none⟩] fr s = .ok fr' s1 ∧ Kp [3, 6, 7, 8] fr fr' ∧ fr'.get 5 = some (.ptr s.next 0) := by
      refine ⟨?r180, ?r181, ?r182, ?r18o5⟩
      case r181 =>
        simp only [amE, Nat.reduceEqDiff, ↓reduceIte, reduceCtorEq, Nat.reduceAdd, q6, g8, ia, ld, sto]
        rfl
      case r182 => repeat (first | exact Kp.refl | refine Kp.set (by decide) ?_)
      case r18o5 => simp only [Fr.get_set, Nat.reduceEqDiff, ↓reduceIte]
    have gR18_3 := kR18.at (k := 3) (by decide) q3
    obtain ⟨fR19, hR19, kR19, oR19_14⟩ : ∃ fr', arun ((gamT tbl (handX exts) m).cg Y) [⟨(some 12), .faddr 0 (.t 5), none⟩, ⟨(some 13), .load false 1 (.t 12), none⟩, ⟨(some 14), .bin false .eql (.t 13) (.c (.int .i64 (.ofNat 1))), none⟩] fR18 s1 = .ok fr' s1 ∧ Kp [3, 5, 6, 7, 8] fR18 fr' ∧ fr'.get 14 = some (.bool C) := by
      refine ⟨?r190, ?r191, ?r192, ?r19o14⟩
      case r191 =>
        simp only [amE, Nat.reduceEqDiff, ↓reduceIte, reduceCtorEq, Nat.reduceAdd, oR18_5, fa, l0, l1', l2, e1]
        rfl
      case r192 => repeat (first | exact Kp.refl | refine Kp.set (by decide) ?_)
      case r19o14 => simp only [Fr.get_set, Nat.reduceEqDiff, ↓reduceIte]
    have gR19_3 := kR19.at (k := 3) (by decide) gR18_3
    have gR19_5 := kR19.at (k := 5) (by decide) oR18_5
    cases C with
    | true =>
      rw [if_pos (by simpa using hC)] at hq
      obtain ⟨fR20, hR20, kR20, oR20_3⟩ : ∃ fr', arun ((gamT tbl (handX exts) m).cg Y) [⟨(some 15), .mv (.t 3), none⟩, ⟨(some 16), .faddr 1 (.t 5), none⟩, ⟨(some 17), .load false 1 (.t 16), none⟩, ⟨(some 18), .max (.t 15) [(.t 17)], none⟩, ⟨(some 3), .mv (.t 18), none⟩] fR19 s1 = .ok fr' s1 ∧ Kp [5, 6, 7, 8] fR19 fr' ∧ fr'.get 3 = some (.int .i64 (mx o n1)) := by
        refine ⟨?r200, ?r201, ?r202, ?r20o3⟩
        case r201 =>
          simp only [amE, Nat.reduceEqDiff, ↓reduceIte, reduceCtorEq, Nat.reduceAdd, gR19_3, gR19_5, nd_max, fm, fa, l0, l1', l2]
          rfl
        case r202 => repeat (first | exact Kp.refl | refine Kp.set (by decide) ?_)
        case r20o3 => simp only [Fr.get_set, Nat.reduceEqDiff, ↓reduceIte]
      have gR20_5 := kR20.at (k := 5) (by decide) gR19_5
      obtain ⟨fR21, hR21, kR21, oR21_3⟩ : ∃ fr', arun ((gamT tbl (handX exts) m).cg Y) [⟨(some 19), .mv (.t 3), none⟩, ⟨(some 20), .faddr 2 (.t 5), none⟩, ⟨(some 21), .load false 1 (.t 20), none⟩, ⟨(some 22), .call (.c (.func (.func 138) [] [])) [(.t 21)], none⟩, ⟨(some 23), .max (.t 19) [(.t 22)], none⟩, ⟨(some 3), .mv (.t 23), none⟩] fR20 s1 = .ok fr' s2 ∧ Kp [6, 7, 8] fR20 fr' ∧ fr'.get 3 = some (.int .i64 (mx (mx o n1) (greL l1 (.negSucc 0)))) := by
        refine ⟨?r210, ?r211, ?r212, ?r21o3⟩
        case r211 =>
          simp only [amE, Nat.reduceEqDiff, ↓reduceIte, reduceCtorEq, Nat.reduceAdd, gR20_5, oR20_3, nd_max, fm, fa, l0, l1', l2, hcall']
          rfl
        case r212 => repeat (first | exact Kp.refl | refine Kp.set (by decide) ?_)
        case r21o3 => simp only [Fr.get_set, Nat.reduceEqDiff, ↓reduceIte]
      refine .inl ⟨fR21, s2, ?q21, ((((kR18.sub (by decide)).trans (kR19.sub (by decide))).trans (kR20.sub (by decide))).trans (kR21.sub (by decide))), (hks.trans ks).trans ks2, _, oR21_3, hq⟩
      case q21 => simp only [amE, Nat.reduceEqDiff, ↓reduceIte, reduceCtorEq, Nat.reduceAdd, bf138_0, hR18, hR19, hR20, hR21, oR19_14]
    | false =>
      rw [if_neg (by simpa using hC)] at hq
      obtain ⟨fR22, hR22, kR22, oR22_3⟩ : ∃ fr', arun ((gamT tbl (handX exts) m).cg Y) [⟨(some 19), .mv (.t 3), none⟩, ⟨(some 20), .faddr 2 (.t 5), none⟩, ⟨(some 21), .load false 1 (.t 20), none⟩, ⟨(some 22), .call (.c (.func (.func 138) [] [])) [(.t 21)], none⟩, ⟨(some 23), .max (.t 19) [(.t 22)], none⟩, ⟨(some 3), .mv (.t 23), none⟩] fR19 s1 = .ok fr' s2 ∧ Kp [6, 7, 8] fR19 fr' ∧ fr'.get 3 = some (.int .i64 (mx o (greL l1 (.negSucc 0)))) := by
        refine ⟨?r220, ?r221, ?r222, ?r22o3⟩
        case r221 =>
          simp only [amE, Nat.reduceEqDiff, ↓reduceIte, reduceCtorEq, Nat.reduceAdd, gR19_3, gR19_5, nd_max, fm, fa, l0, l1', l2, hcall']
          rfl
        case r222 => repeat (first | exact Kp.refl | refine Kp.set (by decide) ?_)
        case r22o3 => simp only [Fr.get_set, Nat.reduceEqDiff, ↓reduceIte]
      refine .inl ⟨fR22, s2, ?q22, (((kR18.sub (by decide)).trans (kR19.sub (by decide))).trans (kR22.sub (by decide))), (hks.trans ks).trans ks2, _, oR22_3, hq⟩
      case q22 => simp only [amE, Nat.reduceEqDiff, ↓reduceIte, reduceCtorEq, Nat.reduceAdd, bf138_0, hR18, hR19, hR22, oR19_14]
  rcases kloop (Γ := gamT tbl (handX exts) m) (Y := Y) (m := m) (N := xs.length) (c := 9) (i := 8) (n := 7) (i2 := 24) (ro := none) (L := [6, 7]) (fr0 := fr0) (by decide) (by decide) (by decide) (by decide) z7 hsl.2.1
    (Q := fun k fr s => Keeps st s ∧ ∃ o, fr.get 3 = some (.int .i64 o) ∧ greL (l.drop k) o = greL l (.negSucc 0)) (fun k fr s sl v hs ⟨h1, o, h2, h3⟩ => ⟨h1, o, by rw [Fr.get_set, if_neg (by omega)]; exact h2, h3⟩) hB xs.length 0 fr0 st m (by omega) (by omega) Kp.refl z8 ⟨Keeps.refl st, _, z3, rfl⟩
    with ⟨FR, s', h1, h2, h3, o, h4, h5⟩ | ⟨FR, s', h1, h2⟩
  · rw [hxl, List.drop_length, greL_nil] at h5
    rw [h5] at h4
    refine ⟨s', fun_of (mf := kf138) (fr := (FR.set 25 (some (.int .i64 (greL l (.negSucc 0))))).set 2 (some (.int .i64 (greL l (.negSucc 0))))) (by rw [t138, m138_eq]) rfl (.inl ?w1) (h2.1.trans zd) ?w2, h3⟩
    case w1 =>
      refine (hfr0 _ _).trans ?_
      simp only [amE, Nat.reduceEqDiff, ↓reduceIte, reduceCtorEq, Nat.reduceAdd, h1, b00, h4]
    case w2 => simp only [kf138, resultA, ressA, resA, Fr.get_set, ↓reduceIte, Option.bind_some, Option.map_some]
  · exact absurd h2 id
theorem ground_run (t : Tm) (n : Nat) (Y : Yenv) (F : Nat → Prop) (st : St) (cs : List AV) (hr : RepT F st t cs) (hF : ∀ i, F i → i < st.next) (hn : t.fz + 4 ≤ n) :
    ∃ st', R n Y 110 [.agg cs] st = .ret (.bool (gr t)) st' ∧ Keeps st st' := by
  obtain ⟨m, rfl⟩ : ∃ m, n = m + 1 := ⟨n - 1, by omega⟩
  obtain ⟨st1, c1, k1⟩ := isTree_run t m Y F st cs hr hF (by omega)
  have hc3 := hr.cells3
  have hr1 := hr.mono (Same.of k1 hF) fun _ h => h
  obtain ⟨a, b, c, rfl⟩ : ∃ a b c, cs = [a, b, c] := by
    match cs, hc3.1 with
    | [a, b, c], _ => exact ⟨a, b, c, rfl⟩
  have hsl : SlR F st1 (.lst 1 [a, b, c] true) [[a, b, c]] := by
    have := SlR.lst F st1 (n := 1) (xs := [[a, b, c]]) (ex := true) (fun x hx => by simp only [List.mem_singleton] at hx; subst hx; exact hc3) (by simp) rfl
    simpa using this
  obtain ⟨st2, c2, k2⟩ := greatest_run (Tm.fzL [t] + 1) [t] m Y F st1 (.lst 1 [a, b, c] true) [[a, b, c]] rfl hsl (by simp only [RepTs]; exact ⟨_, _, rfl, hr1, rfl⟩) (fun i hi => Nat.lt_of_lt_of_le (hF i hi) k1.1) (by simp only [Tm.fzL]; omega)
  have c1' : ((gamT tbl (handX exts) m).cg Y).fn 137 [.agg [a, b, c]] st = .ret (.bool (isTr t)) st1 := c1
  have c2' : ((gamT tbl (handX exts) m).cg Y).fn 138 [.lst 1 [a, b, c] true] st1 = .ret (.int .i64 (greL [t] (.negSucc 0))) st2 := c2
  have fl : fillA [.int .i64 (.ofNat 0), .int .i64 (.ofNat 0), .nilsl] [(0, 3, .agg [a, b, c])] = some [a, b, c] := rfl
  have lt : binB false .lss (.int .i64 (greL [t] (.negSucc 0))) (.int .i64 (.ofNat 0)) = some (.bool (decide (greL [t] (.negSucc 0) < 0))) := rfl
  have hres : gr t = (isTr t && decide (greL [t] (.negSucc 0) < 0)) := rfl
  rw [hres]
  generalize isTr t = B at *
  obtain ⟨fA23, hA23⟩ : ∃ fA, fA = frOf 0 [.agg [a, b, c]] Fr.nil := ⟨_, rfl⟩
  have gA23_0 : fA23.get 0 = some (.agg [a, b, c]) := by rw [hA23]; simp only [frOf, Fr.get_set, Nat.reduceAdd, Nat.reduceEqDiff, ↓reduceIte]
  have dA23 : fA23.ds = [] := by rw [hA23]; rfl
  obtain ⟨fR24, hR24, kR24, oR24_1⟩ : ∃ fr', arun ((gamT tbl (handX exts) m).cg Y) [⟨(some 1), .box true (.t 0), none⟩, ⟨(some 2), .mv (.c (.bool false)), none⟩] fA23 st = .ok fr' st ∧ Kp [] fA23 fr' ∧ fr'.get 1 = some (.fptr [a, b, c] 0) := by
    refine ⟨?r240, ?r241, ?r242, ?r24o1⟩
    case r241 =>
      simp only [amE, Nat.reduceEqDiff, ↓reduceIte, reduceCtorEq, Nat.reduceAdd, gA23_0]
      rfl
    case r242 => repeat (first | exact Kp.refl | refine Kp.set (by decide) ?_)
    case r24o1 => simp only [Fr.get_set, Nat.reduceEqDiff, ↓reduceIte]
  have dR24 := kR24.1.trans dA23
  cases B with
  | true =>
    obtain ⟨fR25, hR25, kR25, oR25_2⟩ : ∃ fr', arun ((gamT tbl (handX exts) m).cg Y) [⟨(some 3), .load true 3 (.t 1), none⟩, ⟨(some 4), .call (.c (.func (.func 137) [] [])) [(.t 3)], none⟩, ⟨(some 5), .mv (.t 4), none⟩, ⟨(some 6), .load true 3 (.t 1), (some (5, true))⟩, ⟨(some 7), .bslice 1 [(.int .i64 (.ofNat 0)), (.int .i64 (.ofNat 0)), .nilsl] [(0, 3, (.t 6))], (some (5, true))⟩, ⟨(some 8), .call (.c (.func (.func 138) [] [])) [(.t 7)], (some (5, true))⟩, ⟨(some 9), .bin false .lss (.t 8) (.c (.int .i64 (.ofNat 0))), (some (5, true))⟩, ⟨(some 10), .pick (.t 5) (.t 9) (.c (.bool false)), none⟩, ⟨(some 2), .mv (.t 10), none⟩] fR24 st = .ok fr' st2 ∧ Kp [] fR24 fr' ∧ fr'.get 2 = some (.bool (decide (greL [t] (.negSucc 0) < 0))) := by
      refine ⟨?r250, ?r251, ?r252, ?r25o2⟩
      case r251 =>
        simp only [amE, Nat.reduceEqDiff, ↓reduceIte, reduceCtorEq, Nat.reduceAdd, oR24_1, ld3f, c1', c2', fl, lt, Bool.not_true, Bool.not_false]
        rfl
      case r252 => repeat (first | exact Kp.refl | refine Kp.set (by decide) ?_)
      case r25o2 => simp only [Fr.get_set, Nat.reduceEqDiff, ↓reduceIte]
    have dR25 := kR25.1.trans dR24
    refine ⟨st2, fun_of (mf := kf110) (fr := fR25) (by rw [t110, m110_eq]) rfl (.inl ?q25) dR25 (by simp only [kf110, resultA, ressA, resA, oR25_2, Option.bind_some, Option.map_some, Bool.true_and, Bool.false_and]), k1.trans k2⟩
    case q25 =>
      rw [← hA23]
      simp only [amE, Nat.reduceEqDiff, ↓reduceIte, reduceCtorEq, Nat.reduceAdd, kf110, hR24, hR25]
  | false =>
    obtain ⟨fR26, hR26, kR26, oR26_2⟩ : ∃ fr', arun ((gamT tbl (handX exts) m).cg Y) [⟨(some 3), .load true 3 (.t 1), none⟩, ⟨(some 4), .call (.c (.func (.func 137) [] [])) [(.t 3)], none⟩, ⟨(some 5), .mv (.t 4), none⟩, ⟨(some 6), .load true 3 (.t 1), (some (5, true))⟩, ⟨(some 7), .bslice 1 [(.int .i64 (.ofNat 0)), (.int .i64 (.ofNat 0)), .nilsl] [(0, 3, (.t 6))], (some (5, true))⟩, ⟨(some 8), .call (.c (.func (.func 138) [] [])) [(.t 7)], (some (5, true))⟩, ⟨(some 9), .bin false .lss (.t 8) (.c (.int .i64 (.ofNat 0))), (some (5, true))⟩, ⟨(some 10), .pick (.t 5) (.t 9) (.c (.bool false)), none⟩, ⟨(some 2), .mv (.t 10), none⟩] fR24 st = .ok fr' st1 ∧ Kp [] fR24 fr' ∧ fr'.get 2 = some (.bool false) := by
      refine ⟨?r260, ?r261, ?r262, ?r26o2⟩
      case r261 =>
        simp only [amE, Nat.reduceEqDiff, ↓reduceIte, reduceCtorEq, Nat.reduceAdd, oR24_1, ld3f, c1', c2', fl, lt, Bool.not_true, Bool.not_false]
        rfl
      case r262 => repeat (first | exact Kp.refl | refine Kp.set (by decide) ?_)
      case r26o2 => simp only [Fr.get_set, Nat.reduceEqDiff, ↓reduceIte]
    have dR26 := kR26.1.trans dR24
    refine ⟨st1, fun_of (mf := kf110) (fr := fR26) (by rw [t110, m110_eq]) rfl (.inl ?q26) dR26 (by simp only [kf110, resultA, ressA, resA, oR26_2, Option.bind_some, Option.map_some, Bool.true_and, Bool.false_and]), k1⟩
    case q26 =>
      rw [← hA23]
      simp only [amE, Nat.reduceEqDiff, ↓reduceIte, reduceCtorEq, Nat.reduceAdd, kf110, hR24, hR26]
end Go.AM.D16
