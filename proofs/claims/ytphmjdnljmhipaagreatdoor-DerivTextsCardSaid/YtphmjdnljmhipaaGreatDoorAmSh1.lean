import Derived.Test.YtphmjdnljmhipaaGreatDoorAmRef
set_option linter.unusedSimpArgs false
set_option linter.unusedVariables false
set_option maxRecDepth 100000
namespace Go.AM.D16
open Go Go.AM
open Nat (reduceEqDiff reduceAdd)
section
variable {Γ : Cg} {dst : Option Nat} {gd : Option (Nat × Bool)} {ms : List MOper} {fr : Fr} {st : St}
theorem nd_max {a b} : arun Γ (⟨dst, (MOp.max a b), gd⟩ :: ms) fr st = match wantedA fr gd with
 | some true => (match opr Γ fr st (MOp.max a b) with
  | .val v st' => arun Γ ms (Fr.put fr dst v) st'
  | .pan v st' => .pan fr v st'
  | .stuck => .stuck)
 | some false => arun Γ ms (Fr.put fr dst .undef) st
 | none => .stuck := arun_nd rfl
theorem nd_mkfn {a b c} : arun Γ (⟨dst, (MOp.mkfn a b c), gd⟩ :: ms) fr st = match wantedA fr gd with
 | some true => (match opr Γ fr st (MOp.mkfn a b c) with
  | .val v st' => arun Γ ms (Fr.put fr dst v) st'
  | .pan v st' => .pan fr v st'
  | .stuck => .stuck)
 | some false => arun Γ ms (Fr.put fr dst .undef) st
 | none => .stuck := arun_nd rfl
end
theorem kloop {Γ : Gam} {Y : Yenv} {m N c i n i2 : Nat} {ro : Option Nat} {B : MCode} {L : List Nat} {fr0 : Fr} {Q : Nat -> Fr -> St -> Prop} {Post : Fr -> St -> Prop}
  (hc : c ∉ i :: L) (hi : i ∉ L) (hi2 : i2 ∉ L) (hn : n ∈ L) (g0 : fr0.get n = some (.int .i64 (.ofNat N))) (hN : N <= 9223372036854775807)
  (hQ : ∀ k fr st s v, (s = c \/ s = i \/ s = i2) -> Q k fr st -> Q k (fr.set s v) st)
  (hB : ∀ k fr st, k < N -> Kp L fr0 fr -> fr.get i = some (.int .i64 (.ofNat k)) -> Q k fr st ->
   (∃ FR st', acode Γ Y m B ro fr st = .norm FR st' /\ Kp (i :: L) fr FR /\ Q (k + 1) FR st') \/ (∃ FR st', acode Γ Y m B ro fr st = .ret FR st' /\ Post FR st')) :
  ∀ (j k : Nat) (fr : Fr) (st : St) (fuel : Nat), k + j = N -> j < fuel -> Kp L fr0 fr -> fr.get i = some (.int .i64 (.ofNat k)) -> Q k fr st ->
   (∃ FR st', aloop (acode Γ Y m (lb c i n i2 B) ro) fuel fr st = .exit 0 FR st' /\ Kp L fr0 FR /\ Q N FR st') \/ (∃ FR st', aloop (acode Γ Y m (lb c i n i2 B) ro) fuel fr st = .ret FR st' /\ Post FR st')
 | _, _, _, _, 0, _, hf, _, _, _ => by omega
 | 0, k, fr, st, fuel + 1, hk, _, hp, gi, hq => by
  have hl : binB false .lss (.int .i64 (.ofNat k)) (.int .i64 (.ofNat N)) = some (.bool false) := by rw [lssN]; simp; omega
  have gn := hp.at hn g0
  have hkN : k = N := by omega
  refine .inl ⟨fr.set c (some (.bool false)), st, ?_, Kp.set (fun h => hc (List.mem_cons_of_mem _ h)) hp, hkN ▸ hQ _ _ _ _ _ (.inl rfl) hq⟩
  rw [aloop]
  simp only [amE, reduceEqDiff, ↓reduceIte, reduceCtorEq, reduceAdd, lb, gi, gn, hl]
 | j + 1, k, fr, st, fuel + 1, hk, hf, hp, gi, hq => by
  have hl : binB false .lss (.int .i64 (.ofNat k)) (.int .i64 (.ofNat N)) = some (.bool true) := by rw [lssN]; simp; omega
  have gn := hp.at hn g0
  have had := add1 (i := k) (by omega)
  have b11 : Nat.beq 1 1 = true := rfl
  have hic : i ≠ c := fun e => hc (by rw [e]; exact List.mem_cons_self)
  have hp1 : Kp L fr0 (fr.set c (some (.bool true))) := Kp.set (fun h => hc (List.mem_cons_of_mem _ h)) hp
  rcases hB k (fr.set c (some (.bool true))) st (by omega) hp1 (by rw [Fr.get_set, if_neg hic]; exact gi) (hQ _ _ _ _ _ (.inl rfl) hq) with ⟨FR, st', hb, hkp, hq'⟩ | ⟨FR, st', hb, hpo⟩
  ·have gi' : FR.get i = some (.int .i64 (.ofNat k)) := hkp.at List.mem_cons_self (by rw [Fr.get_set, if_neg hic]; exact gi)
   have hkL : Kp L fr0 FR := hp1.trans ⟨hkp.1, fun x hx => hkp.2 x (List.mem_cons_of_mem _ hx)⟩
   have hst : acode Γ Y m (lb c i n i2 B) ro fr st = .norm ((FR.set i2 (some (.int .i64 (.ofNat (k + 1))))).set i (some (.int .i64 (.ofNat (k + 1))))) st' := by
    simp only [amE, reduceEqDiff, ↓reduceIte, reduceCtorEq, reduceAdd, lb, gi, gn, hl, hb, gi', had]
   rcases kloop hc hi hi2 hn g0 hN hQ hB j (k + 1) ((FR.set i2 (some (.int .i64 (.ofNat (k + 1))))).set i (some (.int .i64 (.ofNat (k + 1))))) st' fuel (by omega) (by omega)
    (Kp.set hi (Kp.set hi2 hkL)) (by rw [Fr.get_set, if_pos rfl]) (hQ _ _ _ _ _ (.inr (.inl rfl)) (hQ _ _ _ _ _ (.inr (.inr rfl)) hq')) with ⟨F2, s2, h, h2⟩ | ⟨F2, s2, h, h2⟩
   ·refine .inl ⟨F2, s2, ?_, h2⟩
    rw [aloop, hst]
    exact h
   ·refine .inr ⟨F2, s2, ?_, h2⟩
    rw [aloop, hst]
    exact h
  ·refine .inr ⟨FR, st', ?_, hpo⟩
   rw [aloop]
   simp only [amE, reduceEqDiff, ↓reduceIte, reduceCtorEq, reduceAdd, lb, gi, gn, hl, hb]
theorem fun_of {f n : Nat} {mf : MFunc} {Y : Yenv} {args : List AV} {st st' : St} {fr : Fr} {v : AV} (ht : tbl f = some mf) (hle : args.length.ble mf.N = true)
  (h : acode (gT n) Y n mf.code none (frOf 0 args Fr.nil) st = .ret fr st' \/ acode (gT n) Y n mf.code none (frOf 0 args Fr.nil) st = .norm fr st') (hd : fr.ds = []) (hr : resultA fr st' mf.res = .ret v st') :
  R (n + 1) Y f args st = .ret v st' := by
 unfold R
 rw [run_of ht]
 unfold abody
 rw [hle]
 rcases h with h | h <;> simp only [cond_true, h, endF, hd, aleaves, hr]
theorem Kp.sub {l l' : List Nat} {a b : Fr} (h : Kp l a b) (hs : ∀ x ∈ l', x ∈ l) : Kp l' a b := ⟨h.1, fun k hk => h.2 k (hs k hk)⟩
theorem Kp.g {L : List Nat} {a b : Fr} (h : Kp L a b) (k : Nat) {v : AV} (g : a.get k = some v) (m : k ∈ L := by decide) : b.get k = some v := h.at m g
theorem Kp.s {L : List Nat} {a b : Fr} {k : Nat} {v : Option AV} (h : Kp L a b) (m : k ∉ L := by decide) : Kp L a (b.set k v) := Kp.set m h
theorem gh {b : Fr} {k : Nat} {v : Option AV} : (b.set k v).get k = v := by rw [Fr.get_set, if_pos rfl]
theorem gn {b : Fr} {k j : Nat} {v x : Option AV} (h : b.get j = x) (m : k ≠ j := by decide) : (b.set k v).get j = x := by rw [Fr.get_set, if_neg (fun e => m e.symm)]; exact h
theorem drop_at {α : Type} {l : List α} {k : Nat} (h : k < l.length) : ∃ x, l[k]? = some x /\ l.drop k = x :: l.drop (k + 1) := ⟨l[k], List.getElem?_eq_getElem h, List.drop_eq_getElem_cons h⟩
theorem ld0 {st : St} {id : Nat} {x : AV} {l : List AV} (h : st.get id = some (.row (x :: l))) : loadA false 1 st (.ptr id 0) = some x := by
 simp only [loadA, cellsAt, h, Option.bind_some, List.drop_zero]; rfl
theorem ld1 {st : St} {id : Nat} {x y : AV} {l : List AV} (h : st.get id = some (.row (x :: y :: l))) : loadA false 1 st (.ptr id 1) = some y := by
 simp only [loadA, cellsAt, h, Option.bind_some]; rfl
theorem ld2 {st : St} {id : Nat} {x y z : AV} {l : List AV} (h : st.get id = some (.row (x :: y :: z :: l))) : loadA false 1 st (.ptr id 2) = some z := by
 simp only [loadA, cellsAt, h, Option.bind_some]; rfl
theorem st20 {st : St} {id : Nat} {x y : AV} {k : IntKind} {v : Int} (h : st.get id = some (.row [x, y])) : storeA 1 st (.ptr id 0) (.int k v) = some (st.put id (.row [.int k v, y])) := by
 simp only [storeA, h]; rfl
theorem st21 {st : St} {id : Nat} {x y : AV} {k : IntKind} {v : Int} (h : st.get id = some (.row [x, y])) : storeA 1 st (.ptr id 1) (.int k v) = some (st.put id (.row [x, .int k v])) := by
 simp only [storeA, h]; rfl
noncomputable def bf162_0 : MCode := (.seq (.region [⟨(some 29), .iaddr 3 (.t 25) (.t 27), none⟩, ⟨(some 30), .load true 3 (.t 29), none⟩, ⟨(some 7), .alloc [(.int .i64 (.ofNat 0)), (.int .i64 (.ofNat 0)), .nilsl], none⟩, ⟨none, .store 3 (.t 7) (.t 30), none⟩])
 (.seq (.seq (.region [⟨(some 31), .mv (.t 0), none⟩, ⟨(some 32), .nilchk (.t 31), none⟩, ⟨(some 33), .faddr 0 (.t 32), none⟩, ⟨(some 34), .load false 1 (.t 33), none⟩, ⟨(some 35), .bin false .gtr (.t 34) (.c (.int .i64 (.ofNat 2000))), none⟩, ⟨(some 36), .mv (.t 35), none⟩, ⟨(some 37), .mv (.t 0), (some (36, false))⟩, ⟨(some 38), .nilchk (.t 37), (some (36, false))⟩, ⟨(some 39), .faddr 1 (.t 38), (some (36, false))⟩, ⟨(some 40), .load false 1 (.t 39), (some (36, false))⟩, ⟨(some 41), .bin false .gtr (.t 40) (.c (.int .i64 (.ofNat 200))), (some (36, false))⟩, ⟨(some 42), .pick (.t 36) (.c (.bool true)) (.t 41), none⟩])
 (.cond (.t 42)
 .ret
 .skip))
 (.region [⟨(some 43), .mv (.t 0), none⟩, ⟨(some 44), .load true 3 (.t 7), none⟩, ⟨(some 45), .mv (.t 2), none⟩, ⟨(some 46), .bin false .add (.t 45) (.c (.int .i64 (.ofNat 1))), none⟩, ⟨(some 47), .call (.c (.func (.func 162) [] [])) [(.t 43), (.t 44), (.t 46)], none⟩])))
noncomputable def kf162 : MFunc := ⟨49, (.seq (.region [⟨(some 4), .box true (.t 1), none⟩])
 (.seq (.region [⟨(some 8), .mv (.t 0), none⟩, ⟨(some 9), .nilchk (.t 8), none⟩, ⟨(some 10), .faddr 0 (.t 9), none⟩, ⟨(some 11), .load false 1 (.t 10), none⟩, ⟨(some 12), .bin false .add (.t 11) (.c (.int .i64 (.ofNat 1))), none⟩, ⟨(some 13), .nilchk (.t 8), none⟩, ⟨(some 14), .faddr 0 (.t 13), none⟩, ⟨none, .store 1 (.t 14) (.t 12), none⟩])
 (.seq (.region [⟨(some 15), .mv (.t 0), none⟩, ⟨(some 16), .mv (.t 0), none⟩, ⟨(some 17), .nilchk (.t 16), none⟩, ⟨(some 18), .faddr 1 (.t 17), none⟩, ⟨(some 19), .load false 1 (.t 18), none⟩, ⟨(some 20), .mv (.t 2), none⟩, ⟨(some 21), .max (.t 19) [(.t 20)], none⟩, ⟨(some 22), .nilchk (.t 15), none⟩, ⟨(some 23), .faddr 1 (.t 22), none⟩, ⟨none, .store 1 (.t 23) (.t 21), none⟩])
 (.seq (.region [⟨(some 24), .faddr 2 (.t 4), none⟩, ⟨(some 25), .load false 1 (.t 24), none⟩, ⟨(some 26), .len 0 (.t 25), none⟩, ⟨(some 27), .mv (.c (.int .i64 (.ofNat 0))), none⟩])
 (.block 0 (.loop (lb 28 27 26 48 bf162_0))))))), []⟩
theorem t162 : tbl 162 = some kf162 := by kernel_rfl
theorem count_run (t : Tm) : ∀ (n : Nat) (Y : Yenv) (F : Nat -> Prop) (st : St) (id : Nat) (a b d : Int) (cs : List AV), RepT F st t cs -> (∀ i, F i -> i < st.next) -> ¬ F id -> id < st.next ->
  st.get id = some (.row [.int .i64 a, .int .i64 b]) -> t.fz <= n ->
  ∃ st', R n Y 162 [.ptr id 0, .agg cs, .int .i64 d] st = .ret (.tuple []) st' /\ Keep1 id st st' /\ st'.get id = some (.row [.int .i64 (cntT t d a b).1, .int .i64 (cntT t d a b).2]) := by
 induction hs : t.fz using Nat.strongRecOn generalizing t with
 | _ s ih =>
 intro n Y F st id a b d cs hr hF hid hlt hg hn
 cases t with
 | mk k0 n0 nl ex l =>
 simp only [RepT] at hr
 obtain ⟨sl, xs, rfl, hsl, hrs⟩ := hr
 simp only [Tm.fz] at hs
 obtain ⟨m, rfl⟩ : ∃ m, n = m + 1 := ⟨n - 1, by omega⟩
 -- the start
 have nc : ∀ x, nilchkA (.ptr id x) = some (.ptr id x) := fun _ => rfl
 have fa : ∀ o, faddrA o (.ptr id 0) = some (.ptr id (0 + o)) := fun _ => rfl
 have e1 : binB false .add (.int .i64 a) (.int .i64 (.ofNat 1)) = some (.int .i64 (aw a 1)) := rfl
 have s1 := st20 (k := .i64) (v := aw a 1) hg
 have g1 : (st.put id (.row [.int .i64 (aw a 1), .int .i64 b])).get id = some (.row [.int .i64 (aw a 1), .int .i64 b]) := by rw [St.get_put, if_pos rfl]
 have e2 : foldA maxA (.int .i64 b) [.int .i64 d] = some (.int .i64 (mx b d)) := rfl
 have s2 := st21 (k := .i64) (v := mx b d) g1
 obtain ⟨st1, hst1⟩ : ∃ st1, st1 = (st.put id (.row [.int .i64 (aw a 1), .int .i64 b])).put id (.row [.int .i64 (aw a 1), .int .i64 (mx b d)]) := ⟨_, rfl⟩
 have k1 : Keep1 id st st1 := by rw [hst1]; exact (Keep1.put _ _ _).trans (Keep1.put _ _ _)
 have g2 : st1.get id = some (.row [.int .i64 (aw a 1), .int .i64 (mx b d)]) := by rw [hst1, St.get_put, if_pos rfl]
 rw [<- hst1] at s2
 have fa2 : faddrA 2 (.fptr [.int .i64 k0, .int .i64 n0, sl] 0) = some (.fptr [.int .i64 k0, .int .i64 n0, sl] 2) := rfl
 have lf : loadA false 1 st1 (.fptr [.int .i64 k0, .int .i64 n0, sl] 2) = some sl := rfl
 have hlen := hsl.len st1
 obtain ⟨fr0, hfr0, z0, z2, z25, z26, z27, zd⟩ : ∃ fr0, (∀ X, acode (gT m) Y m (.seq (.region [⟨(some 4), .box true (.t 1), none⟩]) ( .seq (.region [⟨(some 8), .mv (.t 0), none⟩, ⟨(some 9), .nilchk (.t 8), none⟩, ⟨(some 10), .faddr 0 (.t 9), none⟩, ⟨(some 11), .load false 1 (.t 10), none⟩, ⟨(some 12), .bin false .add (.t 11) (.c (.int .i64 (.ofNat 1))), none⟩, ⟨(some 13), .nilchk (.t 8), none⟩, ⟨(some 14), .faddr 0 (.t 13), none⟩, ⟨none, .store 1 (.t 14) (.t 12), none⟩]) ( .seq (.region [⟨(some 15), .mv (.t 0), none⟩, ⟨(some 16), .mv (.t 0), none⟩, ⟨(some 17), .nilchk (.t 16), none⟩, ⟨(some 18), .faddr 1 (.t 17), none⟩, ⟨(some 19), .load false 1 (.t 18), none⟩, ⟨(some 20), .mv (.t 2), none⟩, ⟨(some 21), .max (.t 19) [(.t 20)], none⟩, ⟨(some 22), .nilchk (.t 15), none⟩, ⟨(some 23), .faddr 1 (.t 22), none⟩, ⟨none, .store 1 (.t 23) (.t 21), none⟩]) ( .seq (.region [⟨(some 24), .faddr 2 (.t 4), none⟩, ⟨(some 25), .load false 1 (.t 24), none⟩, ⟨(some 26), .len 0 (.t 25), none⟩, ⟨(some 27), .mv (.c (.int .i64 (.ofNat 0))), none⟩]) (X))))) none (frOf 0 [.ptr id 0, .agg [.int .i64 k0, .int .i64 n0, sl], .int .i64 d] Fr.nil) st = acode (gT m) Y m X none fr0 st1)
   /\ fr0.get 0 = some (.ptr id 0) /\ fr0.get 2 = some (.int .i64 d) /\ fr0.get 25 = some sl /\ fr0.get 26 = some (.int .i64 (.ofNat xs.length)) /\ fr0.get 27 = some (.int .i64 (.ofNat 0)) /\ fr0.ds = [] := by
  refine ⟨?f0, ?f1, ?f2, ?f3, ?f4, ?f5, ?f6, ?f7⟩
  case f1 =>
   intro X
   simp only [amE, reduceEqDiff, ↓reduceIte, reduceCtorEq, reduceAdd, nd_max, nc, fa, ld0 hg, e1, s1, ld1 g1, e2, s2, fa2, lf, hlen]
   rfl
  case f2 => simp only [frOf, Fr.get_set, reduceAdd, reduceEqDiff, ↓reduceIte]
  case f3 => simp only [frOf, Fr.get_set, reduceAdd, reduceEqDiff, ↓reduceIte]
  case f4 => simp only [Fr.get_set, reduceEqDiff, ↓reduceIte]
  case f5 => simp only [Fr.get_set, reduceEqDiff, ↓reduceIte]
  case f6 => simp only [Fr.get_set, ↓reduceIte]
  case f7 => rfl
 have hxl := hrs.len
 have hF1 : ∀ i, F i -> i < st1.next := fun i hi => Nat.lt_of_lt_of_le (hF i hi) k1.1
 have b00 : Nat.beq 0 0 = true := rfl
 have hc : cntT (.mk k0 n0 nl ex l) d a b = cntL l d (aw a 1) (mx b d) := by unfold cntT; rfl
 rw [hc]
 have hB : ∀ k fr s, k < xs.length -> Kp [0, 2, 25, 26] fr0 fr -> fr.get 27 = some (.int .i64 (.ofNat k)) ->
   (Keep1 id st s /\ ∃ a1 b1, s.get id = some (.row [.int .i64 a1, .int .i64 b1]) /\ cntL (l.drop k) d a1 b1 = cntL l d (aw a 1) (mx b d)) ->
   (∃ FR s', acode (gT m) Y m bf162_0 none fr s = .norm FR s' /\ Kp [27, 0, 2, 25, 26] fr FR /\ (Keep1 id st s' /\ ∃ a1 b1, s'.get id = some (.row [.int .i64 a1, .int .i64 b1]) /\ cntL (l.drop (k + 1)) d a1 b1 = cntL l d (aw a 1) (mx b d))) ∨
   (∃ FR s', acode (gT m) Y m bf162_0 none fr s = .ret FR s' /\ (FR.ds = [] /\ Keep1 id st s' /\ s'.get id = some (.row [.int .i64 (cntL l d (aw a 1) (mx b d)).1, .int .i64 (cntL l d (aw a 1) (mx b d)).2]))) := by
  intro k fr s hk hkp g27 ⟨hks, a1, b1, hg1, hcn⟩
  obtain ⟨t, ht, hdr⟩ := drop_at (l := l) (k := k) (by omega)
  obtain ⟨x, hx, hrx⟩ := hrs.at ht
  have hsame : Same F st s := Same.of1 hks hF hid
  obtain ⟨p, ia, ld⟩ := hsl.at hx
  have ld := ld s hsame
  obtain ⟨s1, sto, ks, go, hnx⟩ := next_el s (zs := [(.int .i64 (.ofNat 0)), (.int .i64 (.ofNat 0)), .nilsl]) rfl hrx.cells3
  have hlt1 : id < s.next := Nat.lt_of_lt_of_le hlt hks.1
  have hg2 := ks.get hlt1 hg1
  have q0 := hkp.at (k := 0) (by decide) z0
  have q2 := hkp.at (k := 2) (by decide) z2
  have q25 := hkp.at (k := 25) (by decide) z25
  have nc : ∀ x, nilchkA (.ptr id x) = some (.ptr id x) := fun _ => rfl
  have fa0 : faddrA 0 (.ptr id 0) = some (.ptr id 0) := rfl
  have fa1 : faddrA 1 (.ptr id 0) = some (.ptr id 1) := rfl
  have l0 := ld0 hg2
  have l1 := ld1 hg2
  have lx := load_row go hrx.cells3.1
  have ad : binB false .add (.int .i64 d) (.int .i64 (.ofNat 1)) = some (.int .i64 (aw d 1)) := rfl
  rw [hdr, cntL_cons] at hcn
  by_cases ca : a1 > 2000
  ·have gt : binB false .gtr (.int .i64 a1) (.int .i64 (.ofNat 2000)) = some (.bool true) := by
    show some (AV.bool (decide (a1 > 2000))) = _
    rw [decide_eq_true ca]
   rw [if_pos ca] at hcn
   refine .inr ⟨?r0, s1, ?r1, ?r2, hks.trans (Keep1.of ks), ?r3⟩
   case r1 =>
    simp only [amE, reduceEqDiff, ↓reduceIte, reduceCtorEq, reduceAdd, bf162_0, q25, g27, ia, ld, sto, q0, nc, fa0, l0, gt, Bool.not_true, Bool.not_false]
    rfl
   case r2 => exact hkp.1.trans zd
   case r3 => rw [hg2, <- hcn]
  ·have gt : binB false .gtr (.int .i64 a1) (.int .i64 (.ofNat 2000)) = some (.bool false) := by
    show some (AV.bool (decide (a1 > 2000))) = _
    rw [decide_eq_false ca]
   rw [if_neg ca] at hcn
   by_cases cb : b1 > 200
   ·have gt2 : binB false .gtr (.int .i64 b1) (.int .i64 (.ofNat 200)) = some (.bool true) := by
     show some (AV.bool (decide (b1 > 200))) = _
     rw [decide_eq_true cb]
    rw [if_pos cb] at hcn
    refine .inr ⟨?u0, s1, ?u1, ?u2, hks.trans (Keep1.of ks), ?u3⟩
    case u1 =>
     simp only [amE, reduceEqDiff, ↓reduceIte, reduceCtorEq, reduceAdd, bf162_0, q25, g27, ia, ld, sto, q0, nc, fa0, fa1, l0, l1, gt, gt2, Bool.not_true, Bool.not_false]
     rfl
    case u2 => exact hkp.1.trans zd
    case u3 => rw [hg2, <- hcn]
   ·have gt2 : binB false .gtr (.int .i64 b1) (.int .i64 (.ofNat 200)) = some (.bool false) := by
     show some (AV.bool (decide (b1 > 200))) = _
     rw [decide_eq_false cb]
    rw [if_neg cb] at hcn
    have hfz := Tm.fzL_mem (List.mem_of_getElem? ht)
    have hs1 : Same F st s1 := hsame.trans (Same.of ks fun i hi => Nat.lt_of_lt_of_le (hF i hi) hks.1)
    obtain ⟨s2, hcall, ks2, hg3⟩ := ih t.fz (by omega) t rfl m Y F s1 id a1 b1 (aw d 1) x (hrx.mono hs1 fun _ h => h) (fun i hi => Nat.lt_of_lt_of_le (hF i hi) (Nat.le_trans hks.1 ks.1)) hid (Nat.lt_of_lt_of_le hlt1 ks.1) hg2 (by omega)
    have hcall' : ((gT m).cg Y).fn 162 [.ptr id 0, .agg x, .int .i64 (aw d 1)] s1 = .ret (.tuple []) s2 := hcall
    refine .inl ⟨?v0, s2, ?v1, ?v2, (hks.trans (Keep1.of ks)).trans ks2, _, _, hg3, hcn⟩
    case v1 =>
     simp only [amE, reduceEqDiff, ↓reduceIte, reduceCtorEq, reduceAdd, bf162_0, q25, g27, ia, ld, sto, q0, q2, nc, fa0, fa1, l0, l1, gt, gt2, lx, ad, hcall', Bool.not_true, Bool.not_false]
     rfl
    case v2 => repeat (first | exact Kp.refl | refine Kp.set (by decide) ?_)
 rcases kloop (Γ := gT m) (Y := Y) (m := m) (N := xs.length) (c := 28) (i := 27) (n := 26) (i2 := 48) (ro := none) (L := [0, 2, 25, 26]) (fr0 := fr0) (by decide) (by decide) (by decide) (by decide) z26 hsl.2.1
  (Q := fun k _ s => Keep1 id st s /\ ∃ a1 b1, s.get id = some (.row [.int .i64 a1, .int .i64 b1]) /\ cntL (l.drop k) d a1 b1 = cntL l d (aw a 1) (mx b d)) (fun _ _ _ _ _ _ h => h) hB xs.length 0 fr0 st1 m (by omega) (by omega) Kp.refl z27 ⟨k1, _, _, g2, rfl⟩
  with ⟨FR, s', h1, h2, h3, a2, b2, h4, h5⟩ | ⟨FR, s', h1, h2, h3, h4⟩
 ·rw [hxl, List.drop_length, cntL_nil] at h5
  refine ⟨s', fun_of (mf := kf162) (fr := FR) t162 rfl (.inr ?w1) (h2.1.trans zd) rfl, h3, by rw [h4, <- h5]⟩
  case w1 =>
   refine (hfr0 _).trans ?_
   simp only [amE, reduceEqDiff, ↓reduceIte, reduceCtorEq, reduceAdd, h1, b00]
 ·refine ⟨s', fun_of (mf := kf162) (fr := FR) t162 rfl (.inl ?w2) h2 rfl, h3, h4⟩
  case w2 =>
   refine (hfr0 _).trans ?_
   simp only [amE, reduceEqDiff, ↓reduceIte, reduceCtorEq, reduceAdd, h1, b00]
noncomputable def bf136_0 : MCode := (.seq (.region [⟨(some 10), .mv (.t 8), none⟩, ⟨(some 5), .mv (.t 10), none⟩])
 (.seq (.region [⟨(some 11), .mv (.t 1), none⟩, ⟨(some 12), .mv (.t 0), none⟩, ⟨(some 13), .mv (.t 5), none⟩, ⟨(some 14), .iaddr 3 (.t 12) (.t 13), none⟩, ⟨(some 15), .load true 3 (.t 14), none⟩, ⟨(some 16), .call (.t 11) [(.t 15)], none⟩])
 (.cond (.t 16)
 (.seq (.region [⟨(some 17), .mv (.t 5), none⟩, ⟨(some 4), .mv (.t 17), none⟩])
 .ret)
 .skip)))
noncomputable def kf136 : MFunc := ⟨19, (.seq (.region [⟨(some 4), .mv (.c (.int .i64 (.ofNat 0))), none⟩])
 (.seq (.seq (.region [⟨(some 6), .mv (.t 0), none⟩, ⟨(some 7), .len 0 (.t 6), none⟩, ⟨(some 8), .mv (.c (.int .i64 (.ofNat 0))), none⟩])
 (.block 0 (.loop (lb 9 8 7 18 bf136_0))))
 (.seq (.region [⟨(some 4), .mv (.c (.int .i64 (.negSucc 0))), none⟩])
 .ret))), [.t 4]⟩
theorem t136 : tbl 136 = some kf136 := by kernel_rfl
theorem t139 : tbl 139 = some kf136 := by kernel_rfl
noncomputable def kf108 : MFunc := ⟨9, (.seq (.region [⟨(some 4), .mv (.c (.bool false)), none⟩])
 (.seq (.region [⟨(some 5), .mv (.t 0), none⟩, ⟨(some 6), .mv (.t 1), none⟩, ⟨(some 7), .call (.c (.func (.func 136) [] [])) [(.t 5), (.t 6)], none⟩, ⟨(some 8), .bin false .geq (.t 7) (.c (.int .i64 (.ofNat 0))), none⟩, ⟨(some 4), .mv (.t 8), none⟩])
 .ret)), [.t 4]⟩
theorem t108 : tbl 108 = some kf108 := by kernel_rfl
noncomputable def kf111 : MFunc := ⟨9, (.seq (.region [⟨(some 4), .mv (.c (.bool false)), none⟩])
 (.seq (.region [⟨(some 5), .mv (.t 0), none⟩, ⟨(some 6), .mv (.t 1), none⟩, ⟨(some 7), .call (.c (.func (.func 139) [] [])) [(.t 5), (.t 6)], none⟩, ⟨(some 8), .bin false .geq (.t 7) (.c (.int .i64 (.ofNat 0))), none⟩, ⟨(some 4), .mv (.t 8), none⟩])
 .ret)), [.t 4]⟩
theorem t111 : tbl 111 = some kf111 := by kernel_rfl
theorem idx_run {f q n : Nat} {Y : Yenv} {F : Nat -> Prop} {st0 : St} {sl : AV} {xs : List (List AV)} {caps : List AV} {Inv : Nat -> St -> Prop} {Fin : St -> Prop} (hf : tbl f = some kf136) (hsl : SlR F st0 sl xs)
  (hI : ∀ k s, Inv k s -> Same F st0 s)
  (hcb : ∀ k x s, xs[k]? = some x -> Inv k s -> ∃ b s', R n Y q (.agg x :: caps) s = .ret (.bool b) s' /\ (b = true -> Fin s') /\ (b = false -> Inv (k + 1) s'))
  (st : St) (h0 : Inv 0 st) (hn : xs.length < n) :
  ∃ r s', R (n + 1) Y f [sl, .func (.func q) [] caps] st = .ret (.int .i64 r) s' /\ ((r < 0 /\ Inv xs.length s') \/ (0 <= r /\ Fin s')) := by
 have hlen := hsl.len st
 obtain ⟨fr0, hfr0, z0, z1, z7, z8, zd⟩ : ∃ fr0, (∀ L T, acode (gT n) Y n (.seq (.region [⟨(some 4), .mv (.c (.int .i64 (.ofNat 0))), none⟩]) (.seq (.seq (.region [⟨(some 6), .mv (.t 0), none⟩, ⟨(some 7), .len 0 (.t 6), none⟩, ⟨(some 8), .mv (.c (.int .i64 (.ofNat 0))), none⟩]) L) T)) none (frOf 0 [sl, .func (.func q) [] caps] Fr.nil) st = match acode (gT n) Y n L none fr0 st with
    | .norm fr st => acode (gT n) Y n T none fr st
    | r => r)
   /\ fr0.get 0 = some sl /\ fr0.get 1 = some (.func (.func q) [] caps) /\ fr0.get 7 = some (.int .i64 (.ofNat xs.length)) /\ fr0.get 8 = some (.int .i64 (.ofNat 0)) /\ fr0.ds = [] := by
  refine ⟨?f0, ?f1, ?f2, ?f3, ?f4, ?f5, ?f7⟩
  case f1 =>
   intro L T
   simp only [amE, reduceEqDiff, ↓reduceIte, reduceCtorEq, reduceAdd, hlen]
   rfl
  case f2 => simp only [frOf, Fr.get_set, reduceAdd, reduceEqDiff, ↓reduceIte]
  case f3 => simp only [frOf, Fr.get_set, reduceAdd, reduceEqDiff, ↓reduceIte]
  case f4 => simp only [Fr.get_set, reduceEqDiff, ↓reduceIte]
  case f5 => simp only [Fr.get_set, ↓reduceIte]
  case f7 => rfl
 have b00 : Nat.beq 0 0 = true := rfl
 have hB : ∀ k fr s, k < xs.length -> Kp [0, 1, 7] fr0 fr -> fr.get 8 = some (.int .i64 (.ofNat k)) -> Inv k s ->
   (∃ FR s', acode (gT n) Y n bf136_0 none fr s = .norm FR s' /\ Kp [8, 0, 1, 7] fr FR /\ Inv (k + 1) s') ∨
   (∃ FR s', acode (gT n) Y n bf136_0 none fr s = .ret FR s' /\ (FR.ds = [] /\ (∃ j : Nat, FR.get 4 = some (.int .i64 (.ofNat j))) /\ Fin s')) := by
  intro k fr s hk hkp g8 hi
  have hx : xs[k]? = some xs[k] := List.getElem?_eq_getElem hk
  generalize xs[k] = x at hx
  obtain ⟨p, ia, ld⟩ := hsl.at hx
  have ld := ld s (hI k s hi)
  obtain ⟨b, s', hc, h1, h2⟩ := hcb k x s hx hi
  have hc' : ((gT n).cg Y).fn q (.agg x :: caps) s = .ret (.bool b) s' := hc
  have q0 := hkp.at (k := 0) (by decide) z0
  have q1 := hkp.at (k := 1) (by decide) z1
  cases b with
  | true =>
   refine .inr ⟨?r0, s', ?r1, ?r2, ⟨k, ?r3⟩, h1 rfl⟩
   case r1 =>
    simp only [amE, reduceEqDiff, ↓reduceIte, reduceCtorEq, reduceAdd, bf136_0, q0, q1, g8, ia, ld, hc']
    rfl
   case r2 => exact hkp.1.trans zd
   case r3 => simp only [Fr.get_set, ↓reduceIte]
  | false =>
   refine .inl ⟨?v0, s', ?v1, ?v2, h2 rfl⟩
   case v1 =>
    simp only [amE, reduceEqDiff, ↓reduceIte, reduceCtorEq, reduceAdd, bf136_0, q0, q1, g8, ia, ld, hc']
    rfl
   case v2 => repeat (first | exact Kp.refl | refine Kp.set (by decide) ?_)
 rcases kloop (Γ := gT n) (Y := Y) (m := n) (N := xs.length) (c := 9) (i := 8) (n := 7) (i2 := 18) (ro := none) (L := [0, 1, 7]) (fr0 := fr0) (by decide) (by decide) (by decide) (by decide) z7 hsl.2.1
  (Q := fun k _ s => Inv k s) (fun _ _ _ _ _ _ h => h) hB xs.length 0 fr0 st n (by omega) (by omega) Kp.refl z8 h0
  with ⟨FR, s', h1, h2, h3⟩ | ⟨FR, s', h1, h2, ⟨j, h3⟩, h4⟩
 ·refine ⟨.negSucc 0, s', fun_of (mf := kf136) (fr := FR.set 4 (some (.int .i64 (.negSucc 0)))) hf rfl (.inl ?w1) (h2.1.trans zd) ?w2, .inl ⟨by decide, h3⟩⟩
  case w1 =>
   refine (hfr0 _ _).trans ?_
   simp only [amE, reduceEqDiff, ↓reduceIte, reduceCtorEq, reduceAdd, h1, b00]
  case w2 => simp only [kf136, amE, Fr.get_set, ↓reduceIte]
 ·refine ⟨.ofNat j, s', fun_of (mf := kf136) (fr := FR) hf rfl (.inl ?w3) h2 ?w4, .inr ⟨Int.natCast_nonneg j, h4⟩⟩
  case w3 =>
   refine (hfr0 _ _).trans ?_
   simp only [amE, reduceEqDiff, ↓reduceIte, reduceCtorEq, reduceAdd, h1, b00]
  case w4 => simp only [kf136, amE, h3]
theorem contains_run {f f' q n : Nat} {Y : Yenv} {F : Nat -> Prop} {st0 : St} {sl : AV} {xs : List (List AV)} {caps : List AV} {Inv : Nat -> St -> Prop} {Fin : St -> Prop} (hff : (f = 108 /\ f' = 136) \/ (f = 111 /\ f' = 139)) (hsl : SlR F st0 sl xs)
  (hI : ∀ k s, Inv k s -> Same F st0 s)
  (hcb : ∀ k x s, xs[k]? = some x -> Inv k s -> ∃ b s', R n Y q (.agg x :: caps) s = .ret (.bool b) s' /\ (b = true -> Fin s') /\ (b = false -> Inv (k + 1) s'))
  (st : St) (h0 : Inv 0 st) (hn : xs.length < n) :
  ∃ b s', R (n + 2) Y f [sl, .func (.func q) [] caps] st = .ret (.bool b) s' /\ ((b = false /\ Inv xs.length s') \/ (b = true /\ Fin s')) := by
 have hf' : tbl f' = some kf136 := by
  rcases hff with ⟨_, rfl⟩ | ⟨_, rfl⟩
  ·rw [t136]
  ·rw [t139]
 obtain ⟨r, s', hr, hc⟩ := idx_run hf' hsl hI hcb st h0 hn
 have hr' : ((gT (n + 1)).cg Y).fn f' [sl, .func (.func q) [] caps] st = .ret (.int .i64 r) s' := hr
 have hg : binB false .geq (.int .i64 r) (.int .i64 (.ofNat 0)) = some (.bool (decide (r >= 0))) := rfl
 refine ⟨decide (r >= 0), s', ?_, ?_⟩
 ·rcases hff with ⟨rfl, rfl⟩ | ⟨rfl, rfl⟩
  ·refine fun_of (mf := kf108) (fr := ?a0) t108 rfl (.inl ?a1) ?a2 ?a3
   case a1 =>
    simp only [amE, reduceEqDiff, ↓reduceIte, reduceCtorEq, reduceAdd, kf108, hr', hg]
    rfl
   case a2 => rfl
   case a3 => simp only [kf108, amE, Fr.get_set, ↓reduceIte]
  ·refine fun_of (mf := kf111) (fr := ?b0) t111 rfl (.inl ?b1) ?b2 ?b3
   case b1 =>
    simp only [amE, reduceEqDiff, ↓reduceIte, reduceCtorEq, reduceAdd, kf111, hr', hg]
    rfl
   case b2 => rfl
   case b3 => simp only [kf111, amE, Fr.get_set, ↓reduceIte]
 ·rcases hc with ⟨h1, h2⟩ | ⟨h1, h2⟩
  ·exact .inl ⟨decide_eq_false (by omega), h2⟩
  ·exact .inr ⟨decide_eq_true h1, h2⟩
end Go.AM.D16
