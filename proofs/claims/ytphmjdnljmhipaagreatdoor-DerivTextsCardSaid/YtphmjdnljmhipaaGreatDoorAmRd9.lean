import Derived.Test.YtphmjdnljmhipaaGreatDoorAmRd8
set_option linter.unusedSimpArgs false
set_option linter.unusedVariables false
set_option maxRecDepth 100000
namespace Go.AM.D16
open Go Go.AM
open Nat (reduceEqDiff reduceAdd)
theorem nmL_err {s : List Nat} : ∀ (j i p n p' : Nat), p <= s.length -> nmL s j i p n = .err p' -> p <= p' /\ p' <= s.length
 | 0, i, p, n, p', hp, h => by unfold nmL at h; injection h with h; omega
 | j + 1, i, p, n, p', hp, h => by
  unfold nmL at h
  by_cases hd : dgt s p = true
  ·rw [if_pos hd] at h
   have := (dgt_ch hd).2.2.2
   split at h
   ·injection h with h; omega
   ·have := nmL_err j _ _ _ _ (by omega) h; omega
  ·rw [if_neg hd] at h; cases h
theorem nm_err {s : List Nat} {p p' : Nat} (hp : p <= s.length) (h : nm s p = .err p') : p <= p' /\ p' <= s.length := by
 unfold nm at h
 split at h
 ·exact nmL_err _ _ _ _ _ hp h
 ·injection h with h; omega
section
variable {α : Type} {one : Nat -> PR α} {rest : Nat -> PR (List α)} {s : List Nat}
theorem pE_err (h1 : ∀ p t p2, one p = .ok t p2 -> p < p2 /\ p2 <= s.length) (e1 : ∀ p e, p <= s.length -> one p = .err e -> p <= e /\ e <= s.length) (e2 : ∀ p e, p <= s.length -> rest p = .err e -> p <= e /\ e <= s.length) {p e : Nat} (hp : p <= s.length) (h : pE one rest p = .err e) : p <= e /\ e <= s.length := by
 unfold pE at h
 cases ho : one p with
 | err e' => rw [ho] at h; injection h with h; subst h; exact e1 _ _ hp ho
 | ok t q =>
  rw [ho] at h
  simp only at h
  have := h1 _ _ _ ho
  cases hr : rest q with
  | err e' => rw [hr] at h; injection h with h; subst h; have := e2 _ _ this.2 hr; omega
  | ok l q' => rw [hr] at h; cases h
theorem pB_err (h1 : ∀ p t p2, one p = .ok t p2 -> p < p2 /\ p2 <= s.length) (e1 : ∀ p e, p <= s.length -> one p = .err e -> p <= e /\ e <= s.length) (e2 : ∀ p e, p <= s.length -> rest p = .err e -> p <= e /\ e <= s.length) {p o e : Nat} (h : pB one rest s p o = .err e) : p <= e /\ e <= s.length := by
 rw [pB_E] at h
 split at h
 ·rename_i hs
  have := sgn_lt hs
  have := pE_err h1 e1 e2 (by omega) h
  omega
 ·cases h
theorem pN_err (h1 : ∀ p t p2, one p = .ok t p2 -> p < p2 /\ p2 <= s.length) (e1 : ∀ p e, p <= s.length -> one p = .err e -> p <= e /\ e <= s.length) (e2 : ∀ p e, p <= s.length -> rest p = .err e -> p <= e /\ e <= s.length) {p c e : Nat} (hp : p <= s.length) (h : pN one rest s p c = .err e) : p <= e /\ e <= s.length := by
 rw [pN_E] at h
 split at h
 ·rename_i hs
  have := sgn_lt hs
  have := pE_err h1 e1 e2 (by omega) h
  omega
 ·split at h
  ·cases h
  ·injection h with h; omega
end
theorem pT_err (s : List Nat) : ∀ f, (∀ p e, p <= s.length -> pT s f p = .err e -> p <= e /\ e <= s.length) /\ (∀ c p e, p <= s.length -> pTl s f c p = .err e -> p <= e /\ e <= s.length)
 | 0 => ⟨fun p e hp h => (by unfold pT at h; injection h with h; omega), fun c p e hp h => (by unfold pTl at h; injection h with h; omega)⟩
 | f + 1 => by
  obtain ⟨i1, i2⟩ := pT_err s f
  refine ⟨fun p e hp h => ?_, fun c p e hp h => ?_⟩
  ·rw [pT_eq] at h
   cases hn : nm s p with
   | err e' => rw [hn] at h; injection h with h; subst h; exact nm_err hp hn
   | ok n p1 =>
    rw [hn] at h
    simp only at h
    have := nm_pos hn
    cases hb : pB (pT s f) (pTl s f 41) s p1 40 with
    | err e' =>
     rw [hb] at h; injection h with h; subst h
     have := pB_err (pT_pos s f).1 i1 (i2 41) hb
     omega
    | ok l q => rw [hb] at h; cases h
  ·rw [pTl_eq] at h
   exact pN_err (pT_pos s f).1 i1 (i2 c) hp h
structure BkOk (m : Nat) (Y : Yenv) (q o : Nat) (s : List Nat) (gN gI gM : List MOper) (tn mo : Nat) : Prop where
 N : ∀ (fr : Fr) (st : St) (b : Bool) (p : Nat), fr.get 0 = some (.ptr q 0) -> Rgr q st s p b -> ∃ fr', arun ((gT m).cg Y) gN fr st = .ok fr' st /\ Kp [0, 2, 3] fr fr' /\ fr'.get tn = some (.bool (!b && sgn s p o))
 I : ∀ (fr : Fr) (st : St) (p : Nat), fr.get 0 = some (.ptr q 0) -> Rgr q st s p false -> p < s.length -> ∃ fr', arun ((gT m).cg Y) gI fr st = .ok fr' (st.put q (.row [.str s, .int .i64 (.ofNat (p + 1)), .bool false])) /\ Kp [0, 2, 3] fr fr'
 M : ∀ (fr : Fr) (st : St), ∃ fr', arun ((gT m).cg Y) gM fr st = .ok fr' st /\ Kp [0, 2, 3] fr fr' /\ fr'.get mo = some (.bool true)
noncomputable def bkG (gN : List MOper) (tn : Nat) (gI gM : List MOper) (x : Nat) (bl : MCode) : MCode := .seq (.region gN) (.cond (.t tn) (.seq (.region gI) (.seq (.region gM) (.block x (.loop bl)))) .skip)
section
variable {α : Type} {Rep : (Nat -> Prop) -> St -> α -> List AV -> Prop} {q id m g by_ c o FM x tt mo lo a tn : Nat} {Y : Yenv} {s : List Nat} {one : Nat -> Nat -> PR α} {rs : Nat -> Nat -> PR (List α)} {obj : AV -> List AV} {gTl gR gN gI gM : List MOper} {gD : List (MOper × Nat)}
theorem brk_run (ok : LpOk m Y q id g c by_ s obj gTl tt mo gD gR) (bk : BkOk m Y q o s gN gI gM tn mo) (hrs : ∀ f p, rs (f + 1) p = pN (one f) (rs f) s p c) (hpos : ∀ f p t p2, one f p = .ok t p2 -> p < p2 /\ p2 <= s.length)
  (hmono : ∀ {F1 F2 : Nat -> Prop} {s1 s2 : St} {t : α} {cs : List AV}, Same F1 s1 s2 -> (∀ i, F1 i -> F2 i) -> Rep F1 s1 t cs -> Rep F2 s2 t cs) (hc3 : ∀ {F : Nat -> Prop} {s1 : St} {t : α} {cs : List AV}, Rep F s1 t cs -> cs.length = 3 /\ cs.all AV.one = true)
  (hby : by_ <= 1000) (hm : 2 <= m) (hl : s.length <= 100000) (hcd : c < 48 \/ 57 < c) (hod : o < 48 \/ 57 < o)
  (hg : ∀ f p st, Rgr q st s p false -> p <= s.length -> s.length + 1 - p <= f -> f < FM -> q < st.next -> OneG Rep q s m Y g st (one f p)) (hq : q < lo) (hid : id < lo) (hqi : q ≠ id)
  {f p : Nat} {fr : Fr} {st : St} {b : Bool} (hf : s.length - p <= f) (hfm : f < FM) (hfu : f < m) (h : Rgr q st s p b) (hp : p <= s.length) (g0 : fr.get 0 = some (.ptr q 0)) (g2 : fr.get 2 = some (.ptr a 0)) (g3 : fr.get 3 = some (.ptr id 0)) (hobj : st.get id = some (.row (obj .nilsl))) (hlo : lo <= st.next) :
  ∃ FR st2 sl xs G p2 b2, acode (gT m) Y m (bkG gN tn gI gM x (blG gTl tt x gD gR)) none fr st = .norm FR st2 /\ FR.ds = fr.ds /\ FR.get 0 = some (.ptr q 0) /\ FR.get 2 = some (.ptr a 0) /\ FR.get 3 = some (.ptr id 0) /\ Rgr q st2 s p2 b2 /\ st2.get id = some (.row (obj sl)) /\ K2 q id lo st st2 /\ Gr lo st2 sl xs G ∧
   (b = true \/ dgt s p = true -> p2 = p /\ b2 = b) /\ (b = false -> match pB (one f) (rs f) s p o with | .ok l p3 => p2 = p3 /\ b2 = false /\ xs.length <= p3 /\ RL (Rep G st2) l xs | .err e => p2 = e /\ b2 = true) := by
 obtain ⟨f1, hA, kA, oA⟩ := bk.N fr st b p g0 h
 have q0 := kA.at (k := 0) (by decide) g0
 have q2 := kA.at (k := 2) (by decide) g2
 have q3 := kA.at (k := 3) (by decide) g3
 cases hw : (!b && sgn s p o) with
 | false =>
  rw [hw] at oA
  refine ⟨f1, st, .nilsl, [], fun _ => False, p, b, by simp only [amE, reduceEqDiff, ↓reduceIte, reduceCtorEq, reduceAdd, bkG, hA, oA], kA.1, q0, q2, q3, h, hobj, ⟨Nat.le_refl _, fun _ _ _ _ => rfl⟩, Gr.nil _ _, fun _ => ⟨rfl, rfl⟩, fun hb => ?_⟩
  rw [hb, Bool.not_false, Bool.true_and] at hw
  rw [pB_E, if_neg (by rw [hw]; decide)]
  exact ⟨rfl, hb, Nat.zero_le _, rfl⟩
 | true =>
  rw [hw] at oA
  rw [Bool.and_eq_true] at hw
  obtain ⟨hb, hs⟩ := hw
  have hb : b = false := by
   cases b with
   | false => rfl
   | true => cases hb
  subst hb
  have hpl := sgn_lt hs
  obtain ⟨f2, hB, kB⟩ := bk.I f1 st p q0 h hpl
  obtain ⟨sD, hsD⟩ : ∃ sD, sD = st.put q (.row [.str s, .int .i64 (.ofNat (p + 1)), .bool false]) := ⟨_, rfl⟩
  rw [<- hsD] at hB
  have hD : Rgr q sD s (p + 1) false := by unfold Rgr; rw [hsD, St.get_put, if_pos rfl]
  have oD : sD.get id = some (.row (obj .nilsl)) := by rw [hsD, St.get_put, if_neg (fun e => hqi e.symm)]; exact hobj
  have nD : sD.next = st.next := by rw [hsD]; rfl
  have kD : K2 q id lo st sD := ⟨by omega, fun i _ h2 _ => by rw [hsD, St.get_put, if_neg h2]⟩
  obtain ⟨f3, hC, kC, oC⟩ := bk.M f2 sD
  have key := gloop (Rep := Rep) (x := x) (a := a) (lo := lo) (FM := FM) ok hrs hpos hmono hc3 hby hm hl hcd hg hq hid hqi f (p + 1) f3 sD m [] .nilsl [] (fun _ => False) (by omega) hfm hfu hD (by omega) (kC.at (k := 0) (by decide) (kB.at (k := 0) (by decide) q0)) (kC.at (k := 2) (by decide) (kB.at (k := 2) (by decide) q2)) (kC.at (k := 3) (by decide) (kB.at (k := 3) (by decide) q3)) oC oD (Gr.nil _ _) rfl (by omega) (Nat.zero_le _)
  have hds : f3.ds = fr.ds := kC.1.trans (kB.1.trans kA.1)
  have xx : Nat.beq x x = true := Nat.beq_refl x
  have stuck : ∀ {P : Prop}, (false = true \/ dgt s p = true) -> P := fun h => h.elim (fun h => nomatch h) (fun h => by rw [dgt_sgn h hod] at hs; cases hs)
  rw [pB_E, if_pos hs]
  cases hr : pE (one f) (rs f) (p + 1) with
  | err e =>
   rw [hr] at key
   simp only [LoopG] at key
   obtain ⟨FR, s9, sl, xs, G, e1, e2, e3, e34, e4, e5, e6, e7, e8⟩ := key
   exact ⟨FR, s9, sl, xs, G, e, true, by simp only [amE, reduceEqDiff, ↓reduceIte, reduceCtorEq, reduceAdd, bkG, hA, oA, hB, hC, e1, xx], e2.trans hds, e3, e34, e4, e5, e6, kD.trans e7, e8, stuck, fun _ => ⟨rfl, rfl⟩⟩
  | ok l p3 =>
   rw [hr] at key
   simp only [LoopG] at key
   obtain ⟨FR, s9, sl, xs, G, e1, e2, e3, e34, e4, e5, e6, e7, e8, e9, e10⟩ := key
   exact ⟨FR, s9, sl, xs, G, p3, false, by simp only [amE, reduceEqDiff, ↓reduceIte, reduceCtorEq, reduceAdd, bkG, hA, oA, hB, hC, e1, xx], e2.trans hds, e3, e34, e4, e5, e6, kD.trans e7, e8, stuck, fun _ => ⟨rfl, rfl, e9, e10⟩⟩
end
theorem bk60a (m : Nat) (Y : Yenv) (q : Nat) (s : List Nat) (hl : s.length <= 100000) : BkOk (m + 1) Y q 123 s g60_2 g60_3 g60_4 10 4 := by
 refine ⟨fun fr st b p g0 h => ?N, fun fr st p g0 h hp => ?I, fun fr st => ?M⟩
 case N =>
  have nx := next_run h 123 m Y
  exact ⟨_, by simp only [amE, reduceEqDiff, ↓reduceIte, reduceCtorEq, reduceAdd, g60_2, g0, cg_fn, nx] <;> rfl, Kp.refl.s.s, gh⟩
 case I =>
  have l1 := ld1 h
  have ad := add1 (i := p) (by omega)
  have sto := st31 (k := .i64) (v := .ofNat (p + 1)) h
  exact ⟨_, by simp only [amE, reduceEqDiff, ↓reduceIte, reduceCtorEq, reduceAdd, g60_3, g0, ncp, fa1, l1, ad, sto] <;> rfl, Kp.refl.s.s.s.s.s.s.s⟩
 case M => exact ⟨_, by simp only [amE, reduceEqDiff, ↓reduceIte, reduceCtorEq, reduceAdd, g60_4] <;> rfl, Kp.refl.s, gh⟩
theorem bk60b (m : Nat) (Y : Yenv) (q : Nat) (s : List Nat) (hl : s.length <= 100000) : BkOk (m + 1) Y q 40 s g60_8 g60_9 g60_10 43 5 := by
 refine ⟨fun fr st b p g0 h => ?N, fun fr st p g0 h hp => ?I, fun fr st => ?M⟩
 case N =>
  have nx := next_run h 40 m Y
  exact ⟨_, by simp only [amE, reduceEqDiff, ↓reduceIte, reduceCtorEq, reduceAdd, g60_8, g0, cg_fn, nx] <;> rfl, Kp.refl.s.s, gh⟩
 case I =>
  have l1 := ld1 h
  have ad := add1 (i := p) (by omega)
  have sto := st31 (k := .i64) (v := .ofNat (p + 1)) h
  exact ⟨_, by simp only [amE, reduceEqDiff, ↓reduceIte, reduceCtorEq, reduceAdd, g60_9, g0, ncp, fa1, l1, ad, sto] <;> rfl, Kp.refl.s.s.s.s.s.s.s⟩
 case M => exact ⟨_, by simp only [amE, reduceEqDiff, ↓reduceIte, reduceCtorEq, reduceAdd, g60_10] <;> rfl, Kp.refl.s, gh⟩
theorem rgder_run {q : Nat} {s : List Nat} (hl : s.length <= 100000) (Y : Yenv) : ∀ (f m p : Nat) (st : St), 2 * f + s.length + 40 <= m -> Rgr q st s p false -> p <= s.length -> s.length + 1 - p <= f -> q < st.next -> OneG RepD q s m Y 60 st (pD s f p) := by
 intro f
 induction f using Nat.strongRecOn with
 | _ f ih =>
 intro m p st hm h hp hf hq
 cases f with
 | zero => omega
 | succ f =>
 obtain ⟨m, rfl⟩ : ∃ k, m = k + 2 := ⟨m - 2, by omega⟩
 have h0 := rgrNew (o := .row [(.int .i64 (.ofNat 0)), .nilsl, .nilsl]) h hq
 have k0 := keepNew (q := q) (a := st) (.row [(.int .i64 (.ofNat 0)), .nilsl, .nilsl])
 obtain ⟨n, p1, b, sB, hc, hB, kB, nB, hcase⟩ := rnum_all h0 hp (by omega) m Y (by omega)
 simp only [St.next_new] at nB
 rw [pD_eq]
 have fi : fillA [(.int .i64 (.ofNat 0)), .nilsl, .nilsl] [(0, 1, .int .i64 (.ofNat n))] = some [.int .i64 (.ofNat n), .nilsl, .nilsl] := rfl
 have sto := store_new (st := sB) (zs := [(.int .i64 (.ofNat 0)), .nilsl, .nilsl]) (x := [.int .i64 (.ofNat n), .nilsl, .nilsl]) rfl rfl rfl
 obtain ⟨sC, hsC⟩ : ∃ sC, sC = (sB.new (.row [(.int .i64 (.ofNat 0)), .nilsl, .nilsl])).put sB.next (.row [.int .i64 (.ofNat n), .nilsl, .nilsl]) := ⟨_, rfl⟩
 rw [<- hsC] at sto
 have hC : Rgr q sC s p1 b := by rw [hsC]; exact rgrPut (rgrNew hB (by omega)) (by omega)
 have nC : sC.next = sB.next + 1 := by rw [hsC]; rfl
 have kC : Keep1 q sB sC := by rw [hsC]; exact keepPut (keepNew _) (Nat.le_refl _)
 have gC : sC.get sB.next = some (.row [.int .i64 (.ofNat n), .nilsl, .nilsl]) := by rw [hsC, St.get_put, if_pos rfl]
 have gA : sC.get st.next = some (.row [(.int .i64 (.ofNat 0)), .nilsl, .nilsl]) := by
  rw [kC.2 _ (by omega) (by omega), kB.2 _ (by simp) (by omega), St.get_new, if_pos rfl]
 have k2 := (k0.trans kB).trans kC
 have hp1 : p <= p1 /\ p1 <= s.length := by
  rcases hcase with ⟨hn, _⟩ | ⟨hn, _⟩
  ·have := nm_pos hn; omega
  ·exact nm_err hp hn
 obtain ⟨fr1, hpre, q0, q2, q3, qd⟩ : ∃ fr1, (∀ X, acode (gT (m + 1)) Y (m + 1) (.seq (.region g60_0) (.seq (.region g60_1) X)) none (frOf 0 [.ptr q 0] Fr.nil) st = acode (gT (m + 1)) Y (m + 1) X none fr1 sC) /\ fr1.get 0 = some (.ptr q 0) /\ fr1.get 2 = some (.ptr st.next 0) /\ fr1.get 3 = some (.ptr sB.next 0) /\ fr1.ds = [] := by
  refine ⟨?f7, fun X => ?x7, ?a7, ?b7, ?c7, ?e7⟩
  case x7 =>
   simp only [amE, reduceEqDiff, ↓reduceIte, reduceCtorEq, reduceAdd, g60_0, g60_1, cg_fn, hc, fi, sto]
   rfl
  case a7 => simp only [Fr.get_set, reduceEqDiff, ↓reduceIte]
  case b7 => simp only [Fr.get_set, reduceEqDiff, ↓reduceIte]
  case c7 => simp only [Fr.get_set, reduceEqDiff, ↓reduceIte]
  case e7 => rfl
 obtain ⟨F1, s1, sv, xv, Gv, p2, b2, a1, a2, a3, a4, a5, h1, a7, kV, gV, st1, r1⟩ := brk_run (α := Tm) (Rep := RepT) (FM := f + 1) (x := 0) (f := f) (lo := sC.next) (a := st.next) (one := pT s) (rs := fun f p => pTl s f 125 p) (lp60a (m + 1) Y q sB.next s (.int .i64 (.ofNat n)) .nilsl) (bk60a m Y q s hl) (fun f p => pTl_eq s f 125 p) (fun f p t p2 h => (pT_pos s f).1 p t p2 h) (fun {_ _ _ _ t cs} k g h => RepT.mono k g t cs h) (fun h => h.cells3) (by decide) (by omega) hl (by decide) (by decide)
  (fun f' p' st' r1 r2 r3 r4 r5 => rgval_run hl Y f' (m + 1) p' st' (by omega) r1 r2 r3 r5) (by omega) (by omega) (by omega) (by omega) (by omega) (by omega) hC hp1.2 q0 q2 q3 gC (Nat.le_refl _)
 have kVn := kV.1
 have hp2 : p1 <= p2 /\ p2 <= s.length := by
  cases b with
  | true => have := st1 (.inl rfl); omega
  | false =>
   have r1 := r1 rfl
   cases hv : pB (pT s f) (fun p => pTl s f 125 p) s p1 123 with
   | err e =>
    rw [hv] at r1
    have := pB_err (pT_pos s f).1 (pT_err s f).1 ((pT_err s f).2 125) hv
    have := r1.1
    omega
   | ok vs q2 =>
    rw [hv] at r1
    have := pB_pos (pT_pos s f).1 ((pT_pos s f).2 125) hp1.2 hv
    have := r1.1
    omega
 obtain ⟨F2, s2, sl, xs, G, p3, b3, c1, c2, c3, c4, c5, h2, c7, kL, gL, st2, r2⟩ := brk_run (α := Dv) (Rep := RepD) (FM := f + 1) (x := 2) (f := f) (lo := s1.next) (a := st.next) (one := pD s) (rs := pDl s) (lp60b (m + 1) Y q sB.next s (.int .i64 (.ofNat n)) sv) (bk60b m Y q s hl) (fun f p => pDl_eq s f p) (fun f p t p2 h => (pD_pos s f).1 p t p2 h) (fun {_ _ _ _ t cs} k g h => RepD.mono k g t cs h) (fun h => h.cells3) (by decide) (by omega) hl (by decide) (by decide)
  (fun f' p' st' r1 r2 r3 r4 r5 => ih f' (by omega) (m + 1) p' st' (by omega) r1 r2 r3 r5) (by omega) (by omega) (by omega) (by omega) (by omega) (by omega) h1 hp2.2 a3 a4 a5 a7 (Nat.le_refl _)
 have kLn := kL.1
 have ld := load_row c7 rfl
 have hall : [AV.int .i64 (.ofNat n), sv, sl].all AV.one = true := by show (true && (AV.one sv && (AV.one sl && true))) = true; rw [gV.one, gL.one]; rfl
 have g2A : s2.get st.next = some (.row [(.int .i64 (.ofNat 0)), .nilsl, .nilsl]) := by rw [kL.2 _ (by omega) (by omega) (by omega), kV.2 _ (by omega) (by omega) (by omega)]; exact gA
 have sto2 := st3 (x := [.int .i64 (.ofNat n), sv, sl]) g2A rfl ⟨rfl, hall⟩
 obtain ⟨sF, hsF⟩ : ∃ sF, sF = s2.put st.next (.row [.int .i64 (.ofNat n), sv, sl]) := ⟨_, rfl⟩
 rw [<- hsF] at sto2
 have ldF : loadA true 3 sF (.ptr st.next 0) = some (.agg [.int .i64 (.ofNat n), sv, sl]) := load_row (by rw [hsF, St.get_put, if_pos rfl]) rfl
 have hrun : R (m + 2) Y 60 [.ptr q 0] st = .ret (.agg [.int .i64 (.ofNat n), sv, sl]) sF := by
  refine fun_of (mf := kf60) (fr := ?f3) t60 rfl (.inl ?x3) ?d3 ?r3
  case x3 =>
   show acode _ _ _ (.seq (.region g60_0) (.seq (.region g60_1) (.seq (bkG g60_2 10 g60_3 g60_4 0 (blG g60_5 25 0 g60_6 g60_7)) (.seq (bkG g60_8 43 g60_9 g60_10 2 (blG g60_11 58 2 g60_12 g60_13)) (.seq (.region g60_14) .ret))))) none _ _ = _
   rw [hpre]
   simp only [amE, reduceEqDiff, ↓reduceIte, reduceCtorEq, reduceAdd, a1, c1, g60_14, c4, c5, ld, sto2]
   rfl
  case d3 => exact c2.trans (a2.trans qd)
  case r3 => simp only [kf60, amE, reduceEqDiff, ↓reduceIte, c4, ldF]
 have hF : Rgr q sF s p3 b3 := by rw [hsF]; exact rgrPut h2 (by omega)
 have kF : Keep1 q st sF := by
  refine ⟨by rw [hsF]; show st.next <= s2.next; omega, fun i hi hne => ?_⟩
  rw [hsF, St.get_put, if_neg (by omega), kL.2 i (by omega) hne (by omega), kV.2 i (by omega) hne (by omega)]
  exact k2.2 i hi hne
 rcases hcase with ⟨hn, hb⟩ | ⟨hn, hb⟩
 ·rw [hn]
  simp only []
  have r1 := r1 hb
  cases hv : pB (pT s f) (fun p => pTl s f 125 p) s p1 123 with
  | err e =>
   rw [hv] at r1
   obtain ⟨e1, e2⟩ := r1
   obtain ⟨e3, e4⟩ := st2 (.inl e2)
   subst e1 e2 e3 e4
   exact ⟨_, sF, true, hrun, hF, .inl rfl, kF, rfl, hall⟩
  | ok vs q2 =>
   rw [hv] at r1
   obtain ⟨e1, e2, e3, e4⟩ := r1
   subst e1
   simp only []
   have r2 := r2 e2
   cases hd : pB (pD s f) (pDl s f) s p2 40 with
   | err e =>
    rw [hd] at r2
    obtain ⟨e5, e6⟩ := r2
    subst e5 e6
    exact ⟨_, sF, true, hrun, hF, .inl rfl, kF, rfl, hall⟩
   | ok l q3 =>
    rw [hd] at r2
    obtain ⟨e5, e6, e7, e8⟩ := r2
    subst e5 e6
    refine ⟨_, sF, hrun, hF, kF, ?_⟩
    simp only [RepD]
    have hp3 : p3 <= s.length := (pB_pos (pD_pos s f).1 (pD_pos s f).2 hp2.2 hd).2
    have sm1 : ∀ i, sC.next <= i -> i < s1.next -> sF.get i = s1.get i := fun i h1 h2 => by rw [hsF, St.get_put, if_neg (by omega)]; exact kL.2 i h2 (by omega) (by omega)
    have sm2 : ∀ i, s1.next <= i -> sF.get i = s2.get i := fun i h1 => by rw [hsF, St.get_put, if_neg (by omega)]
    have nF : sF.next = s2.next := by rw [hsF]; rfl
    exact ⟨sv, xv, sl, xs, rfl, (gV.slr (by omega)).mono (fun i hi => sm1 i hi.1 hi.2) (fun i hi => by omega), RepTs.mono (fun i hi => sm1 i (gV.1 i hi).1 (gV.1 i hi).2) (fun i hi => by have := gV.1 i hi; omega) vs xv e4.tms, (gL.slr (by omega)).mono (fun i hi => sm2 i hi.1) (fun i hi => by omega), RepDs.mono (fun i hi => sm2 i (gL.1 i hi).1) (fun i hi => by have := gL.1 i hi; omega) l xs e8.dvs⟩
 ·rw [hn]
  obtain ⟨e1, e2⟩ := st1 hb
  subst e1 e2
  obtain ⟨e3, e4⟩ := st2 hb
  subst e3 e4
  exact ⟨_, sF, _, hrun, hF, hb, kF, rfl, hall⟩
end Go.AM.D16
