import Derived.Test.YtphmjdnljmhipaaGreatDoorAmRd6
set_option linter.unusedSimpArgs false
set_option linter.unusedVariables false
set_option maxRecDepth 100000
namespace Go.AM.D16
open Go Go.AM
open Nat (reduceEqDiff reduceAdd)
theorem Gr.app1 {bytes lo q : Nat} {s s2 : St} {o : AO} {sl : AV} {xs : List (List AV)} {y : List AV} {G G2 : Nat -> Prop} (h : Gr lo s sl xs G) (hq : q < lo) (hlo : lo <= s.next) (ho : s2.get q = some o) (hb : (xs.length + 1) * bytes <= 140737488355328) (hb' : xs.length + 1 <= 140737488355328)
  (k : Keep1 q s s2) (hy : y.length = 3 /\ y.all AV.one = true) (hG2 : ∀ i, G2 i -> s.next <= i /\ i < s2.next) :
  ∃ sl' s3, appendA bytes 3 s2 sl 1 y = some (sl', s3) /\ s3.next = s2.next + 1 /\ (∀ i, i < lo -> s3.get i = s2.get i) /\ Same G s s3 /\ Same G2 s2 s3 /\ Gr lo s3 sl' (xs ++ [y]) (fun i => G i \/ G2 i) := by
 have h' : Gr lo (s.put q o) sl xs G := h.mono (Nat.le_refl _) (fun id h1 _ _ _ => by rw [St.get_put, if_neg (by omega)])
 have k' : Keeps (s.put q o) s2 := ⟨k.1, fun i hi => by
  rw [St.get_put]
  by_cases e : i = q
  ·rw [if_pos e, e]; exact ho
  ·rw [if_neg e]; exact k.2 i hi e⟩
 obtain ⟨sl', s3, e1, e2, e3, e4, e5, e6⟩ := h'.app (bytes := bytes) hlo hb hb' k' hy hG2
 refine ⟨sl', s3, e1, e3, fun i hi => e2 i (by have := k.1; omega) ?_, fun i hi => (e4 i hi).trans ?_, e5, e6⟩
 ·rcases h.2.2 with ⟨e, _⟩ | ⟨id, e, hid, _⟩
  ·rw [e]; intro h; cases h
  ·rw [e]; intro h; injection h with h1; omega
 ·rw [St.get_put, if_neg (by have := h.1 i hi; omega)]
def OneG {α : Type} (Rep : (Nat -> Prop) -> St -> α -> List AV -> Prop) (q : Nat) (s : List Nat) (m : Nat) (Y : Yenv) (g : Nat) (st : St) : PR α -> Prop
 | .ok t p => ∃ cs st2, R m Y g [.ptr q 0] st = .ret (.agg cs) st2 /\ Rgr q st2 s p false /\ Keep1 q st st2 /\ Rep (fun i => st.next <= i /\ i < st2.next) st2 t cs
 | .err p => ∃ cs st2 b, R m Y g [.ptr q 0] st = .ret (.agg cs) st2 /\ Rgr q st2 s p b /\ (b = true \/ dgt s p = true) /\ Keep1 q st st2 /\ cs.length = 3 /\ cs.all AV.one = true
def K2 (q id lo : Nat) (a b : St) : Prop := a.next <= b.next /\ ∀ i, i < lo -> i ≠ q -> i ≠ id -> b.get i = a.get i
theorem K2.trans {q id lo : Nat} {a b c : St} (h : K2 q id lo a b) (k : K2 q id lo b c) : K2 q id lo a c := ⟨Nat.le_trans h.1 k.1, fun i h1 h2 h3 => (k.2 i h1 h2 h3).trans (h.2 i h1 h2 h3)⟩
theorem K2.of {q id lo : Nat} {a b : St} (h : Keep1 q a b) (hlo : lo <= a.next) : K2 q id lo a b := ⟨h.1, fun i h1 h2 _ => h.2 i (by omega) h2⟩
noncomputable def blG (gTl : List MOper) (tt x : Nat) (gD : List (MOper × Nat)) (gR : List MOper) : MCode := .seq (.seq (.region gTl) (.cond (.t tt) .skip (.exit x))) (.block (x + 1) (.seq (.draw gD [(1, some 3), (1, some 5)]) (.region gR)))
structure LpOk (m : Nat) (Y : Yenv) (q id g c by_ : Nat) (s : List Nat) (obj : AV -> List AV) (gTl : List MOper) (tt mo : Nat) (gD : List (MOper × Nat)) (gR : List MOper) : Prop where
 T : ∀ (fr : Fr) (st : St) (p : Nat) (b more : Bool), fr.get 0 = some (.ptr q 0) -> fr.get mo = some (.bool more) -> Rgr q st s p b -> ∃ fr', arun ((gT m).cg Y) gTl fr st = .ok fr' st /\ Kp [0, 2, 3] fr fr' /\ fr'.get tt = some (.bool (more && !b))
 D : ∀ (fr : Fr) (st st2 s3 : St) (sl sl' : AV) (cs : List AV), fr.get 0 = some (.ptr q 0) -> fr.get 3 = some (.ptr id 0) -> st.get id = some (.row (obj sl)) -> st2.get id = some (.row (obj sl)) -> R m Y g [.ptr q 0] st = .ret (.agg cs) st2 -> cs.length = 3 -> appendA by_ 3 st2 sl 1 cs = some (sl', s3) -> s3.get id = some (.row (obj sl)) -> AV.one sl' = true -> avBeq sl sl = true -> ∃ fr', adraw ((gT m).cg Y) gD [(1, some 3), (1, some 5)] fr st = .ok fr' (s3.put id (.row (obj sl'))) /\ Kp [0, 2, 3] fr fr'
 Rr : ∀ (fr : Fr) (st st2 : St) (p : Nat) (b v : Bool), fr.get 0 = some (.ptr q 0) -> Rgr q st s p b -> (b = true -> v = false /\ st2 = st) -> (b = false -> R m Y 96 [.ptr q 0, .int .u8 (.ofNat c)] st = .ret (.bool v) st2) -> ∃ fr', arun ((gT m).cg Y) gR fr st = .ok fr' st2 /\ Kp [0, 2, 3] fr fr' /\ fr'.get mo = some (.bool v)
def pE {α : Type} (one : Nat -> PR α) (rest : Nat -> PR (List α)) (p : Nat) : PR (List α) :=
 match one p with
 | .err e => .err e
 | .ok t p2 => match rest p2 with
  | .err e => .err e
  | .ok l p3 => .ok (t :: l) p3
theorem pB_E {α : Type} (one : Nat -> PR α) (rest : Nat -> PR (List α)) (s : List Nat) (p o : Nat) : pB one rest s p o = if sgn s p o = true then pE one rest (p + 1) else .ok [] p := by unfold pB pE; rfl
theorem pN_E {α : Type} (one : Nat -> PR α) (rest : Nat -> PR (List α)) (s : List Nat) (p c : Nat) : pN one rest s p c = if sgn s p 44 = true then pE one rest (p + 1) else if sgn s p c = true then .ok [] (p + 1) else .err p := by unfold pN pE; rfl
def LoopG {α : Type} (Rep : (Nat -> Prop) -> St -> α -> List AV -> Prop) (q id lo a : Nat) (s : List Nat) (obj : AV -> List AV) (run : CR) (x : Nat) (l0 : List α) (st : St) (ds : List DA) : PR (List α) -> Prop
 | .ok l p => ∃ FR st2 sl xs G, run = .exit x FR st2 /\ FR.ds = ds /\ FR.get 0 = some (.ptr q 0) /\ FR.get 2 = some (.ptr a 0) /\ FR.get 3 = some (.ptr id 0) /\ Rgr q st2 s p false /\ st2.get id = some (.row (obj sl)) /\ K2 q id lo st st2 /\ Gr lo st2 sl xs G /\ xs.length <= p /\ RL (Rep G st2) (l0 ++ l) xs
 | .err p => ∃ FR st2 sl xs G, run = .exit x FR st2 /\ FR.ds = ds /\ FR.get 0 = some (.ptr q 0) /\ FR.get 2 = some (.ptr a 0) /\ FR.get 3 = some (.ptr id 0) /\ Rgr q st2 s p true /\ st2.get id = some (.row (obj sl)) /\ K2 q id lo st st2 /\ Gr lo st2 sl xs G
theorem dgt_sgn {s : List Nat} {p c : Nat} (h : dgt s p = true) (hc : c < 48 \/ 57 < c) : sgn s p c = false := by
 obtain ⟨hx, h1, h2, _⟩ := dgt_ch h
 unfold sgn
 rw [hx]
 simp only [Option.some.injEq, decide_eq_false_iff_not]
 omega
section
variable {α : Type} {Rep : (Nat -> Prop) -> St -> α -> List AV -> Prop} {q id m g by_ c FM x tt mo lo a : Nat} {Y : Yenv} {s : List Nat} {one : Nat -> Nat -> PR α} {rs : Nat -> Nat -> PR (List α)} {obj : AV -> List AV} {gTl gR : List MOper} {gD : List (MOper × Nat)}
theorem gexit (ok : LpOk m Y q id g c by_ s obj gTl tt mo gD gR) {fr : Fr} {st : St} {p fuel : Nat} {b : Bool} (h : Rgr q st s p b) (g0 : fr.get 0 = some (.ptr q 0)) (gm : fr.get mo = some (.bool false)) :
  ∃ FR, aloop (acode (gT m) Y m (blG gTl tt x gD gR) none) (fuel + 1) fr st = .exit x FR st /\ Kp [0, 2, 3] fr FR := by
 obtain ⟨f1, hA, kA, oA⟩ := ok.T fr st p b false g0 gm h
 rw [Bool.false_and] at oA
 refine ⟨f1, ?_, kA⟩
 rw [aloop]
 simp only [amE, reduceEqDiff, ↓reduceIte, reduceCtorEq, reduceAdd, blG, hA, oA]
theorem gloop (ok : LpOk m Y q id g c by_ s obj gTl tt mo gD gR) (hrs : ∀ f p, rs (f + 1) p = pN (one f) (rs f) s p c) (hpos : ∀ f p t p2, one f p = .ok t p2 -> p < p2 /\ p2 <= s.length)
  (hmono : ∀ {F1 F2 : Nat -> Prop} {s1 s2 : St} {t : α} {cs : List AV}, Same F1 s1 s2 -> (∀ i, F1 i -> F2 i) -> Rep F1 s1 t cs -> Rep F2 s2 t cs) (hc3 : ∀ {F : Nat -> Prop} {s1 : St} {t : α} {cs : List AV}, Rep F s1 t cs -> cs.length = 3 /\ cs.all AV.one = true)
  (hby : by_ <= 1000) (hm : 2 <= m) (hl : s.length <= 100000) (hcd : c < 48 \/ 57 < c)
  (hg : ∀ f p st, Rgr q st s p false -> p <= s.length -> s.length + 1 - p <= f -> f < FM -> q < st.next -> OneG Rep q s m Y g st (one f p)) (hq : q < lo) (hid : id < lo) (hqi : q ≠ id) :
  ∀ (f p : Nat) (fr : Fr) (st : St) (fuel : Nat) (l0 : List α) (sl : AV) (xs : List (List AV)) (G : Nat -> Prop), s.length + 1 - p <= f -> f < FM -> f < fuel -> Rgr q st s p false -> p <= s.length -> fr.get 0 = some (.ptr q 0) -> fr.get 2 = some (.ptr a 0) -> fr.get 3 = some (.ptr id 0) -> fr.get mo = some (.bool true) -> st.get id = some (.row (obj sl)) ->
   Gr lo st sl xs G -> RL (Rep G st) l0 xs -> lo <= st.next -> l0.length <= p ->
   LoopG Rep q id lo a s obj (aloop (acode (gT m) Y m (blG gTl tt x gD gR) none) fuel fr st) x l0 st fr.ds (pE (one f) (rs f) p)
 | 0, p, _, _, _, _, _, _, _, h1, _, _, _, h3, _, _, _, _, _, _, _, _, _ => by omega
 | f + 1, p, fr, st, 0, _, _, _, _, _, _, h2, _, _, _, _, _, _, _, _, _, _, _ => by omega
 | f + 1, p, fr, st, fuel + 1, l0, sl, xs, G, hf, hfm, hfu, h, hp, g0, g2, g3, gm, hobj, hgr, hrl, hlo, hl0 => by
  obtain ⟨fuel, rfl⟩ : ∃ k, fuel = k + 1 := ⟨fuel - 1, by omega⟩
  obtain ⟨f1, hA, kA, oA⟩ := ok.T fr st p false true g0 gm h
  rw [Bool.true_and, Bool.not_false] at oA
  have q0 := kA.at (k := 0) (by decide) g0
  have q2 := kA.at (k := 2) (by decide) g2
  have q3 := kA.at (k := 3) (by decide) g3
  have hxl := hrl.len
  have hbq := hgr.beq
  have hone := hg (f + 1) p st h hp hf hfm (by omega)
  have hbb : (xs.length + 1) * by_ <= 140737488355328 := by
   have : (xs.length + 1) * by_ <= 100002 * 1000 := Nat.mul_le_mul (by omega) hby
   omega
  -- what the round does, up to whether it goes on
  have round : ∀ (cs : List AV) (st2 : St) (p2 : Nat) (b : Bool) (G2 : Nat -> Prop), R m Y g [.ptr q 0] st = .ret (.agg cs) st2 -> Rgr q st2 s p2 b -> Keep1 q st st2 -> (cs.length = 3 /\ cs.all AV.one = true) -> (∀ i, G2 i -> st.next <= i /\ i < st2.next) -> (b = true \/ dgt s p2 = true -> True) ->
    ∃ f2 s4 sl', (∀ v st5, (b = true -> v = false /\ st5 = s4) -> (b = false -> R m Y 96 [.ptr q 0, .int .u8 (.ofNat c)] s4 = .ret (.bool v) st5) -> ∃ f3, acode (gT m) Y m (blG gTl tt x gD gR) none fr st = .norm f3 st5 /\ Kp [0, 2, 3] f2 f3 /\ f3.get mo = some (.bool v)) ∧
     Rgr q s4 s p2 b /\ f2.ds = fr.ds /\ f2.get 0 = some (.ptr q 0) /\ f2.get 2 = some (.ptr a 0) /\ f2.get 3 = some (.ptr id 0) /\ s4.get id = some (.row (obj sl')) /\ K2 q id lo st s4 /\ lo <= s4.next /\ Gr lo s4 sl' (xs ++ [cs]) (fun i => G i \/ G2 i) /\ Same G st s4 /\ Same G2 st2 s4 := by
   intro cs st2 p2 b G2 hc h2 k2 hcs hG2 _
   obtain ⟨sl', s3, ha, n3, kp3, sm1, sm2, gr3⟩ := hgr.app1 (bytes := by_) hq hlo h2 hbb (by omega) k2 hcs hG2
   have ho2 : st2.get id = some (.row (obj sl)) := (k2.2 id (by omega) (fun e => hqi e.symm)).trans hobj
   have ho3 : s3.get id = some (.row (obj sl)) := (kp3 id hid).trans ho2
   obtain ⟨f2, hB, kB⟩ := ok.D f1 st st2 s3 sl sl' cs q0 q3 hobj ho2 hc hcs.1 ha ho3 gr3.one hbq
   have r0 := kB.at (k := 0) (by decide) q0
   have r2 := kB.at (k := 2) (by decide) q2
   have r3 := kB.at (k := 3) (by decide) q3
   have k2n := k2.1
   obtain ⟨s4, hs4⟩ : ∃ s4, s4 = s3.put id (.row (obj sl')) := ⟨_, rfl⟩
   rw [<- hs4] at hB
   have h4 : Rgr q s4 s p2 b := by
    unfold Rgr
    rw [hs4, St.get_put, if_neg hqi]
    exact (kp3 q hq).trans h2
   have n4 : s4.next = s3.next := by rw [hs4]; rfl
   have up : ∀ i, lo <= i -> s4.get i = s3.get i := fun i hi => by rw [hs4, St.get_put, if_neg (by omega)]
   refine ⟨f2, s4, sl', fun v st5 hb1 hb2 => ?_, h4, kB.1.trans kA.1, r0, r2, r3, by rw [hs4, St.get_put, if_pos rfl], ⟨by omega, fun i h1 h2 h3 => ?_⟩, by omega, gr3.mono (by omega) (fun i hi _ _ _ => up i hi), fun i hi => (up i (hgr.1 i hi).1).trans (sm1 i hi), fun i hi => (up i (by have := hG2 i hi; omega)).trans (sm2 i hi)⟩
   ·obtain ⟨f3, hC, kC, oC⟩ := ok.Rr f2 s4 st5 p2 b v r0 h4 hb1 hb2
    exact ⟨f3, by simp only [amE, reduceEqDiff, ↓reduceIte, reduceCtorEq, reduceAdd, blG, hA, oA, hB, hC], kC, oC⟩
   ·rw [hs4, St.get_put, if_neg h3, kp3 i h1, k2.2 i (by omega) h2]
  unfold pE
  cases ho : one (f + 1) p with
  | err e =>
   rw [ho] at hone
   obtain ⟨cs, st2, b, hc, h2, hb, k2, hcs⟩ := hone
   obtain ⟨f2, s4, sl', hrun, h4, hds, r0, r2, r3, hob, kk, hlo4, gr4, _, _⟩ := round cs st2 e b (fun _ => False) hc h2 k2 hcs (fun _ h => h.elim) (fun _ => trivial)
   obtain ⟨st5, hst5⟩ : ∃ st5, (b = true -> false = false /\ st5 = s4) /\ (b = false -> R m Y 96 [.ptr q 0, .int .u8 (.ofNat c)] s4 = .ret (.bool false) st5) /\ Rgr q st5 s e true /\ Keep1 q s4 st5 := by
    cases b with
    | true => exact ⟨s4, fun _ => ⟨rfl, rfl⟩, (fun h => nomatch h), h4, Keep1.refl q s4⟩
    | false =>
     have hd : dgt s e = true := hb.elim (fun h => nomatch h) (fun h => h)
     obtain ⟨st5, e1, e2, e3, e4⟩ := goes_run h4 (by omega) c (m - 2) Y
     rw [Nat.sub_add_cancel hm] at e1
     rw [dgt_sgn hd (by decide)] at e1 e3
     rw [dgt_sgn hd hcd, if_neg (by decide), if_neg (by decide)] at e3
     exact ⟨st5, (fun h => nomatch h), fun _ => e1, e3, e2⟩
   obtain ⟨hb1, hb2, h5, k5⟩ := hst5
   obtain ⟨f3, hst, k3, om⟩ := hrun false st5 hb1 hb2
   obtain ⟨f4, hx, k4⟩ := gexit (x := x) (fuel := fuel) ok h5 (k3.at (k := 0) (by decide) r0) om
   simp only [LoopG]
   rw [aloop, hst]
   exact ⟨f4, st5, sl', xs ++ [cs], _, hx, k4.1.trans (k3.1.trans hds), k4.at (by decide) (k3.at (by decide) r0), k4.at (by decide) (k3.at (by decide) r2), k4.at (by decide) (k3.at (by decide) r3), h5, (k5.2 id (by omega) (fun e => hqi e.symm)).trans hob, kk.trans (K2.of k5 hlo4), gr4.mono k5.1 (fun i h1 h2 _ _ => k5.2 i h2 (by omega))⟩
  | ok t p2 =>
   rw [ho] at hone
   obtain ⟨cs, st2, hc, h2, k2, hrep⟩ := hone
   obtain ⟨hp1, hp2⟩ := hpos _ _ _ _ ho
   obtain ⟨f2, s4, sl', hrun, h4, hds, r0, r2, r3, hob, kk, hlo4, gr4, sm1, sm2⟩ := round cs st2 p2 false (fun i => st.next <= i /\ i < st2.next) hc h2 k2 (hc3 hrep) (fun _ h => h) (fun _ => trivial)
   obtain ⟨st5, e1, k5, h5, n5⟩ := goes_run h4 (by omega) c (m - 2) Y
   rw [Nat.sub_add_cancel hm] at e1
   obtain ⟨f3, hst, k3, om⟩ := hrun _ st5 (fun h => nomatch h) (fun _ => e1)
   have t0 := k3.at (k := 0) (by decide) r0
   have t2 := k3.at (k := 2) (by decide) r2
   have t3 := k3.at (k := 3) (by decide) r3
   have hob5 := (k5.2 id (by omega) (fun e => hqi e.symm)).trans hob
   have gr5 := gr4.mono k5.1 (fun i h1 h2 _ _ => k5.2 i h2 (by omega))
   have kk5 := kk.trans (K2.of (id := id) k5 hlo4)
   have sm5 : Same (fun i => G i \/ st.next <= i /\ i < st2.next) s4 st5 := fun i hi => by
    have := gr4.1 i hi
    exact k5.2 i this.2 (by omega)
   have rl5 : RL (Rep (fun i => G i \/ st.next <= i /\ i < st2.next) st5) (l0 ++ [t]) (xs ++ [cs]) :=
    (RL.mono (fun t' x' hx => hmono (Same.trans sm1 fun i hi => sm5 i (.inl hi)) (fun i hi => .inl hi) hx) hrl).snoc (hmono (Same.trans sm2 fun i hi => sm5 i (.inr hi)) (fun i hi => .inr hi) hrep)
   have hd3 : f3.ds = fr.ds := k3.1.trans hds
   simp only []
   rw [hrs, pN_E, aloop, hst]
   simp only []
   cases hs : sgn s p2 44 with
   | true =>
    rw [hs] at om h5
    rw [if_pos rfl] at h5 ⊢
    have hpl := sgn_lt hs
    have ih := gloop ok hrs hpos hmono hc3 hby hm hl hcd hg hq hid hqi f (p2 + 1) f3 st5 (fuel + 1) (l0 ++ [t]) sl' (xs ++ [cs]) _ (by omega) (by omega) (by omega) h5 (by omega) t0 t2 t3 om hob5 gr5 rl5 (by have := k5.1; omega) (by simp; omega)
    cases hr : pE (one f) (rs f) (p2 + 1) with
    | err e =>
     rw [hr] at ih
     simp only [LoopG] at ih ⊢
     obtain ⟨FR, s9, sl9, xs9, G9, e1, e2, e3, e34, e4, e5, e6, e7, e8⟩ := ih
     exact ⟨FR, s9, sl9, xs9, G9, e1, e2.trans hd3, e3, e34, e4, e5, e6, kk5.trans e7, e8⟩
    | ok l p3 =>
     rw [hr] at ih
     simp only [LoopG] at ih ⊢
     obtain ⟨FR, s9, sl9, xs9, G9, e1, e2, e3, e34, e4, e5, e6, e7, e8, e9, e10⟩ := ih
     exact ⟨FR, s9, sl9, xs9, G9, e1, e2.trans hd3, e3, e34, e4, e5, e6, kk5.trans e7, e8, e9, by rw [List.append_assoc] at e10; exact e10⟩
   | false =>
    rw [hs] at om h5
    rw [if_neg (by decide)] at h5 ⊢
    obtain ⟨f4, hx, k4⟩ := gexit (x := x) (fuel := fuel) ok h5 t0 om
    cases hs2 : sgn s p2 c with
    | true =>
     rw [hs2] at h5
     rw [if_pos rfl] at h5 ⊢
     have hpl := sgn_lt hs2
     simp only [LoopG]
     exact ⟨f4, st5, sl', xs ++ [cs], _, hx, k4.1.trans hd3, k4.at (by decide) t0, k4.at (by decide) t2, k4.at (by decide) t3, h5, hob5, kk5, gr5, by simp; omega, rl5⟩
    | false =>
     rw [hs2] at h5
     rw [if_neg (by decide)] at h5 ⊢
     simp only [LoopG]
     exact ⟨f4, st5, sl', xs ++ [cs], _, hx, k4.1.trans hd3, k4.at (by decide) t0, k4.at (by decide) t2, k4.at (by decide) t3, h5, hob5, kk5, gr5⟩
end
end Go.AM.D16
