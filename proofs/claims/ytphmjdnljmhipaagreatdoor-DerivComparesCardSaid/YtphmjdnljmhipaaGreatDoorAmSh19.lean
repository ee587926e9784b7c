import Derived.Test.YtphmjdnljmhipaaGreatDoorAmSh10
set_option linter.unusedSimpArgs false
set_option linter.unusedVariables false
set_option maxRecDepth 100000
namespace Go.AM.D16
open Go Go.AM
noncomputable section
open Nat (reduceEqDiff reduceAdd)
theorem own1_at {s : St} {id n : Nat} {cells : List AV} (hg : s.get id = some (.row cells)) (hn : cells.length = n) {k : Nat} {x : AV} (hx : cells[k]? = some x) : ∃ p, iaddrA 1 (.own id 0 n 1 none n) (.int .i64 (.ofNat k)) = some p /\ loadA false 1 s p = some x := by
 have hk := (List.getElem?_eq_some_iff.1 hx).1
 subst hn
 refine ⟨.ptr id (0 + k * 1), ?_, ?_⟩
 ·simp only [iaddrA]
  rw [Nat.ble_eq_true_of_le (show k + 1 <= cells.length from hk)]; rfl
 ·simp only [loadA, cellsAt, hg, Option.bind_some, Nat.zero_add, Nat.mul_one]
  have : (cells.drop k).take 1 = [x] := by
   rw [List.drop_eq_getElem_cons hk]
   simp only [List.take_succ_cons, List.take_zero]
   have := (List.getElem?_eq_some_iff.1 hx).2
   rw [this]
  rw [this]; rfl
def ZR (F : Nat -> Prop) (s : St) (sl : AV) (l : List Int) : Prop := (l = [] /\ (sl = .nilsl \/ sl = .lst 0 [] true)) \/ ∃ id, sl = .own id 0 l.length 1 none l.length /\ F id /\ s.get id = some (.row (l.map (AV.int .i64)))
theorem ZR.mono {F G : Nat -> Prop} {s s' : St} {sl : AV} {l : List Int} (h : ZR F s sl l) (k : Same F s s') (hG : ∀ i, F i -> G i) : ZR G s' sl l := by
 rcases h with h | ⟨id, h1, h2, h3⟩
 ·exact .inl h
 ·exact .inr ⟨id, h1, hG _ h2, k.get h2 h3⟩
theorem ZR.len {F : Nat -> Prop} {s : St} {sl : AV} {l : List Int} (h : ZR F s sl l) (s' : St) : (bif lenFits 0 sl then lenA s' sl else none) = some (.int .i64 (.ofNat l.length)) := by
 rcases h with ⟨rfl, rfl | rfl⟩ | ⟨id, rfl, _, _⟩ <;> rfl
theorem ZR.one {F : Nat -> Prop} {s : St} {sl : AV} {l : List Int} (h : ZR F s sl l) : AV.one sl = true := by
 rcases h with ⟨rfl, rfl | rfl⟩ | ⟨id, rfl, _, _⟩ <;> rfl
theorem ZR.at {F : Nat -> Prop} {s : St} {sl : AV} {l : List Int} (h : ZR F s sl l) {k : Nat} {x : Int} (hx : l[k]? = some x) : ∃ p, iaddrA 1 sl (.int .i64 (.ofNat k)) = some p /\ loadA false 1 s p = some (.int .i64 x) := by
 rcases h with ⟨rfl, _⟩ | ⟨id, rfl, _, hg⟩
 ·simp at hx
 ·exact own1_at hg (by simp) (by simp [hx])
def ZRs (F : Nat -> Prop) (s : St) : List AV -> List (List Int) -> Prop
 | [], [] => True
 | x :: xs, l :: ls => ZR F s x l /\ ZRs F s xs ls
 | _, _ => False
theorem ZRs.mono {F G : Nat -> Prop} {s s' : St} (k : Same F s s') (hG : ∀ i, F i -> G i) : ∀ {xs : List AV} {ls : List (List Int)}, ZRs F s xs ls -> ZRs G s' xs ls
 | [], [], _ => trivial
 | _ :: _, _ :: _, h => ⟨h.1.mono k hG, ZRs.mono k hG h.2⟩
 | [], _ :: _, h => h.elim
 | _ :: _, [], h => h.elim
theorem ZRs.len {F : Nat -> Prop} {s : St} : ∀ {xs : List AV} {ls : List (List Int)}, ZRs F s xs ls -> xs.length = ls.length
 | [], [], _ => rfl
 | _ :: _, _ :: _, h => by simp only [List.length_cons]; rw [ZRs.len h.2]
 | [], _ :: _, h => h.elim
 | _ :: _, [], h => h.elim
theorem ZRs.at {F : Nat -> Prop} {s : St} : ∀ {xs : List AV} {ls : List (List Int)}, ZRs F s xs ls -> ∀ {k : Nat} {l : List Int}, ls[k]? = some l -> ∃ x, xs[k]? = some x /\ ZR F s x l
 | [], [], _, k, l, hl => by simp at hl
 | x :: xs, y :: ls, h, 0, l, hl => by simp at hl; subst hl; exact ⟨x, rfl, h.1⟩
 | x :: xs, y :: ls, h, k + 1, l, hl => by simpa using ZRs.at h.2 (k := k) (by simpa using hl)
 | [], _ :: _, h, _, _, _ => h.elim
 | _ :: _, [], h, _, _, _ => h.elim
theorem ZRs.snoc {F : Nat -> Prop} {s : St} : ∀ {xs : List AV} {ls : List (List Int)} {x : AV} {l : List Int}, ZRs F s xs ls -> ZR F s x l -> ZRs F s (xs ++ [x]) (ls ++ [l])
 | [], [], _, _, _, h => ⟨h, trivial⟩
 | _ :: _, _ :: _, _, _, h, k => ⟨h.1, ZRs.snoc h.2 k⟩
 | [], _ :: _, _, _, h, _ => h.elim
 | _ :: _, [], _, _, h, _ => h.elim
def LR (F : Nat -> Prop) (s : St) (sl : AV) (ls : List (List Int)) : Prop := (sl = .nilsl /\ ls = []) \/ ∃ id cells, sl = .own id 0 ls.length 1 none ls.length /\ F id /\ s.get id = some (.row cells) /\ ZRs F s cells ls
theorem LR.mono {F G : Nat -> Prop} {s s' : St} {sl : AV} {ls : List (List Int)} (h : LR F s sl ls) (k : Same F s s') (hG : ∀ i, F i -> G i) : LR G s' sl ls := by
 rcases h with h | ⟨id, cells, h1, h2, h3, h4⟩
 ·exact .inl h
 ·exact .inr ⟨id, cells, h1, hG _ h2, k.get h2 h3, h4.mono k hG⟩
theorem LR.len {F : Nat -> Prop} {s : St} {sl : AV} {ls : List (List Int)} (h : LR F s sl ls) (s' : St) : (bif lenFits 0 sl then lenA s' sl else none) = some (.int .i64 (.ofNat ls.length)) := by
 rcases h with ⟨rfl, rfl⟩ | ⟨id, cells, rfl, _⟩ <;> rfl
theorem LR.at {F : Nat -> Prop} {s : St} {sl : AV} {ls : List (List Int)} (h : LR F s sl ls) {k : Nat} {l : List Int} (hl : ls[k]? = some l) : ∃ p x, iaddrA 1 sl (.int .i64 (.ofNat k)) = some p /\ loadA false 1 s p = some x /\ ZR F s x l := by
 rcases h with ⟨_, rfl⟩ | ⟨id, cells, rfl, _, hg, hz⟩
 ·simp at hl
 ·obtain ⟨x, hx, hzx⟩ := hz.at hl
  obtain ⟨p, h1, h2⟩ := own1_at hg hz.len hx
  exact ⟨p, x, h1, h2, hzx⟩
def g20_1 : List (MOper × Nat) := [(⟨(some 16), .mv (.t 0), none⟩, 0), (⟨(some 17), .mv (.t 5), none⟩, 0), (⟨(some 18), .iaddr 1 (.t 16) (.t 17), none⟩, 3), (⟨(some 19), .load false 1 (.t 18), none⟩, 7), (⟨(some 20), .mv (.t 1), none⟩, 0), (⟨(some 21), .mv (.t 5), none⟩, 0), (⟨(some 22), .iaddr 1 (.t 20) (.t 21), none⟩, 48), (⟨(some 23), .load false 1 (.t 22), none⟩, 112), (⟨(some 24), .bin false .neq (.t 19) (.t 23), none⟩, 255)]
def g20_4 : List MOper := [⟨(some 6), .mv (.t 0), none⟩, ⟨(some 7), .len 0 (.t 6), none⟩, ⟨(some 8), .mv (.t 1), none⟩, ⟨(some 9), .len 0 (.t 8), none⟩, ⟨(some 10), .bin false .neq (.t 7) (.t 9), none⟩]
def bf20_0 : MCode := (.seq (.region [⟨(some 15), .mv (.t 13), none⟩, ⟨(some 5), .mv (.t 15), none⟩])
 (.seq (.draw g20_1 [])
 (.cond (.t 24)
 (.seq (.region [⟨(some 4), .mv (.c (.bool false)), none⟩])
 .ret)
 .skip)))
def kf20 : MFunc := ⟨26, (.seq (.region [⟨(some 4), .mv (.c (.bool false)), none⟩])
 (.seq (.seq (.region g20_4)
 (.cond (.t 10)
 (.seq (.region [⟨(some 4), .mv (.c (.bool false)), none⟩])
 .ret)
 .skip))
 (.seq (.seq (.region [⟨(some 11), .mv (.t 0), none⟩, ⟨(some 12), .len 0 (.t 11), none⟩, ⟨(some 13), .mv (.c (.int .i64 (.ofNat 0))), none⟩])
 (.block 0 (.loop (lb 14 13 12 25 bf20_0))))
 (.seq (.region [⟨(some 4), .mv (.c (.bool true)), none⟩])
 .ret)))), [.t 4]⟩
theorem t20 : tbl 20 = some kf20 := by kernel_rfl
def g19_0 : List MOper := [⟨(some 19), .mv (.t 17), none⟩, ⟨(some 20), .iaddr 1 (.t 15) (.t 17), none⟩, ⟨(some 21), .load false 1 (.t 20), none⟩, ⟨(some 7), .mv (.t 19), none⟩, ⟨(some 8), .mv (.t 21), none⟩]
def g19_1 : List MOper := [⟨(some 22), .mv (.t 1), none⟩, ⟨(some 23), .mv (.t 7), none⟩, ⟨(some 24), .iaddr 1 (.t 22) (.t 23), none⟩, ⟨(some 25), .load false 1 (.t 24), none⟩, ⟨(some 9), .mv (.t 25), none⟩]
def g19_2 : List MOper := [⟨(some 26), .mv (.t 2), none⟩, ⟨(some 27), .mv (.t 8), none⟩, ⟨(some 28), .mv (.t 9), none⟩, ⟨(some 29), .call (.t 26) [(.t 27), (.t 28)], none⟩, ⟨(some 30), .un .not (.t 29), none⟩]
def g19_5 : List MOper := [⟨(some 10), .mv (.t 0), none⟩, ⟨(some 11), .len 0 (.t 10), none⟩, ⟨(some 12), .mv (.t 1), none⟩, ⟨(some 13), .len 0 (.t 12), none⟩, ⟨(some 14), .bin false .neq (.t 11) (.t 13), none⟩]
def bf19_0 : MCode := (.seq (.region g19_0)
 (.seq (.region g19_1)
 (.seq (.region g19_2)
 (.cond (.t 30)
 (.seq (.region [⟨(some 6), .mv (.c (.bool false)), none⟩])
 .ret)
 .skip))))
def kf19 : MFunc := ⟨32, (.seq (.region [⟨(some 6), .mv (.c (.bool false)), none⟩])
 (.seq (.seq (.region g19_5)
 (.cond (.t 14)
 (.seq (.region [⟨(some 6), .mv (.c (.bool false)), none⟩])
 .ret)
 .skip))
 (.seq (.seq (.region [⟨(some 15), .mv (.t 0), none⟩, ⟨(some 16), .len 0 (.t 15), none⟩, ⟨(some 17), .mv (.c (.int .i64 (.ofNat 0))), none⟩])
 (.block 0 (.loop (lb 18 17 16 31 bf19_0))))
 (.seq (.region [⟨(some 6), .mv (.c (.bool true)), none⟩])
 .ret)))), [.t 6]⟩
theorem t19 : tbl 19 = some kf19 := by kernel_rfl
theorem equal_run {F F2 : Nat -> Prop} {st : St} {a b : AV} {l : List Int} (ha : ZR F st a l) (hb : ZR F2 st b l) (n : Nat) (Y : Yenv) (hn : l.length + 1 < n) (hl : l.length <= 9223372036854775807) : R n Y 20 [a, b] st = .ret (.bool true) st := by
 obtain ⟨m, rfl⟩ : ∃ m, n = m + 1 := ⟨n - 1, by omega⟩
 have b00 : Nat.beq 0 0 = true := rfl
 have la := ha.len st
 have lb := hb.len st
 have en : binB false .neq (.int .i64 (.ofNat l.length)) (.int .i64 (.ofNat l.length)) = some (.bool false) := by
  show some (AV.bool (!(Int.ofNat l.length == Int.ofNat l.length))) = _
  simp
 obtain ⟨fA1, hA1⟩ : ∃ fA, fA = frOf 0 [a, b] Fr.nil := ⟨_, rfl⟩
 have gA1_0 : fA1.get 0 = some (a) := by rw [hA1]; simp only [frOf, Fr.get_set, reduceAdd, reduceEqDiff, ↓reduceIte]
 have gA1_1 : fA1.get 1 = some (b) := by rw [hA1]; simp only [frOf, Fr.get_set, reduceAdd, reduceEqDiff, ↓reduceIte]
 have dA1 : fA1.ds = [] := by rw [hA1]; rfl
 obtain ⟨fR2, hR2, kR2⟩ : ∃ fr', arun ((gT m).cg Y) [⟨(some 4), .mv (.c (.bool false)), none⟩] fA1 st = .ok fr' st /\ Kp [0, 1] fA1 fr' := ⟨_, by simp only [amE, reduceEqDiff, ↓reduceIte, reduceCtorEq, reduceAdd] <;> rfl, Kp.refl.s⟩
 have gR2_0 := kR2.g 0 gA1_0
 have gR2_1 := kR2.g 1 gA1_1
 have dR2 := kR2.1.trans dA1
 obtain ⟨fR3, hR3, kR3, oR3_10⟩ : ∃ fr', arun ((gT m).cg Y) g20_4 fR2 st = .ok fr' st /\ Kp [0, 1] fR2 fr' /\ fr'.get 10 = some (.bool false) := ⟨_, by simp only [amE, reduceEqDiff, ↓reduceIte, reduceCtorEq, reduceAdd, gR2_0, gR2_1, g20_4, la, lb, en] <;> rfl, Kp.refl.s.s.s.s.s, gh⟩
 have gR3_0 := kR3.g 0 gR2_0
 have gR3_1 := kR3.g 1 gR2_1
 have dR3 := kR3.1.trans dR2
 obtain ⟨fR4, hR4, kR4, oR4_12, oR4_13⟩ : ∃ fr', arun ((gT m).cg Y) [⟨(some 11), .mv (.t 0), none⟩, ⟨(some 12), .len 0 (.t 11), none⟩, ⟨(some 13), .mv (.c (.int .i64 (.ofNat 0))), none⟩] fR3 st = .ok fr' st /\ Kp [0, 1] fR3 fr' /\ fr'.get 12 = some (.int .i64 (.ofNat l.length)) /\ fr'.get 13 = some (.int .i64 (.ofNat 0)) := ⟨_, by simp only [amE, reduceEqDiff, ↓reduceIte, reduceCtorEq, reduceAdd, gR3_0, la] <;> rfl, Kp.refl.s.s.s, gn gh, gh⟩
 have gR4_0 := kR4.g 0 gR3_0
 have gR4_1 := kR4.g 1 gR3_1
 have dR4 := kR4.1.trans dR3
 have hB : ∀ k fr s, k < l.length -> Kp [0, 1, 12] fR4 fr -> fr.get 13 = some (.int .i64 (.ofNat k)) -> s = st ->
   (∃ FR s', acode (gT m) Y m bf20_0 none fr s = .norm FR s' /\ Kp [13, 0, 1, 12] fr FR /\ s' = st) \/ (∃ FR s', acode (gT m) Y m bf20_0 none fr s = .ret FR s' /\ False) := by
  intro k fr s hk hkp gi hst
  subst hst
  have q0 := hkp.at (k := 0) (by decide) gR4_0
  have q1 := hkp.at (k := 1) (by decide) gR4_1
  have q12 := hkp.at (k := 12) (by decide) oR4_12
  obtain ⟨x, hx, -⟩ := drop_at (l := l) (k := k) hk
  obtain ⟨p, ia, ld⟩ := ha.at hx
  obtain ⟨p', ia', ld'⟩ := hb.at hx
  have ex : binB false .neq (.int .i64 x) (.int .i64 x) = some (.bool false) := by
   show some (AV.bool (!(x == x))) = _
   simp
  obtain ⟨fR5, hR5, kR5, oR5_5⟩ : ∃ fr', arun ((gT m).cg Y) [⟨(some 15), .mv (.t 13), none⟩, ⟨(some 5), .mv (.t 15), none⟩] fr s = .ok fr' s /\ Kp [0, 1, 12, 13] fr fr' /\ fr'.get 5 = some (.int .i64 (.ofNat k)) := ⟨_, by simp only [amE, reduceEqDiff, ↓reduceIte, reduceCtorEq, reduceAdd, gi] <;> rfl, Kp.refl.s.s, gh⟩
  have gR5_0 := kR5.g 0 q0
  have gR5_1 := kR5.g 1 q1
  obtain ⟨fR6, hR6, kR6, oR6_24⟩ : ∃ fr', adraw ((gT m).cg Y) g20_1 [] fR5 s = .ok fr' s /\ Kp [0, 1, 12, 13] fR5 fr' /\ fr'.get 24 = some (.bool false) := by
   refine ⟨?r60, ?r61, ?r62, ?r6o24⟩
   case r61 =>
    refine adraw_ok (its := ?r6i) ?r6x ?r6y ?r6z
    case r6x =>
     simp only [amE, reduceEqDiff, ↓reduceIte, reduceCtorEq, reduceAdd, drun_cons, drun_nil, DR.cons, oprD, nextId, preA, gR5_0, gR5_1, oR5_5, g20_1, ia, ld, ia', ld', ex]
     rfl
    case r6y => rfl
    case r6z =>
     simp only [List.all_cons, List.all_nil, Bool.and_true, Bool.and_eq_true]
   case r62 => repeat (first | exact Kp.refl | refine Kp.set (by decide) ?_)
   case r6o24 => simp only [Fr.get_set, reduceEqDiff, ↓reduceIte]
  exact .inl ⟨fR6, s, by simp only [amE, reduceEqDiff, ↓reduceIte, reduceCtorEq, reduceAdd, bf20_0, hR5, hR6, oR6_24], (kR5.sub (by decide)).trans (kR6.sub (by decide)), rfl⟩
 rcases kloop (Γ := (gT m)) (Y := Y) (m := m) (N := l.length) (c := 14) (i := 13) (n := 12) (i2 := 25) (ro := none) (L := [0, 1, 12]) (fr0 := fR4) (by decide) (by decide) (by decide) (by decide) oR4_12 hl
  (Q := fun _ _ s => s = st) (Post := fun _ _ => False) (fun _ _ _ _ _ _ h => h) hB l.length 0 fR4 st m (by omega) (by omega) Kp.refl oR4_13 rfl
  with ⟨FR, s2, h1, h2, h3⟩ | ⟨FR, s2, h1, h2⟩
 rotate_left
 ·exact h2.elim
 have h3 := h3.symm
 subst h3
 have dF := h2.1.trans dR4
 obtain ⟨fR7, hR7, kR7, oR7_4⟩ : ∃ fr', arun ((gT m).cg Y) [⟨(some 4), .mv (.c (.bool true)), none⟩] FR st = .ok fr' st /\ Kp [] FR fr' /\ fr'.get 4 = some (.bool true) := ⟨_, by simp only [amE, reduceEqDiff, ↓reduceIte, reduceCtorEq, reduceAdd] <;> rfl, Kp.refl.s, gh⟩
 have dR7 := kR7.1.trans dF
 refine fun_of (mf := kf20) (fr := fR7) t20 rfl (.inl ?q) dR7 (by simp only [kf20, amE, oR7_4])
 case q =>
  rw [<- hA1]
  simp only [amE, reduceEqDiff, ↓reduceIte, reduceCtorEq, reduceAdd, kf20, b00, hR2, hR3, hR4, h1, hR7, oR3_10]
theorem equalf_run {F F2 : Nat -> Prop} {st : St} {a b : AV} {l : List (List Int)} (ha : LR F st a l) (hb : LR F2 st b l) (n : Nat) (Y : Yenv) (hn : l.length + 1 < n) (hw : ∀ x ∈ l, x.length + 2 < n) (hl : l.length <= 9223372036854775807) (hl2 : ∀ x ∈ l, x.length <= 9223372036854775807) : R n Y 19 [a, b, .func (.func 20) [] []] st = .ret (.bool true) st := by
 obtain ⟨m, rfl⟩ : ∃ m, n = m + 1 := ⟨n - 1, by omega⟩
 have b00 : Nat.beq 0 0 = true := rfl
 have la := ha.len st
 have lb := hb.len st
 have en : binB false .neq (.int .i64 (.ofNat l.length)) (.int .i64 (.ofNat l.length)) = some (.bool false) := by
  show some (AV.bool (!(Int.ofNat l.length == Int.ofNat l.length))) = _
  simp
 obtain ⟨fA8, hA8⟩ : ∃ fA, fA = frOf 0 [a, b, .func (.func 20) [] []] Fr.nil := ⟨_, rfl⟩
 have gA8_0 : fA8.get 0 = some (a) := by rw [hA8]; simp only [frOf, Fr.get_set, reduceAdd, reduceEqDiff, ↓reduceIte]
 have gA8_1 : fA8.get 1 = some (b) := by rw [hA8]; simp only [frOf, Fr.get_set, reduceAdd, reduceEqDiff, ↓reduceIte]
 have gA8_2 : fA8.get 2 = some (.func (.func 20) [] []) := by rw [hA8]; simp only [frOf, Fr.get_set, reduceAdd, reduceEqDiff, ↓reduceIte]
 have dA8 : fA8.ds = [] := by rw [hA8]; rfl
 obtain ⟨fR9, hR9, kR9⟩ : ∃ fr', arun ((gT m).cg Y) [⟨(some 6), .mv (.c (.bool false)), none⟩] fA8 st = .ok fr' st /\ Kp [0, 1, 2] fA8 fr' := ⟨_, by simp only [amE, reduceEqDiff, ↓reduceIte, reduceCtorEq, reduceAdd] <;> rfl, Kp.refl.s⟩
 have gR9_0 := kR9.g 0 gA8_0
 have gR9_1 := kR9.g 1 gA8_1
 have gR9_2 := kR9.g 2 gA8_2
 have dR9 := kR9.1.trans dA8
 obtain ⟨fR10, hR10, kR10, oR10_14⟩ : ∃ fr', arun ((gT m).cg Y) g19_5 fR9 st = .ok fr' st /\ Kp [0, 1, 2] fR9 fr' /\ fr'.get 14 = some (.bool false) := ⟨_, by simp only [amE, reduceEqDiff, ↓reduceIte, reduceCtorEq, reduceAdd, gR9_0, gR9_1, g19_5, la, lb, en] <;> rfl, Kp.refl.s.s.s.s.s, gh⟩
 have gR10_0 := kR10.g 0 gR9_0
 have gR10_1 := kR10.g 1 gR9_1
 have gR10_2 := kR10.g 2 gR9_2
 have dR10 := kR10.1.trans dR9
 obtain ⟨fR11, hR11, kR11, oR11_15, oR11_16, oR11_17⟩ : ∃ fr', arun ((gT m).cg Y) [⟨(some 15), .mv (.t 0), none⟩, ⟨(some 16), .len 0 (.t 15), none⟩, ⟨(some 17), .mv (.c (.int .i64 (.ofNat 0))), none⟩] fR10 st = .ok fr' st /\ Kp [0, 1, 2] fR10 fr' /\ fr'.get 15 = some (a) /\ fr'.get 16 = some (.int .i64 (.ofNat l.length)) /\ fr'.get 17 = some (.int .i64 (.ofNat 0)) := ⟨_, by simp only [amE, reduceEqDiff, ↓reduceIte, reduceCtorEq, reduceAdd, gR10_0, la] <;> rfl, Kp.refl.s.s.s, gn (gn gh), gn gh, gh⟩
 have gR11_1 := kR11.g 1 gR10_1
 have gR11_2 := kR11.g 2 gR10_2
 have dR11 := kR11.1.trans dR10
 have hB : ∀ k fr s, k < l.length -> Kp [1, 2, 15, 16] fR11 fr -> fr.get 17 = some (.int .i64 (.ofNat k)) -> s = st ->
   (∃ FR s', acode (gT m) Y m bf19_0 none fr s = .norm FR s' /\ Kp [17, 1, 2, 15, 16] fr FR /\ s' = st) \/ (∃ FR s', acode (gT m) Y m bf19_0 none fr s = .ret FR s' /\ False) := by
  intro k fr s hk hkp gi hst
  subst hst
  have q1 := hkp.at (k := 1) (by decide) gR11_1
  have q2 := hkp.at (k := 2) (by decide) gR11_2
  have q15 := hkp.at (k := 15) (by decide) oR11_15
  have q16 := hkp.at (k := 16) (by decide) oR11_16
  obtain ⟨x, hx, -⟩ := drop_at (l := l) (k := k) hk
  obtain ⟨p, u, ia, ld, hu⟩ := ha.at hx
  obtain ⟨p', u', ia', ld', hu'⟩ := hb.at hx
  have hm := List.mem_of_getElem? hx
  have hcall : ((gT m).cg Y).fn 20 [u, u'] s = .ret (.bool true) s := equal_run hu hu' m Y (by have := hw x hm; omega) (hl2 x hm)
  obtain ⟨fR12, hR12, kR12, oR12_7, oR12_8⟩ : ∃ fr', arun ((gT m).cg Y) g19_0 fr s = .ok fr' s /\ Kp [1, 2, 15, 16, 17] fr fr' /\ fr'.get 7 = some (.int .i64 (.ofNat k)) /\ fr'.get 8 = some (u) := ⟨_, by simp only [amE, reduceEqDiff, ↓reduceIte, reduceCtorEq, reduceAdd, q15, gi, g19_0, ia, ld] <;> rfl, Kp.refl.s.s.s.s.s, gn gh, gh⟩
  have gR12_1 := kR12.g 1 q1
  have gR12_2 := kR12.g 2 q2
  obtain ⟨fR13, hR13, kR13, oR13_9⟩ : ∃ fr', arun ((gT m).cg Y) g19_1 fR12 s = .ok fr' s /\ Kp [1, 2, 8, 15, 16, 17] fR12 fr' /\ fr'.get 9 = some (u') := ⟨_, by simp only [amE, reduceEqDiff, ↓reduceIte, reduceCtorEq, reduceAdd, gR12_1, oR12_7, g19_1, ia', ld'] <;> rfl, Kp.refl.s.s.s.s.s, gh⟩
  have gR13_2 := kR13.g 2 gR12_2
  have gR13_8 := kR13.g 8 oR12_8
  obtain ⟨fR14, hR14, kR14, oR14_30⟩ : ∃ fr', arun ((gT m).cg Y) g19_2 fR13 s = .ok fr' s /\ Kp [1, 2, 15, 16, 17] fR13 fr' /\ fr'.get 30 = some (.bool false) := ⟨_, by simp only [amE, reduceEqDiff, ↓reduceIte, reduceCtorEq, reduceAdd, gR13_2, gR13_8, oR13_9, g19_2, hcall, unN, Bool.not_true, Bool.not_false] <;> rfl, Kp.refl.s.s.s.s.s, gh⟩
  exact .inl ⟨fR14, s, by simp only [amE, reduceEqDiff, ↓reduceIte, reduceCtorEq, reduceAdd, bf19_0, hR12, hR13, hR14, oR14_30], (kR12.sub (by decide)).trans ((kR13.sub (by decide)).trans (kR14.sub (by decide))), rfl⟩
 rcases kloop (Γ := (gT m)) (Y := Y) (m := m) (N := l.length) (c := 18) (i := 17) (n := 16) (i2 := 31) (ro := none) (L := [1, 2, 15, 16]) (fr0 := fR11) (by decide) (by decide) (by decide) (by decide) oR11_16 hl
  (Q := fun _ _ s => s = st) (Post := fun _ _ => False) (fun _ _ _ _ _ _ h => h) hB l.length 0 fR11 st m (by omega) (by omega) Kp.refl oR11_17 rfl
  with ⟨FR, s2, h1, h2, h3⟩ | ⟨FR, s2, h1, h2⟩
 rotate_left
 ·exact h2.elim
 have h3 := h3.symm
 subst h3
 have dF := h2.1.trans dR11
 obtain ⟨fR15, hR15, kR15, oR15_6⟩ : ∃ fr', arun ((gT m).cg Y) [⟨(some 6), .mv (.c (.bool true)), none⟩] FR st = .ok fr' st /\ Kp [] FR fr' /\ fr'.get 6 = some (.bool true) := ⟨_, by simp only [amE, reduceEqDiff, ↓reduceIte, reduceCtorEq, reduceAdd] <;> rfl, Kp.refl.s, gh⟩
 have dR15 := kR15.1.trans dF
 refine fun_of (mf := kf19) (fr := fR15) t19 rfl (.inl ?q) dR15 (by simp only [kf19, amE, oR15_6])
 case q =>
  rw [<- hA8]
  simp only [amE, reduceEqDiff, ↓reduceIte, reduceCtorEq, reduceAdd, kf19, b00, hR9, hR10, hR11, h1, hR15, oR10_14]
end
end Go.AM.D16
