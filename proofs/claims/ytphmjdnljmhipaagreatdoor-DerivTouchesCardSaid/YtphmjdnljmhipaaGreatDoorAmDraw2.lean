import Derived.Test.YtphmjdnljmhipaaGreatDoorAmDraw
namespace Go.AM
def ancAt (zs : List (MOper × Nat)) (i : Nat) : Nat := match zs[i]? with | some z => z.2 | none => 0
def effAt (zs : List (MOper × Nat)) (i : Nat) : Bool := match zs[i]? with | some z => z.1.op.effect | none => false
def rdAt (zs : List (MOper × Nat)) (i : Nat) : Bool := match zs[i]? with | some z => z.1.op.reads | none => false
structure DrawOk (ops : Array Oper) (zs : List (MOper × Nat)) : Prop where
  len : zs.length = ops.size
  back : Back .any ops
  bits : AncOk ops (ancAt zs)
  dst : ∀ (i j : Nat) (z z' : MOper × Nat) (d : Nat), zs[i]? = some z → zs[j]? = some z' → z.1.dst = some d → z'.1.dst = some d → i = j
  use : ∀ (i j : Nat) (z z' : MOper × Nat) (d : Nat), zs[i]? = some z → zs[j]? = some z' → z'.1.dst = some d → d ∈ z.1.uses → i = j ∨ z.2.testBit j = true ∨ z'.2.testBit i = true
  effs : ∀ (i j : Nat) (z z' : MOper × Nat), i < j → zs[i]? = some z → zs[j]? = some z' → z.1.op.effect = true → z'.1.op.effect = true → z'.2.testBit i = true
def edgeB (zs : List (MOper × Nat)) (i : Nat) (o : Oper) (z : MOper × Nat) : Bool :=
  (o.after.toList.all fun e => !Region.binds .any e || (e.on + 1).ble i) && z.2.beq (ancFold (ancAt zs) o.after.toList 0)
def pairB (i j : Nat) (z z' : MOper × Nat) : Bool :=
  (match z'.1.dst with
    | some d' => i.beq j || ((match z.1.dst with | some d => !(Nat.beq d d') | none => true) && (z.2.testBit j || z'.2.testBit i || z.1.uses.all fun t => !(Nat.beq t d')))
    | none => true) &&
  (!((i + 1).ble j) || !z.1.op.effect || !z'.1.op.effect || z'.2.testBit i)
def drawB (ops : Array Oper) (zs : List (MOper × Nat)) : Bool :=
  zs.length.beq ops.size && (List.range ops.size).all fun i => match ops[i]?, zs[i]? with
    | some o, some z => edgeB zs i o z && (List.range ops.size).all fun j => match zs[j]? with
        | some z' => pairB i j z z'
        | none => false
    | _, _ => false
theorem drawOk_of {ops : Array Oper} {zs : List (MOper × Nat)} (h : drawB ops zs = true) : DrawOk ops zs := by
  unfold drawB at h
  simp only [Bool.and_eq_true] at h
  obtain ⟨hlen, h⟩ := h
  have hlen := Nat.eq_of_beq_eq_true hlen
  have key : ∀ (i : Nat) (o : Oper) (z : MOper × Nat), ops[i]? = some o → zs[i]? = some z → edgeB zs i o z = true ∧ ∀ (j : Nat) (z' : MOper × Nat), zs[j]? = some z' → pairB i j z z' = true := fun i o z ho hz => by
    have hi : i < ops.size := (Array.getElem?_eq_some_iff.1 ho).1
    have := List.all_eq_true.1 h i (List.mem_range.2 hi)
    simp only [ho, hz, Bool.and_eq_true] at this
    refine ⟨this.1, fun j z' hz' => ?_⟩
    have hj : j < ops.size := by rw [← hlen]; exact (List.getElem?_eq_some_iff.1 hz').1
    have := List.all_eq_true.1 this.2 j (List.mem_range.2 hj)
    simpa only [hz'] using this
  have zof : ∀ (i : Nat) (o : Oper), ops[i]? = some o → ∃ z, zs[i]? = some z := fun i o ho => by
    have hi : i < ops.size := (Array.getElem?_eq_some_iff.1 ho).1
    exact ⟨zs[i]'(by omega), List.getElem?_eq_getElem (by omega)⟩
  have oof : ∀ (i : Nat) (z : MOper × Nat), zs[i]? = some z → ∃ o, ops[i]? = some o := fun i z hz => by
    have hi : i < zs.length := (List.getElem?_eq_some_iff.1 hz).1
    exact ⟨ops[i]'(by omega), Array.getElem?_eq_getElem (by omega)⟩
  have pr : ∀ (i j : Nat) (z z' : MOper × Nat), zs[i]? = some z → zs[j]? = some z' → pairB i j z z' = true := fun i j z z' hz hz' => by
    obtain ⟨o, ho⟩ := oof i z hz
    exact (key i o z ho hz).2 j z' hz'
  refine ⟨hlen, fun i o ho e he hb => ?_, fun i o ho => ?_, fun i j z z' d hi hj h1 h2 => ?_, fun i j z z' d hi hj h1 h2 => ?_, fun i j z z' hij hi hj h1 h2 => ?_⟩
  · obtain ⟨z, hz⟩ := zof i o ho
    have hk := (key i o z ho hz).1
    unfold edgeB at hk
    simp only [Bool.and_eq_true] at hk
    have := List.all_eq_true.1 hk.1 e (by simpa using he)
    simp only [hb, Bool.not_true, Bool.false_or] at this
    have := Nat.le_of_ble_eq_true this
    omega
  · obtain ⟨z, hz⟩ := zof i o ho
    have hk := (key i o z ho hz).1
    unfold edgeB at hk
    simp only [Bool.and_eq_true] at hk
    have := Nat.eq_of_beq_eq_true hk.2
    simp only [ancAt, hz] at this ⊢
    exact this
  · have := pr i j z z' hi hj
    unfold pairB at this
    simp only [h2, h1, Bool.or_eq_true, Bool.and_eq_true, Bool.not_eq_true'] at this
    rcases this.1 with this | ⟨this, _⟩
    · exact Nat.eq_of_beq_eq_true this
    · simp at this
  · have := pr i j z z' hi hj
    unfold pairB at this
    simp only [h1, Bool.or_eq_true, Bool.and_eq_true] at this
    rcases this.1 with this | ⟨_, (this | this) | this⟩
    · exact .inl (Nat.eq_of_beq_eq_true this)
    · exact .inr (.inl this)
    · exact .inr (.inr this)
    · have := List.all_eq_true.1 this d h2
      simp at this
  · have := pr i j z z' hi hj
    unfold pairB at this
    simp only [Bool.and_eq_true] at this
    have this := this.2
    have hle : (i + 1).ble j = true := Nat.ble_eq_true_of_le (by omega)
    simp only [hle, h1, h2, Bool.not_true, Bool.false_or] at this
    exact this
theorem anc_lt {ops : Array Oper} {anc : Nat → Nat} (hb : Back .any ops) (ha : AncOk ops anc) : ∀ (i j : Nat) (o : Oper), ops[i]? = some o → (anc i).testBit j = true → j < i := by
  intro i
  induction i using Nat.strongRecOn with
  | _ i ih =>
    intro j o ho hj
    rw [ha i o ho] at hj
    rcases ancFold_bit anc j _ _ hj with h | ⟨e, he, hbd, h⟩
    · simp at h
    · have he' : e ∈ o.after := by simpa using he
      have hlt := hb i o ho e he' hbd
      have hi : i < ops.size := (Array.getElem?_eq_some_iff.1 ho).1
      rcases h with rfl | h
      · exact hlt
      · have := ih e.on hlt j ops[e.on] (Array.getElem?_eq_getElem (by omega)) h; omega
theorem frL_get {t : Nat} : ∀ (zs : List (MOper × Nat)) (its : List DIt) (L L' : Nat → Bool) (i : Nat) (fr fr' : Fr), fr.get t = fr'.get t →
    (∀ (k : Nat) (z : MOper × Nat), zs[k]? = some z → z.1.dst = some t → (∃ a b c d, its[k]? = some (.val a b c d)) → L (i + k) = L' (i + k)) → (frL zs its L i fr).get t = (frL zs its L' i fr').get t
  | [], _, _, _, _, _, _, h0, _ => by unfold frL; exact h0
  | z :: zs, [], _, _, _, _, _, h0, _ => by unfold frL; exact h0
  | z :: zs, it :: its, L, L', i, fr, fr', h0, h => by
    have hr : ∀ (k : Nat) (z' : MOper × Nat), zs[k]? = some z' → z'.1.dst = some t → (∃ a b c d, its[k]? = some (.val a b c d)) → L (i + 1 + k) = L' (i + 1 + k) := fun k z' h1 h2 h3 => by
      rw [show i + 1 + k = i + (k + 1) by omega]; exact h (k + 1) z' (by simpa using h1) h2 (by simpa using h3)
    cases it <;> simp only [frL]
    · exact frL_get zs its L L' _ _ _ h0 hr
    · rename_i a b c d
      refine frL_get zs its L L' _ _ _ ?_ hr
      cases hd : z.1.dst with
      | none => cases L i <;> cases L' i <;> simp only [cond_true, cond_false, Fr.put] <;> exact h0
      | some d' =>
        by_cases hdt : d' = t
        · subst hdt
          have := h 0 z rfl hd ⟨_, _, _, _, rfl⟩
          simp only [Nat.add_zero] at this
          rw [this]
          cases L' i
          · exact h0
          · simp only [cond_true, Fr.put, Fr.get_set, if_true]
        · have hne : ¬ t = d' := fun e => hdt e.symm
          cases L i <;> cases L' i <;> simp only [cond_true, cond_false, Fr.put, Fr.get_set, if_neg hne] <;> exact h0
    · exact frL_get zs its L L' _ _ _ h0 hr
theorem frL_off {t : Nat} : ∀ (zs : List (MOper × Nat)) (its : List DIt) (L : Nat → Bool) (i : Nat) (fr : Fr), (∀ (k : Nat) (z : MOper × Nat), zs[k]? = some z → z.1.dst ≠ some t) → (frL zs its L i fr).get t = fr.get t
  | [], _, _, _, _, _ => by unfold frL; rfl
  | z :: zs, [], _, _, _, _ => by unfold frL; rfl
  | z :: zs, it :: its, L, i, fr, h => by
    have hr : ∀ (k : Nat) (z' : MOper × Nat), zs[k]? = some z' → z'.1.dst ≠ some t := fun k z' h1 => h (k + 1) z' (by simpa using h1)
    cases it <;> simp only [frL] <;> rw [frL_off zs its L _ _ hr]
    have := h 0 z rfl
    cases L i
    · rfl
    · cases hd : z.1.dst with
      | none => rfl
      | some d =>
        rw [hd] at this
        simp only [cond_true, Fr.put, Fr.get_set]
        rw [if_neg (by rintro rfl; exact this rfl)]
theorem frL_at {t : Nat} : ∀ (zs : List (MOper × Nat)) (its : List DIt) (L : Nat → Bool) (i : Nat) (fr : Fr) (k : Nat) (z : MOper × Nat) (a : Fr) (b : St) (v : AV) (d : St), zs[k]? = some z → its[k]? = some (.val a b v d) → z.1.dst = some t → L (i + k) = true →
    (∀ (k' : Nat) (z' : MOper × Nat), zs[k']? = some z' → z'.1.dst = some t → k' = k) → (frL zs its L i fr).get t = some v
  | [], _, _, _, _, _, _, _, _, _, _, hz, _, _, _, _ => by simp at hz
  | z :: zs, [], _, _, _, _, _, _, _, _, _, _, hit, _, _, _ => by simp at hit
  | z :: zs, it :: its, L, i, fr, k, zk, a, b, v, d, hz, hit, hd, hL, hu => by
    cases k with
    | zero =>
      simp only [List.getElem?_cons_zero, Option.some.injEq] at hz hit
      subst hz; subst hit
      simp only [Nat.add_zero] at hL
      simp only [frL, hL, cond_true]
      rw [frL_off zs its L _ _ fun k' z' h1 h2 => by have := hu (k' + 1) z' (by simpa using h1) h2; omega]
      simp [Fr.put, hd, Fr.get_set]
    | succ k =>
      simp only [List.getElem?_cons_succ] at hz hit
      have := fun fr => frL_at (t := t) zs its L (i + 1) fr k zk a b v d hz hit hd (by rw [show i + 1 + k = i + (k + 1) by omega]; exact hL) fun k' z' h1 h2 => by
        have := hu (k' + 1) z' (by simpa using h1) h2; omega
      cases it <;> simp only [frL] <;> exact this _
theorem stL_off : ∀ (zs : List (MOper × Nat)) (its : List DIt) (L : Nat → Bool) (i : Nat) (st : St), (∀ (k : Nat) (z : MOper × Nat), zs[k]? = some z → z.1.op.effect = true → L (i + k) = false) → stL zs its L i st = st
  | [], _, _, _, _, _ => by unfold stL; rfl
  | z :: zs, [], _, _, _, _ => by unfold stL; rfl
  | z :: zs, it :: its, L, i, st, h => by
    have hr : ∀ (k : Nat) (z' : MOper × Nat), zs[k]? = some z' → z'.1.op.effect = true → L (i + 1 + k) = false := fun k z' h1 h2 => by
      rw [show i + 1 + k = i + (k + 1) by omega]; exact h (k + 1) z' (by simpa using h1) h2
    cases it <;> simp only [stL]
    · exact stL_off zs its L _ _ hr
    · cases he : z.1.op.effect
      · simp only [Bool.and_false, cond_false]; exact stL_off zs its L _ _ hr
      · have := h 0 z rfl he
        simp only [Nat.add_zero] at this
        simp only [this, Bool.false_and, cond_false]; exact stL_off zs its L _ _ hr
    · exact stL_off zs its L _ _ hr
theorem stL_at : ∀ (zs : List (MOper × Nat)) (its : List DIt) (L : Nat → Bool) (i : Nat) (st : St) (k : Nat) (z : MOper × Nat) (a : Fr) (b : St) (v : AV) (s : St), zs[k]? = some z → its[k]? = some (.val a b v s) → z.1.op.effect = true → L (i + k) = true →
    (∀ (k' : Nat) (z' : MOper × Nat), k < k' → zs[k']? = some z' → z'.1.op.effect = true → L (i + k') = false) → stL zs its L i st = s
  | [], _, _, _, _, _, _, _, _, _, _, hz, _, _, _, _ => by simp at hz
  | z :: zs, [], _, _, _, _, _, _, _, _, _, _, hit, _, _, _ => by simp at hit
  | z :: zs, it :: its, L, i, st, k, zk, a, b, v, s, hz, hit, hd, hL, hu => by
    cases k with
    | zero =>
      simp only [List.getElem?_cons_zero, Option.some.injEq] at hz hit
      subst hz; subst hit
      simp only [Nat.add_zero] at hL
      simp only [stL, hL, hd, Bool.and_self, cond_true]
      exact stL_off zs its L _ _ fun k' z' h1 h2 => by
        rw [show i + 1 + k' = i + (k' + 1) by omega]; exact hu (k' + 1) z' (by omega) (by simpa using h1) h2
    | succ k =>
      simp only [List.getElem?_cons_succ] at hz hit
      have := fun st => stL_at zs its L (i + 1) st k zk a b v s hz hit hd (by rw [show i + 1 + k = i + (k + 1) by omega]; exact hL) fun k' z' h0 h1 h2 => by
        rw [show i + 1 + k' = i + (k' + 1) by omega]; exact hu (k' + 1) z' (by omega) (by simpa using h1) h2
      cases it <;> simp only [stL] <;> exact this _
theorem preA_next : ∀ (zs : List (MOper × Nat)) (st : St), st.next ≤ (preA zs st).next
  | [], _ => Nat.le_refl _
  | z :: zs, st => by
    unfold preA
    split
    · rename_i cs _; have := preA_next zs (st.new (.row cs)); exact Nat.le_trans (by simp) this
    · exact preA_next zs st
theorem idAt_le : ∀ (zs : List (MOper × Nat)) (j id : Nat), id ≤ idAt zs j id
  | [], _, _ => by simp [idAt]
  | z :: zs, 0, id => by simp [idAt]
  | z :: zs, j + 1, id => by
    have := idAt_le zs j (nextId id z.1.op)
    have h2 : id ≤ nextId id z.1.op := by unfold nextId; split <;> omega
    simp only [idAt]; omega
theorem idAt_lt : ∀ (zs : List (MOper × Nat)) (i j id : Nat) (z : MOper × Nat) (cs : List AV), i < j → zs[i]? = some z → z.1.op = .alloc cs → idAt zs i id < idAt zs j id
  | [], _, _, _, _, _, _, hz, _ => by simp at hz
  | z :: zs, 0, 0, _, _, _, hij, _, _ => by omega
  | z :: zs, i + 1, 0, _, _, _, hij, _, _ => by omega
  | z :: zs, 0, j + 1, id, z', cs, hij, hz, ho => by
    simp only [List.getElem?_cons_zero, Option.some.injEq] at hz; subst hz
    have := idAt_le zs j (nextId id z.1.op)
    simp only [idAt]
    have h2 : nextId id z.1.op = id + 1 := by rw [ho]; rfl
    omega
  | z :: zs, i + 1, j + 1, id, z', cs, hij, hz, ho => by
    simp only [List.getElem?_cons_succ] at hz
    simp only [idAt]
    exact idAt_lt zs i j _ z' cs (by omega) hz ho
theorem idAt_next : ∀ (zs : List (MOper × Nat)) (i : Nat) (st : St) (z : MOper × Nat) (cs : List AV), zs[i]? = some z → z.1.op = .alloc cs → idAt zs i st.next < (preA zs st).next
  | [], _, _, _, _, hz, _ => by simp at hz
  | z :: zs, 0, st, z', cs, hz, ho => by
    simp only [List.getElem?_cons_zero, Option.some.injEq] at hz; subst hz
    unfold preA
    simp only [ho, idAt]
    have := preA_next zs (st.new (.row cs))
    simp at this; omega
  | z :: zs, i + 1, st, z', cs, hz, ho => by
    simp only [List.getElem?_cons_succ] at hz
    unfold preA
    simp only [idAt]
    split
    · rename_i cs' hc
      have := idAt_next zs i (st.new (.row cs')) z' cs hz ho
      simp only [hc, nextId]; simpa using this
    · rename_i hc
      have h2 : nextId st.next z.1.op = st.next := by
        unfold nextId; split
        · rename_i cs' h3; exact absurd h3 (hc cs')
        · rfl
      rw [h2]; exact idAt_next zs i st z' cs hz ho
theorem preA_sat {E : Env} {w : World} : ∀ (zs : List (MOper × Nat)) (st : St), Sat E st w → Sat E (preA zs st) w
  | [], _, h => h
  | z :: zs, st, h => by
    unfold preA
    split
    · exact preA_sat zs _ (h.ahead _)
    · exact preA_sat zs st h
def anchB (n : Nat) (zs : List (MOper × Nat)) (i : Nat) : Bool := (List.range n).all fun j => i.beq j || !effAt zs j || (ancAt zs i).testBit j || (ancAt zs j).testBit i
def noDesc (m : Nat) (zs : List (MOper × Nat)) (i : Nat) : Bool := (List.range m).all fun j => !(effAt zs j && (ancAt zs j).testBit i)
def chkOf (n : Nat) (zs : List (MOper × Nat)) : List (Nat × Option Nat) := (List.range n).flatMap fun i => bif rdAt zs i && !anchB n zs i then
    (List.range n).filterMap (fun k => bif effAt zs k && !(ancAt zs i).testBit k && noDesc k zs i then some (i, some k) else none) ++ (bif noDesc n zs i then [(i, none)] else []) else []
theorem frz_still {Γ : Cg} {id : Nat} {fr : Fr} {st st1 st' : St} {m : MOp} {v : AV} (hf : frzLoad m fr = true) (h : oprD Γ id fr st m = .val v st1) : oprD Γ id fr st' m = .val v st' := by
  unfold frzLoad at hf
  split at hf
  · rename_i agg n x
    unfold frzX at hf
    split at hf
    · rename_i cs off he
      simp only [oprD, opr, aop, he] at h ⊢
      exact of_pure (st := st) h
    · cases hf
  · cases hf
def lst (listed : Array Bool) (j : Nat) : Bool := listed.getD j false
section
variable {P : Program} {Γ : Cg} {ops : Array Oper} {zs : List (MOper × Nat)} {its : List DIt} {E0 : Env} {w0 : World} {N : Nat} {D : List Deferred} {B : Nat} {fr0 frE : Fr} {st0 stE : St}
structure Inv (ops : Array Oper) (zs : List (MOper × Nat)) (its : List DIt) (E0 : Env) (w0 : World) (N : Nat) (D : List Deferred) (fr0 : Fr) (st0 : St) (listed : Array Bool) (E : Env) (a : Act) (w : World) : Prop where
  ext : Ext E0 w0 E w
  sat : Sat E (stL zs its (lst listed) 0 (preA zs st0)) w
  rvf : RvF E w (frL zs its (lst listed) 0 fr0) a
  sz : a.tmps.size = N
  df : a.defers = D
  rs : ∀ (j : Nat) (z : MOper × Nat) (cs : List AV), zs[j]? = some z → z.1.op = .alloc cs → lst listed j = false → E.Rs (idAt zs j st0.next)
  cl : Closed ops listed
  ls : listed.size = ops.size
  pn : ∀ (j : Nat) (a : Fr) (b : St) (c : AV) (d : St), its[j]? = some (.pan a b c d) → lst listed j = false
variable {listed : Array Bool} {E : Env} {a : Act} {w : World}
theorem Inv.up (hI : Inv ops zs its E0 w0 N D fr0 st0 listed E a w) (hd : DrawOk ops zs) {i j : Nat} {z : MOper × Nat} (hz : zs[i]? = some z) (hr : i ∈ Region.ready .any ops listed) (hj : z.2.testBit j = true) : lst listed j = true := by
  obtain ⟨_, o, ho, he⟩ := mem_ready.1 hr
  have : ancAt zs i = z.2 := by simp [ancAt, hz]
  exact anc_of_ready hd.back hd.bits hI.cl ho he (by rw [this]; exact hj)
theorem Inv.down (hI : Inv ops zs its E0 w0 N D fr0 st0 listed E a w) (hd : DrawOk ops zs) {i j : Nat} {z : MOper × Nat} (hz : zs[j]? = some z) (hr : lst listed i = false) (hj : z.2.testBit i = true) : lst listed j = false := by
  cases hl : lst listed j with
  | false => rfl
  | true =>
    have hj' : j < ops.size := by rw [← hd.len]; exact (List.getElem?_eq_some_iff.1 hz).1
    have : ancAt zs j = z.2 := by simp [ancAt, hz]
    have := anc_listed hd.back hd.bits hI.cl j i ops[j] (Array.getElem?_eq_getElem hj') hl (by rw [this]; exact hj)
    unfold lst at hr; rw [this] at hr; cases hr
theorem Inv.not (hI : Inv ops zs its E0 w0 N D fr0 st0 listed E a w) {i : Nat} (hr : i ∈ Region.ready .any ops listed) : lst listed i = false := by
  obtain ⟨h0, o, ho, _⟩ := mem_ready.1 hr
  have hi : i < listed.size := by rw [hI.ls]; exact (Array.getElem?_eq_some_iff.1 ho).1
  unfold lst
  rw [Array.getD_eq_getD_getElem?, Array.getElem?_eq_getElem hi] at h0 ⊢
  simpa using h0
theorem ltAnc (hd : DrawOk ops zs) {i j : Nat} {z : MOper × Nat} (hz : zs[i]? = some z) (hj : z.2.testBit j = true) : j < i := by
  have hi : i < ops.size := by rw [← hd.len]; exact (List.getElem?_eq_some_iff.1 hz).1
  have : ancAt zs i = z.2 := by simp [ancAt, hz]
  exact anc_lt hd.back hd.bits i j _ (Array.getElem?_eq_getElem hi) (by rw [this]; exact hj)
theorem Inv.slots (hI : Inv ops zs its E0 w0 N D fr0 st0 listed E a w) (hd : DrawOk ops zs) {i : Nat} {z : MOper × Nat} (hz : zs[i]? = some z) (hr : i ∈ Region.ready .any ops listed) :
    ∀ t ∈ z.1.uses, (frL zs its (lst listed) 0 fr0).get t = (frL zs its (fun k => decide (k < 0 + i)) 0 fr0).get t := by
  intro t ht
  refine frL_get zs its _ _ 0 _ _ rfl fun k z' hz' hdst _ => ?_
  simp only [Nat.zero_add]
  rcases hd.use i k z z' t hz hz' hdst ht with rfl | h | h
  · rw [hI.not hr]; simp
  · rw [hI.up hd hz hr h]; have := ltAnc hd hz h; simp [this]
  · rw [hI.down hd hz' (hI.not hr) h]; have := ltAnc hd hz' h; simp; omega
theorem Inv.heap (hI : Inv ops zs its E0 w0 N D fr0 st0 listed E a w) (hd : DrawOk ops zs) {i : Nat} {z : MOper × Nat} (hz : zs[i]? = some z) (hr : i ∈ Region.ready .any ops listed)
    (ha : ∀ (j : Nat) (z' : MOper × Nat), zs[j]? = some z' → z'.1.op.effect = true → i = j ∨ z.2.testBit j = true ∨ z'.2.testBit i = true) :
    stL zs its (lst listed) 0 (preA zs st0) = stL zs its (fun k => decide (k < 0 + i)) 0 (preA zs st0) := by
  refine stL_congr zs its _ _ 0 _ fun k z' hz' he _ => ?_
  simp only [Nat.zero_add]
  rcases ha k z' hz' he with rfl | h | h
  · rw [hI.not hr]; simp
  · rw [hI.up hd hz hr h]; have := ltAnc hd hz h; simp [this]
  · rw [hI.down hd hz' (hI.not hr) h]; have := ltAnc hd hz' h; simp; omega
theorem X.ev_eq {fr fr' : Fr} {x : X} (h : ∀ t, x.tm = some t → fr.get t = fr'.get t) : ev fr x = ev fr' x := by
  cases x with
  | t n => simp only [ev, h n rfl]
  | c v => rfl
theorem uses_xs {m : MOper} {fr fr' : Fr} (h : ∀ t ∈ m.uses, fr.get t = fr'.get t) : ∀ x ∈ m.op.xs, ev fr x = ev fr' x := fun x hx =>
  X.ev_eq fun t ht => h t (by unfold MOper.uses; exact List.mem_append_right _ (List.mem_filterMap.2 ⟨x, hx, ht⟩))
theorem uses_guard {m : MOper} {fr fr' : Fr} (h : ∀ t ∈ m.uses, fr.get t = fr'.get t) : wantedA fr m.guard = wantedA fr' m.guard := by
  unfold wantedA
  cases hg : m.guard with
  | none => rfl
  | some q =>
    obtain ⟨t, b⟩ := q
    have := h t (by unfold MOper.uses; simp [hg])
    simp only [this]
structure Run (Γ : Cg) (n : Nat) (zs : List (MOper × Nat)) (its : List DIt) (fr0 frE : Fr) (st0 stE : St) : Prop where
  run : drun Γ zs 0 st0.next fr0 (preA zs st0) none = some (its, frE, stE)
  chk : ∀ q ∈ chkOf n zs, chkB Γ zs its st0.next stE q = true
theorem Run.len (hR : Run Γ ops.size zs its fr0 frE st0 stE) : its.length = zs.length := (drun_spec _ _ _ _ _ _ _ _ _ hR.run).1
theorem Run.it (hR : Run Γ ops.size zs its fr0 frE st0 stE) {j : Nat} {z : MOper × Nat} {it : DIt} (hz : zs[j]? = some z) (hi : its[j]? = some it) : ItOk Γ zs its 0 st0.next fr0 (preA zs st0) none j z it :=
  (drun_spec _ _ _ _ _ _ _ _ _ hR.run).2.2.2 j z it hz hi
theorem Run.get (hR : Run Γ ops.size zs its fr0 frE st0 stE) {j : Nat} {z : MOper × Nat} (hz : zs[j]? = some z) : ∃ it, its[j]? = some it := by
  have := (List.getElem?_eq_some_iff.1 hz).1
  exact ⟨its[j]'(by rw [hR.len]; exact this), List.getElem?_eq_getElem _⟩
theorem Run.pan_eff (hR : Run Γ ops.size zs its fr0 frE st0 stE) {j : Nat} {z : MOper × Nat} {f : Fr} {b : St} {v : AV} {d : St} (hz : zs[j]? = some z) (hi : its[j]? = some (.pan f b v d)) : z.1.op.effect = true := by
  obtain ⟨_, _, _, h⟩ := hR.it hz hi
  cases he : z.1.op.effect with
  | true => rfl
  | false =>
    rcases oprD_still (Γ := Γ) (id := idAt zs j st0.next) (fr := f) (st := b) he with h' | ⟨u, h'⟩ <;> rw [h'] at h <;> cases h
theorem Inv.alive (hI : Inv ops zs its E0 w0 N D fr0 st0 listed E a w) (hd : DrawOk ops zs) (hR : Run Γ ops.size zs its fr0 frE st0 stE) {i : Nat} {z : MOper × Nat} (hz : zs[i]? = some z) (hr : i ∈ Region.ready .any ops listed) : its[i]? ≠ some .dead := by
  intro h
  rcases hR.it hz h with ⟨p, h1, _⟩ | ⟨j', f, b, c, d, h1, h2⟩
  · cases h1
  · rw [Nat.zero_add] at h2
    have := hI.up hd hz hr h2
    rw [hI.pn _ _ _ _ _ h1] at this; cases this
theorem anch_of {i : Nat} {z : MOper × Nat} (hd : DrawOk ops zs) (hz : zs[i]? = some z) (h : anchB ops.size zs i = true) : ∀ (j : Nat) (z' : MOper × Nat), zs[j]? = some z' → z'.1.op.effect = true → i = j ∨ z.2.testBit j = true ∨ z'.2.testBit i = true := by
  intro j z' hz' he
  have hj : j < ops.size := by rw [← hd.len]; exact (List.getElem?_eq_some_iff.1 hz').1
  have := List.all_eq_true.1 h j (List.mem_range.2 hj)
  simp only [effAt, ancAt, hz, hz', he, Bool.not_true, Bool.or_false, Bool.or_eq_true] at this
  rcases this with (h | h) | h
  · exact .inl (Nat.eq_of_beq_eq_true h)
  · exact .inr (.inl h)
  · exact .inr (.inr h)
theorem noDesc_of {m i : Nat} (h : ∀ (j : Nat) (z' : MOper × Nat), j < m → zs[j]? = some z' → z'.1.op.effect = true → z'.2.testBit i = false) : noDesc m zs i = true := by
  unfold noDesc
  refine List.all_eq_true.2 fun j hj => ?_
  have hj := List.mem_range.1 hj
  cases hz : zs[j]? with
  | none => simp [effAt, hz]
  | some z' =>
    simp only [effAt, ancAt, hz, Bool.not_eq_true']
    cases he : z'.1.op.effect
    · rfl
    · rw [h j z' hj hz he]; rfl
theorem sameAt_of {id : Nat} {fr : Fr} {st : St} {m : MOp} {v : AV} (he : m.effect = false) (h : sameAt Γ id fr st m v = true) : oprD Γ id fr st m = .val v st := by
  unfold sameAt at h
  rcases oprD_still (Γ := Γ) (id := id) (fr := fr) (st := st) he with h' | ⟨u, h'⟩
  · rw [h'] at h; cases h
  · rw [h'] at h ⊢
    rw [avBeq_eq _ _ h]
theorem same_of {id : Nat} {fr : Fr} {st st1 st2 : St} {m : MOp} {v : AV} (ho : oprD Γ id fr st1 m = .val v st2) (he : m.effect = false) (h : (frzLoad m fr || sameAt Γ id fr st m v) = true) : oprD Γ id fr st m = .val v st := by
  cases hf : frzLoad m fr with
  | true => exact frz_still hf ho
  | false => rw [hf, Bool.false_or] at h; exact sameAt_of he h
theorem eff_anch (hd : DrawOk ops zs) {i : Nat} {z : MOper × Nat} (hz : zs[i]? = some z) (he : z.1.op.effect = true) : ∀ (j : Nat) (z' : MOper × Nat), zs[j]? = some z' → z'.1.op.effect = true → i = j ∨ z.2.testBit j = true ∨ z'.2.testBit i = true := by
  intro j z' hz' he'
  rcases Nat.lt_trichotomy i j with h | h | h
  · exact .inr (.inr (hd.effs i j z z' h hz hz' he he'))
  · exact .inl h
  · exact .inr (.inl (hd.effs j i z' z h hz' hz he' he))
theorem least {p : Nat → Prop} (h : ∃ k, p k) : ∃ k, p k ∧ ∀ j, j < k → ¬ p j := by
  obtain ⟨k, hk⟩ := h
  induction k using Nat.strongRecOn with
  | _ k ih =>
    by_cases hj : ∃ j, j < k ∧ p j
    · obtain ⟨j, h1, h2⟩ := hj; exact ih j h1 h2
    · exact ⟨k, hk, fun j h1 h2 => hj ⟨j, h1, h2⟩⟩
theorem Inv.now (hI : Inv ops zs its E0 w0 N D fr0 st0 listed E a w) (hd : DrawOk ops zs) (hR : Run Γ ops.size zs its fr0 frE st0 stE) {i : Nat} {z : MOper × Nat} {fr' : Fr} {st' st'' : St} {v : AV} (hz : zs[i]? = some z) (hr : i ∈ Region.ready .any ops listed)
    (hit : its[i]? = some (.val fr' st' v st'')) (hw : wantedA fr' z.1.guard = some true) (ho : oprD Γ (idAt zs i st0.next) fr' st' z.1.op = .val v st'') :
    oprD Γ (idAt zs i st0.next) (frL zs its (lst listed) 0 fr0) (stL zs its (lst listed) 0 (preA zs st0)) z.1.op = .val v (bif z.1.op.effect then st'' else stL zs its (lst listed) 0 (preA zs st0)) := by
  have hs := hI.slots hd hz hr
  obtain ⟨hfr, hst, _⟩ := hR.it hz hit
  rw [oprD_congr (uses_xs hs), ← hfr]
  cases he : z.1.op.effect with
  | true =>
    rw [hI.heap hd hz hr (eff_anch hd hz he), ← hst]; exact ho
  | false =>
    simp only [cond_false]
    have heq := still_st he ho
    cases hrd : z.1.op.reads with
    | false => exact oprD_pure he hrd ho
    | true =>
      cases ha : anchB ops.size zs i with
      | true => rw [hI.heap hd hz hr (anch_of hd hz ha), ← hst, ho, heq]
      | false =>
        have hi : i < ops.size := by rw [← hd.len]; exact (List.getElem?_eq_some_iff.1 hz).1
        have hmem : ∀ q, q ∈ (List.range ops.size).filterMap (fun k => bif effAt zs k && !(ancAt zs i).testBit k && noDesc k zs i then some (i, some k) else none) ++ (bif noDesc ops.size zs i then [(i, none)] else []) → q ∈ chkOf ops.size zs := fun q hq => by
          unfold chkOf
          refine List.mem_flatMap.2 ⟨i, List.mem_range.2 hi, ?_⟩
          simp only [rdAt, hz, hrd, ha, Bool.not_false, Bool.and_self, cond_true]
          exact hq
        have hnd : ∀ (j : Nat) (z' : MOper × Nat), zs[j]? = some z' → lst listed j = true → z'.2.testBit i = false := fun j z' hz' hl => by
          cases hb : z'.2.testBit i with
          | false => rfl
          | true => rw [hI.down hd hz' (hI.not hr) hb] at hl; cases hl
        by_cases hall : ∀ (k : Nat) (z' : MOper × Nat), zs[k]? = some z' → z'.1.op.effect = true → lst listed k = true
        · have hc := hR.chk (i, none) (hmem _ (List.mem_append_right _ (by
            rw [noDesc_of fun j z' _ hz' he' => hnd j z' hz' (hall j z' hz' he')]; simp)))
          simp only [chkB, hz, hit, hw] at hc
          have hE : stL zs its (lst listed) 0 (preA zs st0) = stE := by
            rw [(drun_spec _ _ _ _ _ _ _ _ _ hR.run).2.2.1]
            exact stL_congr zs its _ _ 0 _ fun k z' hz' he' _ => by rw [Nat.zero_add]; exact hall k z' hz' he'
          rw [hE]; exact same_of ho he hc
        · have hex : ∃ k, (∃ z' : MOper × Nat, zs[k]? = some z' ∧ z'.1.op.effect = true ∧ lst listed k = false) ∧ ∀ j, j < k → ¬ ∃ z' : MOper × Nat, zs[j]? = some z' ∧ z'.1.op.effect = true ∧ lst listed j = false := by
            have h0 : ∃ k, ∃ z' : MOper × Nat, zs[k]? = some z' ∧ z'.1.op.effect = true ∧ lst listed k = false := Classical.byContradiction fun hn => hall fun k z' h1 h2 => by
              cases hl : lst listed k with
              | true => rfl
              | false => exact absurd ⟨k, z', h1, h2, hl⟩ hn
            exact least h0
          obtain ⟨k, ⟨zk, hzk, hek, hlk⟩, hmin⟩ := hex
          have hbefore : ∀ (j : Nat) (z' : MOper × Nat), j < k → zs[j]? = some z' → z'.1.op.effect = true → lst listed j = true := fun j z' hj h1 h2 => by
            cases hl : lst listed j with
            | true => rfl
            | false => exact absurd ⟨z', h1, h2, hl⟩ (hmin j hj)
          have hk : k < ops.size := by rw [← hd.len]; exact (List.getElem?_eq_some_iff.1 hzk).1
          have hnb : z.2.testBit k = false := by
            cases hb : z.2.testBit k with
            | false => rfl
            | true => rw [hI.up hd hz hr hb] at hlk; cases hlk
          have hc := hR.chk (i, some k) (hmem _ (List.mem_append_left _ (List.mem_filterMap.2 ⟨k, List.mem_range.2 hk, by
            rw [noDesc_of fun j z' hj hz' he' => hnd j z' hz' (hbefore j z' hj hz' he')]
            simp [effAt, ancAt, hzk, hek, hz, hnb]⟩)))
          have hsk : stL zs its (lst listed) 0 (preA zs st0) = stL zs its (fun j => decide (j < 0 + k)) 0 (preA zs st0) := by
            refine stL_congr zs its _ _ 0 _ fun j z' hz' he' _ => ?_
            simp only [Nat.zero_add]
            rcases Nat.lt_trichotomy j k with h | h | h
            · rw [hbefore j z' h hz' he']; simp [h]
            · subst h; rw [hlk]; simp
            · rw [hI.down hd hz' hlk (hd.effs k j zk z' h hzk hz' hek he')]; simp; omega
          obtain ⟨itk, hik⟩ := hR.get hzk
          have hok := hR.it hzk hik
          simp only [chkB, hz, hit, hw, hik] at hc
          cases itk with
          | dead =>
            rcases hok with ⟨p, h1, _⟩ | ⟨j', f, b, c, d, h1, h2⟩
            · cases h1
            · rw [Nat.zero_add] at h2
              have hj := ltAnc hd hzk h2
              have hjz : j' < zs.length := by have := (List.getElem?_eq_some_iff.1 hzk).1; omega
              have hzj : zs[j']? = some zs[j'] := List.getElem?_eq_getElem hjz
              have := hbefore j' _ hj hzj (hR.pan_eff hzj h1)
              rw [hI.pn _ _ _ _ _ h1] at this; cases this
          | val f s c d =>
            obtain ⟨_, h2, _⟩ := hok
            rw [hsk, ← h2]; exact same_of ho he hc
          | pan f s c d =>
            obtain ⟨_, h2, _⟩ := hok
            rw [hsk, ← h2]; exact same_of ho he hc
theorem lst_set {i j : Nat} (h : i ≠ j) : lst (listed.setIfInBounds i true) j = lst listed j := getD_set_ne false h
theorem lst_set_same {i : Nat} (h : i < listed.size) : lst (listed.setIfInBounds i true) i = true := by
  unfold lst; rw [Array.getD_eq_getD_getElem?]; simp [h]
theorem Inv.next (hI : Inv ops zs its E0 w0 N D fr0 st0 listed E a w) (hd : DrawOk ops zs) (hR : Run Γ ops.size zs its fr0 frE st0 stE) {i : Nat} {z : MOper × Nat} {o : Oper} {fr' : Fr} {st' st'' : St} {v : AV} {E' : Env} {w' : World} {u : Value}
    (hz : zs[i]? = some z) (ho : ops[i]? = some o) (hdst : z.1.dst = o.dst) (hN : dstOk N o.dst = true) (hr : i ∈ Region.ready .any ops listed) (hit : its[i]? = some (.val fr' st' v st''))
    (hx : Ext E0 w0 E' w') (hx0 : Ext0 E w E' w') (hs : Sat E' (bif z.1.op.effect then st'' else stL zs its (lst listed) 0 (preA zs st0)) w') (hv : Rv E' w' v u)
    (hrs : ∀ (j : Nat) (z : MOper × Nat) (cs : List AV), zs[j]? = some z → z.1.op = .alloc cs → lst listed j = false → j ≠ i → E'.Rs (idAt zs j st0.next)) :
    Inv ops zs its E0 w0 N D fr0 st0 (listed.setIfInBounds i true) E' (a.put o.dst u) w' := by
  have hi : i < listed.size := by rw [hI.ls]; exact (Array.getElem?_eq_some_iff.1 ho).1
  refine ⟨hx, ?_, ?_, by rw [put_size]; exact hI.sz, by rw [put_defers']; exact hI.df, fun j zj cs h1 h2 h3 => ?_, ?_, by rw [Array.size_setIfInBounds]; exact hI.ls, fun j b c d e hj => ?_⟩
  · cases he : z.1.op.effect with
    | true =>
      simp only [he, cond_true] at hs
      rw [stL_at zs its _ 0 _ i z _ _ _ _ hz hit he (by rw [Nat.zero_add]; exact lst_set_same hi) fun k z' hk hz' he' => ?_]
      · exact hs
      · rw [Nat.zero_add, lst_set (by omega)]
        exact hI.down hd hz' (hI.not hr) (hd.effs i k z z' hk hz hz' he he')
    | false =>
      simp only [he, cond_false] at hs
      rw [stL_congr zs its _ (lst listed) 0 _ fun k z' hz' he' _ => ?_]
      · exact hs
      · rw [Nat.zero_add]
        refine lst_set ?_
        rintro rfl
        rw [hz] at hz'; injection hz' with hz'; subst hz'
        rw [he] at he'; cases he'
  · have hput : RvF E' w' (Fr.put (frL zs its (lst listed) 0 fr0) o.dst v) (a.put o.dst u) := RvF.put (fun n => Rv.mono0 hx0 _ _ (hI.rvf n)) hv (by rw [hI.sz]; exact hN)
    intro t
    have := hput t
    have he : (frL zs its (lst (listed.setIfInBounds i true)) 0 fr0).get t = (Fr.put (frL zs its (lst listed) 0 fr0) o.dst v).get t := by
      by_cases ht : z.1.dst = some t
      · rw [frL_at zs its _ 0 _ i z _ _ _ _ hz hit ht (by rw [Nat.zero_add]; exact lst_set_same hi) fun k z' h1 h2 => hd.dst k i z' z t h1 hz h2 ht]
        rw [← hdst, ht]
        simp [Fr.put, Fr.get_set]
      · have h1 : (Fr.put (frL zs its (lst listed) 0 fr0) o.dst v).get t = (frL zs its (lst listed) 0 fr0).get t := by
          rw [hdst] at ht
          cases hod : o.dst with
          | none => rfl
          | some d =>
            rw [hod] at ht
            simp only [Fr.put, Fr.get_set]
            rw [if_neg (by rintro rfl; exact ht rfl)]
        rw [h1]
        refine frL_get zs its _ _ 0 _ _ rfl fun k z' hz' hk _ => ?_
        rw [Nat.zero_add]
        refine lst_set ?_
        rintro rfl
        rw [hz] at hz'; injection hz' with hz'; subst hz'
        exact ht hk
    rw [he]; exact this
  · have hne : i ≠ j := by
      rintro rfl
      rw [lst_set_same hi] at h3; cases h3
    rw [lst_set hne] at h3
    exact hrs j zj cs h1 h2 h3 (Ne.symm hne)
  · obtain ⟨_, o', ho', he⟩ := mem_ready.1 hr
    rw [ho] at ho'; injection ho' with ho'; subst ho'
    exact hI.cl.set ho he
  · have hne : i ≠ j := by
      rintro rfl
      rw [hit] at hj; cases hj
    rw [lst_set hne]; exact hI.pn _ _ _ _ _ hj
def OpsOk (P : Program) (ops : Array Oper) (N : Nat) (zs : List (MOper × Nat)) : Prop := ∀ (i : Nat) (o : Oper), ops[i]? = some o → ∃ z fz, zs[i]? = some z ∧ z.1.dst = o.dst ∧ z.1.op = (cop P fz o).getD .bad ∧
  cguard ops o = some z.1.guard ∧ dstOk N o.dst = true ∧ ∀ cs, z.1.op = .alloc cs → ∃ t, o.op = .alloc t
def rOf (zs : List (MOper × Nat)) (fr0 : Fr) (its : List DIt) (frE : Fr) (stE : St) : RR := match panOf its with | some (v, st') => .pan (frCut zs fr0) v st' | none => .ok frE stE
theorem frL_ds : ∀ (zs : List (MOper × Nat)) (its : List DIt) (L : Nat → Bool) (i : Nat) (fr : Fr), (frL zs its L i fr).ds = fr.ds
  | [], _, _, _, _ => by unfold frL; rfl
  | z :: zs, [], _, _, _ => by unfold frL; rfl
  | z :: zs, it :: its, L, i, fr => by
    cases it <;> simp only [frL] <;> rw [frL_ds zs its L]
    cases L i <;> simp
theorem frCut_ds : ∀ (zs : List (MOper × Nat)) (fr : Fr), (frCut zs fr).ds = fr.ds
  | [], _ => rfl
  | z :: zs, fr => by
    unfold frCut
    rw [frCut_ds zs]
    cases z.1.dst <;> rfl
theorem frCut_get : ∀ (zs : List (MOper × Nat)) (fr : Fr) (n : Nat) (v : AV), (frCut zs fr).get n = some v → fr.get n = some v ∧ ∀ (k : Nat) (z : MOper × Nat), zs[k]? = some z → z.1.dst ≠ some n
  | [], _, _, _, h => ⟨h, fun k z hz => by simp at hz⟩
  | z :: zs, fr, n, v, h => by
    unfold frCut at h
    obtain ⟨h1, h2⟩ := frCut_get zs _ n v h
    cases hd : z.1.dst with
    | none =>
      rw [hd] at h1
      refine ⟨h1, fun k z' hz => ?_⟩
      cases k with
      | zero => simp only [List.getElem?_cons_zero, Option.some.injEq] at hz; subst hz; rw [hd]; simp
      | succ k => exact h2 k z' (by simpa using hz)
    | some d =>
      rw [hd] at h1
      simp only [Fr.get_set] at h1
      by_cases hn : n = d
      · rw [if_pos hn] at h1; cases h1
      · rw [if_neg hn] at h1
        refine ⟨h1, fun k z' hz => ?_⟩
        cases k with
        | zero =>
          simp only [List.getElem?_cons_zero, Option.some.injEq] at hz; subst hz
          rw [hd]; intro e; injection e with e; exact hn e.symm
        | succ k => exact h2 k z' (by simpa using hz)
theorem panOf_none : ∀ (its : List DIt), (∀ (j : Nat) (a : Fr) (b : St) (c : AV) (d : St), its[j]? ≠ some (.pan a b c d)) → panOf its = none
  | [], _ => rfl
  | it :: its, h => by
    have := panOf_none its fun j a b c d hj => h (j + 1) a b c d (by simpa using hj)
    cases it with
    | dead => exact this
    | val _ _ _ _ => exact this
    | pan a b c d => exact absurd rfl (h 0 a b c d)
theorem Inv.fin (hI : Inv ops zs its E0 w0 N D fr0 st0 listed E a w) (hd : DrawOk ops zs) (hR : Run Γ ops.size zs its fr0 frE st0 stE) (hall : ∀ i, i < ops.size → lst listed i = true) (hD0 : RvD P E0 w0 B w0.heap.size fr0.ds D) (hB0 : B ≤ w0.heap.size) : RReach P E0 w0 N B (rOf zs fr0 its frE stE) .normal a w := by
  have hspec := drun_spec _ _ _ _ _ _ _ _ _ hR.run
  have hlen : its.length = ops.size := by rw [hspec.1, hd.len]
  have hnone := panOf_none its fun j f b c d hj => by
    have h1 : j < ops.size := by rw [← hlen]; exact (List.getElem?_eq_some_iff.1 hj).1
    have := hI.pn _ _ _ _ _ hj
    rw [hall j h1] at this; cases this
  unfold rOf
  rw [hnone]
  have hz : ∀ (k : Nat) (z : MOper × Nat), zs[k]? = some z → lst listed k = true := fun k z hz => hall k (by rw [← hd.len]; exact (List.getElem?_eq_some_iff.1 hz).1)
  refine ⟨rfl, E, hI.ext, ?_, ⟨fun t => ?_, hI.sz, by rw [hspec.2.1, frL_ds, hI.df]; exact hD0.mono hI.ext hI.ext.size, Nat.le_trans hB0 hI.ext.size⟩⟩
  · rw [hspec.2.2.1]
    rw [stL_congr zs its _ (lst listed) 0 _ fun k z h1 _ _ => by rw [Nat.zero_add, hz k z h1]]
    exact hI.sat
  · have := hI.rvf t
    rw [hspec.2.1, frL_get zs its (fun _ => true) (lst listed) 0 fr0 fr0 rfl fun k z h1 _ _ => by rw [Nat.zero_add, hz k z h1]]
    exact this
theorem draw_sound {b0 : Option Nat} (hΓ : SoundC P Γ E0 w0) (hD0 : RvD P E0 w0 B w0.heap.size fr0.ds D) (hB0 : B ≤ w0.heap.size) (hd : DrawOk ops zs) (hops : OpsOk P ops N zs) (hR : Run Γ ops.size zs its fr0 frE st0 stE) (hE0 : ∀ j, E0.Rs j → j < st0.next) :
    ∀ (fuel : Nat) (listed : Array Bool) (E : Env) (a : Act) (w : World), Inv ops zs its E0 w0 N D fr0 st0 listed E a w → nlisted listed ops.size + fuel = ops.size → wpAnyIn (FR0 b0) 0 P .any ops (RReach P E0 w0 N B (rOf zs fr0 its frE stE)) fuel listed a w
  | 0, listed, E, a, w, hI, hn => by
    have hall : ∀ i, i < ops.size → lst listed i = true := nlisted_all (by omega)
    refine ⟨?_, hI.fin hd hR hall hD0 hB0⟩
    cases hr : Region.ready .any ops listed with
    | nil => rfl
    | cons i l =>
      have hm : i ∈ Region.ready .any ops listed := by rw [hr]; simp
      obtain ⟨_, o, ho, _⟩ := mem_ready.1 hm
      have := hall i (Array.getElem?_eq_some_iff.1 ho).1
      rw [hI.not hm] at this; cases this
  | fuel + 1, listed, E, a, w, hI, hn => by
    refine ⟨fun hr => hI.fin hd hR (all_listed hd.back hI.ls hr) hD0 hB0, fun i hr => ?_⟩
    have hnot := hI.not hr
    obtain ⟨_, o, ho, _⟩ := mem_ready.1 hr
    have hi : i < ops.size := (Array.getElem?_eq_some_iff.1 ho).1
    have hn' : nlisted (listed.setIfInBounds i true) ops.size + fuel = ops.size := by
      rw [nlisted_set hi (by rw [hI.ls]; exact hi) hnot]; omega
    obtain ⟨z, fz, hz, hdst, hop, hg, hN, hal⟩ := hops i o ho
    obtain ⟨it, hit⟩ := hR.get hz
    have hok := hR.it hz hit
    have hs := hI.slots hd hz hr
    have hwg := uses_guard hs
    unfold wpOpIn
    simp only [ho]
    cases it with
    | dead => exact absurd hit (hI.alive hd hR hz hr)
    | val fr' st' v st'' =>
      obtain ⟨hfr, hst, hok⟩ := hok
      rw [← hfr] at hwg
      rcases hok with ⟨hw, hop'⟩ | ⟨hw, rfl, rfl⟩
      · rw [hw] at hwg
        rw [wanted_sound hI.rvf hg hwg]
        simp only [if_true]
        have hnow := hI.now hd hR hz hr hit hw hop'
        by_cases hall : ∃ cs, z.1.op = .alloc cs
        · obtain ⟨cs, hcs⟩ := hall
          obtain ⟨t, hot⟩ := hal cs hcs
          have hcop : cop P fz o = (P.info? t).bind fun i => (zcells i).map fun zs => bif fz then .allocT t zs else .alloc zs := by
            unfold cop ccall cop1
            simp only [hot]
            cases P.info? t with
            | none => rfl
            | some i => cases h2 : zcells i <;> cases fz <;> simp [h2, MOp.isCall, MOp.special]
          rw [hcs] at hop
          have hc2 : cop P fz o = some (.alloc cs) := by
            cases hc : cop P fz o with
            | none => rw [hc] at hop; cases hop
            | some m => rw [hc] at hop; simp only [Option.getD_some] at hop; rw [hop]
          rw [hcop] at hc2
          simp only [Option.bind_eq_some_iff, Option.map_eq_some_iff] at hc2
          obtain ⟨ti, hti, zz, hzz, hzc⟩ := hc2
          cases fz with
          | true => cases hzc
          | false =>
          simp only [cond_false, MOp.alloc.injEq] at hzc; subst hzc
          obtain ⟨zv, hz0, hzs⟩ := zcells_sound hzz
          have heff : z.1.op.effect = false := by rw [hcs]; rfl
          rw [heff] at hnow
          simp only [cond_false, hcs, oprD] at hnow
          have hrsI := hI.rs i z zz hz hcs hnot
          have hsr := hI.sat.rs _ hrsI
          split at hnow
          · rename_i cs' hget
            cases hb : avsBeq cs' zz
            · simp [hb] at hnow
            · simp only [hb, cond_true, OpR.val.injEq, and_true] at hnow
              have := avsBeq_eq _ _ hb
              subst this
              have hs2 := hI.sat.setRs (fun j => j ≠ idAt zs i st0.next ∧ E.Rs j) fun j hj => hI.sat.rs j hj.2
              obtain ⟨w', h1, h2, h3, h4⟩ := alloc_link_sound (P := P) (t := t) hti hz0 hzs hs2 hsr.2 hsr.1 (fun h => h.1 rfl) hget
              have hrun : (execOp a.eval o).run P w = .ok (.value (.pointer (some ⟨w.heap.size, 0, none⟩))) w' := by simp [execOp, hot, h1]
              refine ⟨fun _ _ => trivial, ?_⟩
              rw [Oper.semAt_eq _ _ _ (fun c hc => by rw [hot] at hc; cases hc), hrun]
              have hE2 : Ext0 E w { E with Rs := fun j => j ≠ idAt zs i st0.next ∧ E.Rs j } w := ⟨fun _ _ h => h, fun _ h => h, fun _ _ => rfl, Nat.le_refl _, fun _ _ h => h, rfl, rfl, rfl, fun _ _ => rfl⟩
              have hx0 := hE2.trans h2.toExt0
              refine draw_sound hΓ hD0 hB0 hd hops hR hE0 fuel _ _ _ _ (hI.next hd hR hz ho hdst hN hr hit ⟨hI.ext.toExt0.trans hx0, fun j hj => ?_, fun b hb => h2.Dz b (hI.ext.Dz b hb)⟩ hx0 (by rw [heff]; exact h3) (by rw [← hnow]; exact h4) fun j zj cj hzj hcj hlj hne => ?_) hn'
              · have h5 := hE0 j hj
                have h6 := idAt_le zs i st0.next
                exact h2.Rs j ⟨by omega, hI.ext.Rs j hj⟩
              · refine h2.Rs _ ⟨?_, hI.rs j zj cj hzj hcj hlj⟩
                rcases Nat.lt_or_gt_of_ne hne with h | h
                · have := idAt_lt zs j i st0.next zj cj h hzj hcj; omega
                · have := idAt_lt zs i j st0.next z cs' h hz hcs; omega
          · cases hnow
        · have hopr : oprD Γ (idAt zs i st0.next) (frL zs its (lst listed) 0 fr0) (stL zs its (lst listed) 0 (preA zs st0)) z.1.op = opr Γ (frL zs its (lst listed) 0 fr0) (stL zs its (lst listed) 0 (preA zs st0)) z.1.op := by
            unfold oprD
            split
            · rename_i cs hcs; exact absurd ⟨cs, hcs⟩ hall
            · rfl
          rw [hopr] at hnow
          refine oper_sound (hΓ.mono hI.ext) hI.rvf hI.sat (.val v (bif z.1.op.effect then st'' else stL zs its (lst listed) 0 (preA zs st0))) (by rw [← hop]; exact hnow) (fun v1 s1 heq E' w' u h1 h2 h3 => ?_) (fun v1 s1 heq => by cases heq) (by simp)
          injection heq with e1 e2
          subst e1; subst e2
          exact draw_sound hΓ hD0 hB0 hd hops hR hE0 fuel _ E' _ w' (hI.next hd hR hz ho hdst hN hr hit (hI.ext.trans h1) h1.toExt0 h2 h3 fun j zj cj hzj hcj hlj _ => h1.Rs _ (hI.rs j zj cj hzj hcj hlj)) hn'
      · rw [hw] at hwg
        rw [wanted_sound hI.rvf hg hwg]
        simp only [Bool.false_eq_true, if_false]
        refine ⟨fun _ _ => trivial, draw_sound hΓ hD0 hB0 hd hops hR hE0 fuel _ E _ w (hI.next hd hR hz ho hdst hN hr hit hI.ext (Ext.refl E w).toExt0 ?_ rfl fun j zj cj hzj hcj hlj _ => hI.rs j zj cj hzj hcj hlj) hn'⟩
        cases he : z.1.op.effect with
        | false => exact hI.sat
        | true =>
          simp only [cond_true]
          rw [hst, ← hI.heap hd hz hr (eff_anch hd hz he)]
          exact hI.sat
    | pan fr' st' v st'' =>
      have heff := hR.pan_eff hz hit
      obtain ⟨hfr, hst, hw, hop'⟩ := hok
      rw [← hfr, hw] at hwg
      rw [wanted_sound hI.rvf hg hwg]
      simp only [if_true]
      have hopr : opr Γ (frL zs its (lst listed) 0 fr0) (stL zs its (lst listed) 0 (preA zs st0)) z.1.op = .pan v st'' := by
        rw [opr_congr (uses_xs hs), ← hfr, hI.heap hd hz hr (eff_anch hd hz heff), ← hst, ← hop']
        unfold oprD
        split
        · rename_i cs hcs; rw [hcs] at heff; cases heff
        · rfl
      refine oper_sound (hΓ.mono hI.ext) hI.rvf hI.sat (.pan v st'') (by rw [← hop]; exact hopr) (fun v1 s1 heq => by cases heq) (fun v1 s1 heq E' w' u h1 h2 h3 => ?_) (by simp)
      injection heq with e1 e2
      subst e1; subst e2
      have := (drun_pan _ _ _ _ _ _ _ _ _ hR.run).2 i _ _ _ _ hit
      unfold rOf
      rw [this]
      refine ⟨u, E', rfl, hI.ext.trans h1, h2, h3, ⟨fun n v hn => ?_, by rw [frCut_ds, hI.df]; exact hD0.mono (hI.ext.trans h1) (hI.ext.trans h1).size⟩⟩
      obtain ⟨h4, h5⟩ := frCut_get zs fr0 n v hn
      refine Rv.mono h1 _ _ (hI.rvf.part n v ?_)
      rw [frL_off zs its _ 0 fr0 h5]; exact h4
theorem adraw_sound {id : Nat} {r : RR} {fr : Fr} {st : St} {b0 : Option Nat} (hm : P.follows .mixedOrders = true) (hΓ : SoundC P Γ E w) (hd : DrawOk ops zs) (hops : OpsOk P ops N zs) (hr : adraw Γ zs (chkOf ops.size zs) fr st = r) (hst : r ≠ .stuck)
    (hf : RvA P E w N B fr a) (hs : Sat E st w) : (Code.region id ops true).wpIn (FR0 b0) 0 P (RReach P E w N B r) a w := by
  unfold adraw at hr
  cases hrun : drun Γ zs 0 st.next fr (preA zs st) none with
  | none => rw [hrun] at hr; exact absurd hr.symm hst
  | some d =>
    obtain ⟨its, frE, stE⟩ := d
    rw [hrun] at hr
    simp only at hr
    cases hc : (chkOf ops.size zs).all (chkB Γ zs its st.next stE)
    · rw [hc] at hr; exact absurd hr.symm hst
    · rw [hc] at hr
      simp only [cond_true] at hr
      have hR : Run Γ ops.size zs its fr frE st stE := ⟨hrun, fun q hq => List.all_eq_true.1 hc q hq⟩
      have hr' : rOf zs fr its frE stE = r := hr
      rw [← hr']
      refine wpIn_region_any hm ?_
      have hx : Ext E w E { w with drawn := w.drawn + 1 } := hs.drew.2
      have hs1 : Sat E st { w with drawn := w.drawn + 1 } := hs.drew.1
      have hne : ∀ k, lst (Array.replicate ops.size false) k = false := fun k => by
        unfold lst
        rw [Array.getD_eq_getD_getElem?]
        cases h : (Array.replicate ops.size false)[k]? with
        | none => rfl
        | some b =>
          obtain ⟨_, h⟩ := Array.getElem?_eq_some_iff.1 h
          simp at h; simp [h]
      have hn0 : nlisted (Array.replicate ops.size false) ops.size = 0 := by
        unfold nlisted
        refine List.countP_eq_zero.2 fun k _ => ?_
        have := hne k
        unfold lst at this
        simp [this]
      refine draw_sound (D := a.defers) hΓ hf.d hf.b hd hops hR (fun j hj => (hs.rs j hj).2) ops.size _ { E with Rs := fun j => E.Rs j ∨ (st.next ≤ j ∧ j < (preA zs st).next) } a _ ⟨?_, ?_, ?_, hf.n, rfl, fun j z cs hz hcs _ => ?_, fun i o _ h => ?_, by simp, fun j _ _ _ _ _ => hne j⟩ (by omega)
      · exact ⟨⟨fun _ _ h => h, fun _ h => h, hx.mem, hx.size, hx.shape, hx.os, hx.tape, hx.output, fun _ _ => rfl⟩, fun _ h => .inl h, fun _ h => h⟩
      · rw [stL_none zs its _ 0 _ fun k _ => hne k]
        refine (preA_sat zs st hs1).setRs _ fun j hj => ?_
        rcases hj with hj | ⟨h1, h2⟩
        · have := hs.rs j hj
          have h3 := preA_next zs st
          exact ⟨this.1, by omega⟩
        · refine ⟨?_, h2⟩
          cases hb : E.β j with
          | none => rfl
          | some b => have := (hs.dom j b hb).1; omega
      · rw [frL_none zs its _ 0 _ fun k _ => hne k]
        have hE2 : Ext0 E w { E with Rs := fun j => E.Rs j ∨ (st.next ≤ j ∧ j < (preA zs st).next) } { w with drawn := w.drawn + 1 } := ⟨fun _ _ h => h, fun _ h => h, hx.mem, hx.size, hx.shape, hx.os, hx.tape, hx.output, fun _ _ => rfl⟩
        exact fun n => Rv.mono0 hE2 _ _ (hf.f n)
      · exact .inr ⟨idAt_le zs j st.next, idAt_next zs j st z cs hz hcs⟩
      · have := hne i
        unfold lst at this
        rw [this] at h; cases h
end
end Go.AM
