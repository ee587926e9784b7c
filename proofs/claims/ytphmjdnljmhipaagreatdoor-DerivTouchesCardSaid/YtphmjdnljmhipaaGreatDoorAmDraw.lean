import Derived.Test.YtphmjdnljmhipaaGreatDoorAmBeq
import Derived.Test.YtphmjdnljmhipaaGreatDoorAmReg
import Derived.OrdersIn
namespace Go.AM
def MOp.effect : MOp → Bool
  | .store _ _ _ => true
  | .mapup _ _ _ _ => true
  | .mkmap => true
  | .append _ _ _ _ _ => true
  | .allocT _ _ => true
  | .ustr _ _ _ => true
  | .appendz _ _ _ _ _ => true
  | .mksl _ _ _ _ _ => true
  | .copy _ _ _ => true
  | .s2b _ => true
  | .box fz _ => !fz
  | .panic _ => true
  | .call _ _ => true
  | _ => false
def MOp.reads : MOp → Bool
  | .load _ _ _ => true
  | .lookup _ _ _ _ _ => true
  | .len _ _ => true
  | .b2s _ => true
  | .alloc _ => true
  | .ptou _ => true
  | .utop _ _ _ => true
  | _ => false
def MOp.xs : MOp → List X
  | .mv x => [x]
  | .pick c a b => [c, a, b]
  | .alloc _ => []
  | .allocT _ _ => []
  | .box _ x => [x]
  | .build _ ps => ps.map fun p => p.2.2
  | .bslice _ _ ps => ps.map fun p => p.2.2
  | .load _ _ x => [x]
  | .store _ a x => [a, x]
  | .nilchk x => [x]
  | .bin _ _ x y => [x, y]
  | .eqnil _ _ _ x y => [x, y]
  | .un _ x => [x]
  | .conv _ x => [x]
  | .mkif _ x => [x]
  | .mkfn _ xs ys => xs ++ ys
  | .mkmap => []
  | .slice _ x lo hi mx => x :: (lo.toList ++ hi.toList ++ mx.toList)
  | .sliceS x lo hi => x :: (lo.toList ++ hi.toList)
  | .faddr _ x => [x]
  | .field _ _ _ x => [x]
  | .iaddr _ x i => [x, i]
  | .aaddr _ _ x i => [x, i]
  | .sidx x i => [x, i]
  | .aidx _ _ _ x i => [x, i]
  | .lookup _ _ _ m k => [m, k]
  | .mapup _ m k v => [m, k, v]
  | .tassert _ _ _ x => [x]
  | .extract _ x => [x]
  | .len _ x => [x]
  | .cap x => [x]
  | .max x xs => x :: xs
  | .min x xs => x :: xs
  | .append _ _ _ x y => [x, y]
  | .ptou x => [x]
  | .utop _ _ x => [x]
  | .sdat x => [x]
  | .ustr _ x n => [x, n]
  | .s2b x => [x]
  | .b2s x => [x]
  | .mksl _ _ _ l c => [l, c]
  | .appendz _ _ _ x k => [x, k]
  | .copy _ x y => [x, y]
  | .panic x => [x]
  | .call f xs => f :: xs
  | .defer f xs => f :: xs
  | .recov => []
  | .bad => []
def X.tm : X → Option Nat
  | .t n => some n
  | .c _ => none
def MOper.uses (m : MOper) : List Nat := (m.guard.map Prod.fst).toList ++ m.op.xs.filterMap X.tm
theorem evParts_congr {fr fr' : Fr} {ps : List (Nat × Nat × X)} (h : ∀ x ∈ ps.map (fun p => p.2.2), ev fr x = ev fr' x) : evParts fr ps = evParts fr' ps := by
  unfold evParts
  exact List.map_congr_left fun p hp => by rw [h p.2.2 (List.mem_map.2 ⟨p, hp, rfl⟩)]
theorem mapo_congr {fr fr' : Fr} {o : Option X} (h : ∀ x ∈ o.toList, ev fr x = ev fr' x) : o.map (ev fr) = o.map (ev fr') := by
  cases o with
  | none => rfl
  | some x => simp [h x (by simp)]
theorem opr_congr {Γ : Cg} {fr fr' : Fr} {st : St} {m : MOp} (h : ∀ x ∈ m.xs, ev fr x = ev fr' x) : opr Γ fr st m = opr Γ fr' st m := by
  cases m <;> simp only [MOp.xs] at h
  case build zs ps => simp only [opr, aop, evParts_congr h]
  case bslice n zs ps => simp only [opr, aop, evParts_congr h]
  case mkfn f xs ys =>
    have h1 : xs.map (ev fr) = xs.map (ev fr') := List.map_congr_left fun x hx => h x (by simp [hx])
    have h2 : ys.map (ev fr) = ys.map (ev fr') := List.map_congr_left fun x hx => h x (by simp [hx])
    simp only [opr, aop, h1, h2]
  case slice sz x lo hi mx =>
    simp only [opr, aop, h x (by simp), mapo_congr (fr := fr) (fr' := fr') (o := lo) (fun y hy => h y (by simp [Option.mem_toList.1 hy])), mapo_congr (fr := fr) (fr' := fr') (o := hi) (fun y hy => h y (by simp [Option.mem_toList.1 hy])),
      mapo_congr (fr := fr) (fr' := fr') (o := mx) (fun y hy => h y (by simp [Option.mem_toList.1 hy]))]
  case sliceS x lo hi =>
    simp only [opr, aop, h x (by simp), mapo_congr (fr := fr) (fr' := fr') (o := lo) (fun y hy => h y (by simp [Option.mem_toList.1 hy])), mapo_congr (fr := fr) (fr' := fr') (o := hi) (fun y hy => h y (by simp [Option.mem_toList.1 hy]))]
  case max x xs =>
    have h1 : xs.map (ev fr) = xs.map (ev fr') := List.map_congr_left fun y hy => h y (by simp [hy])
    simp only [opr, aop, h x (by simp), h1]
  case min x xs =>
    have h1 : xs.map (ev fr) = xs.map (ev fr') := List.map_congr_left fun y hy => h y (by simp [hy])
    simp only [opr, aop, h x (by simp), h1]
  case call f xs =>
    have h1 : xs.map (ev fr) = xs.map (ev fr') := List.map_congr_left fun y hy => h y (by simp [hy])
    simp only [opr, h f (by simp), h1]
  case defer f xs => rfl
  all_goals simp only [List.mem_cons, List.not_mem_nil, or_false, forall_eq_or_imp, forall_eq, false_imp_iff, implies_true] at h
  all_goals first
    | (simp only [opr, aop, h]; done)
    | (obtain ⟨h1, h2⟩ := h; simp only [opr, aop, h1, h2]; done)
    | (obtain ⟨h1, h2, h3⟩ := h; simp only [opr, aop, h1, h2, h3]; done)
    | rfl
theorem oprD_congr {Γ : Cg} {id : Nat} {fr fr' : Fr} {st : St} {m : MOp} (h : ∀ x ∈ m.xs, ev fr x = ev fr' x) : oprD Γ id fr st m = oprD Γ id fr' st m := by
  have := opr_congr (Γ := Γ) (st := st) h
  cases m <;> simp only [oprD] <;> exact this
theorem of_still {st : St} {r : Option AV} : OpR.of st r = .stuck ∨ ∃ v, OpR.of st r = .val v st := by
  cases r with
  | none => exact .inl rfl
  | some v => exact .inr ⟨v, rfl⟩
theorem oprD_still {Γ : Cg} {id : Nat} {fr : Fr} {st : St} {m : MOp} (he : m.effect = false) : oprD Γ id fr st m = .stuck ∨ ∃ v, oprD Γ id fr st m = .val v st := by
  cases m <;> simp only [MOp.effect, reduceCtorEq, Bool.not_eq_false'] at he
  case alloc zs =>
    unfold oprD
    simp only
    split
    · cases h : avsBeq _ zs
      · exact .inl rfl
      · exact .inr ⟨_, rfl⟩
    · exact .inl rfl
  case box fz x => subst he; exact .inr ⟨_, rfl⟩
  case pick c a b =>
    simp only [oprD, opr, aop]
    split
    · exact .inr ⟨_, rfl⟩
    · exact .inl rfl
  all_goals first
    | exact of_still
    | exact .inr ⟨_, rfl⟩
    | exact .inl rfl
theorem of_pure {st st1 st' : St} {r : Option AV} {v : AV} (h : OpR.of st r = .val v st1) : OpR.of st' r = .val v st' := by
  cases r with
  | none => cases h
  | some u => simp only [OpR.of, OpR.val.injEq, and_true] at h ⊢; exact h.1
theorem oprD_pure {Γ : Cg} {id : Nat} {fr : Fr} {st st1 st' : St} {m : MOp} {v : AV} (he : m.effect = false) (hr : m.reads = false) (h : oprD Γ id fr st m = .val v st1) : oprD Γ id fr st' m = .val v st' := by
  cases m <;> simp only [MOp.effect, MOp.reads, reduceCtorEq, Bool.not_eq_false'] at he hr
  case box fz x => subst he; simp only [oprD, opr, aop, cond_true, OpR.val.injEq, and_true] at h ⊢; exact h.1
  case pick c a b =>
    simp only [oprD, opr, aop] at h ⊢
    split at h
    · simp only [OpR.val.injEq] at h; simp only [OpR.val.injEq, and_true]; exact h.1
    · cases h
  case bad => cases h
  case defer f xs => cases h
  case recov => cases h
  all_goals first
    | exact of_pure h
    | (simp only [oprD, opr, aop, OpR.val.injEq, and_true] at h ⊢; exact h.1)
def frL : List (MOper × Nat) → List DIt → (Nat → Bool) → Nat → Fr → Fr
  | z :: zs, .val _ _ v _ :: its, L, i, fr => frL zs its L (i + 1) (bif L i then Fr.put fr z.1.dst v else fr)
  | _ :: zs, _ :: its, L, i, fr => frL zs its L (i + 1) fr
  | _, _, _, _, fr => fr
def stL : List (MOper × Nat) → List DIt → (Nat → Bool) → Nat → St → St
  | z :: zs, .val _ _ _ st' :: its, L, i, st => stL zs its L (i + 1) (bif L i && z.1.op.effect then st' else st)
  | _ :: zs, _ :: its, L, i, st => stL zs its L (i + 1) st
  | _, _, _, _, st => st
theorem frL_congr : ∀ (zs : List (MOper × Nat)) (its : List DIt) (L L' : Nat → Bool) (i : Nat) (fr : Fr), (∀ k, i ≤ k → L k = L' k) → frL zs its L i fr = frL zs its L' i fr
  | [], _, _, _, _, _, _ => by unfold frL; rfl
  | z :: zs, [], _, _, _, _, _ => by unfold frL; rfl
  | z :: zs, it :: its, L, L', i, fr, h => by
    cases it <;> simp only [frL]
    · exact frL_congr zs its L L' _ _ fun k hk => h k (by omega)
    · rw [h i (by omega)]; exact frL_congr zs its L L' _ _ fun k hk => h k (by omega)
    · exact frL_congr zs its L L' _ _ fun k hk => h k (by omega)
theorem stL_congr : ∀ (zs : List (MOper × Nat)) (its : List DIt) (L L' : Nat → Bool) (i : Nat) (st : St), (∀ k z, zs[k]? = some z → z.1.op.effect = true → (∃ a b c d, its[k]? = some (.val a b c d)) → L (i + k) = L' (i + k)) → stL zs its L i st = stL zs its L' i st
  | [], _, _, _, _, _, _ => by unfold stL; rfl
  | z :: zs, [], _, _, _, _, _ => by unfold stL; rfl
  | z :: zs, it :: its, L, L', i, st, h => by
    have hr : ∀ k z', zs[k]? = some z' → z'.1.op.effect = true → (∃ a b c d, its[k]? = some (.val a b c d)) → L (i + 1 + k) = L' (i + 1 + k) := fun k z' h1 h2 h3 => by
      rw [show i + 1 + k = i + (k + 1) by omega]; exact h (k + 1) z' (by simpa using h1) h2 (by simpa using h3)
    cases it <;> simp only [stL]
    · exact stL_congr zs its L L' _ _ hr
    · rename_i a b c d
      cases he : z.1.op.effect
      · simp only [Bool.and_false]; exact stL_congr zs its L L' _ _ hr
      · have := h 0 z rfl he ⟨_, _, _, _, rfl⟩
        simp only [Nat.add_zero] at this
        rw [this]; exact stL_congr zs its L L' _ _ hr
    · exact stL_congr zs its L L' _ _ hr
theorem frL_none : ∀ (zs : List (MOper × Nat)) (its : List DIt) (L : Nat → Bool) (i : Nat) (fr : Fr), (∀ k, i ≤ k → L k = false) → frL zs its L i fr = fr
  | [], _, _, _, _, _ => by unfold frL; rfl
  | z :: zs, [], _, _, _, _ => by unfold frL; rfl
  | z :: zs, it :: its, L, i, fr, h => by
    cases it <;> simp only [frL, h i (Nat.le_refl _), cond_false] <;> exact frL_none zs its L _ _ fun k hk => h k (by omega)
theorem stL_none : ∀ (zs : List (MOper × Nat)) (its : List DIt) (L : Nat → Bool) (i : Nat) (st : St), (∀ k, i ≤ k → L k = false) → stL zs its L i st = st
  | [], _, _, _, _, _ => by unfold stL; rfl
  | z :: zs, [], _, _, _, _ => by unfold stL; rfl
  | z :: zs, it :: its, L, i, st, h => by
    cases it <;> simp only [stL, h i (Nat.le_refl _), Bool.false_and, cond_false] <;> exact stL_none zs its L _ _ fun k hk => h k (by omega)
def ItOk (Γ : Cg) (zs : List (MOper × Nat)) (its : List DIt) (i id : Nat) (fr : Fr) (st : St) (pan : Option Nat) (j : Nat) (z : MOper × Nat) : DIt → Prop
  | .dead => (∃ p, pan = some p ∧ z.2.testBit p = true) ∨ ∃ j' a b c d, its[j']? = some (.pan a b c d) ∧ z.2.testBit (i + j') = true
  | .val fr' st' v st'' => fr' = frL zs its (fun k => decide (k < i + j)) i fr ∧ st' = stL zs its (fun k => decide (k < i + j)) i st ∧
    ((wantedA fr' z.1.guard = some true ∧ oprD Γ (idAt zs j id) fr' st' z.1.op = .val v st'') ∨ (wantedA fr' z.1.guard = some false ∧ v = .undef ∧ st'' = st'))
  | .pan fr' st' v st'' => fr' = frL zs its (fun k => decide (k < i + j)) i fr ∧ st' = stL zs its (fun k => decide (k < i + j)) i st ∧
    wantedA fr' z.1.guard = some true ∧ oprD Γ (idAt zs j id) fr' st' z.1.op = .pan v st''
theorem DR.cons_some {it : DIt} {o : Option DR} {its : List DIt} {fr : Fr} {st : St} (h : DR.cons it o = some (its, fr, st)) : ∃ its', its = it :: its' ∧ o = some (its', fr, st) := by
  cases o with
  | none => cases h
  | some d =>
    obtain ⟨a, b, c⟩ := d
    simp only [DR.cons, Option.some.injEq, Prod.mk.injEq] at h
    exact ⟨a, h.1.symm, by rw [h.2.1, h.2.2]⟩
theorem still_st {Γ : Cg} {id : Nat} {fr : Fr} {st st' : St} {m : MOp} {v : AV} (he : m.effect = false) (h : oprD Γ id fr st m = .val v st') : st' = st := by
  rcases oprD_still (Γ := Γ) (id := id) (fr := fr) (st := st) he with h' | ⟨u, h'⟩
  · rw [h'] at h; cases h
  · rw [h'] at h; injection h with _ h; exact h.symm
theorem drun_spec {Γ : Cg} : ∀ (zs : List (MOper × Nat)) (i id : Nat) (fr : Fr) (st : St) (pan : Option Nat) (its : List DIt) (frE : Fr) (stE : St), drun Γ zs i id fr st pan = some (its, frE, stE) →
    its.length = zs.length ∧ frE = frL zs its (fun _ => true) i fr ∧ stE = stL zs its (fun _ => true) i st ∧
    ∀ j z it, zs[j]? = some z → its[j]? = some it → ItOk Γ zs its i id fr st pan j z it
  | [], i, id, fr, st, pan, its, frE, stE, h => by
    simp only [drun, Option.some.injEq, Prod.mk.injEq] at h
    obtain ⟨rfl, rfl, rfl⟩ := h
    exact ⟨rfl, rfl, rfl, fun j z it hz => by simp at hz⟩
  | z :: zs, i, id, fr, st, pan, its, frE, stE, h => by
    have nf : ∀ k, i ≤ k → decide (k < i + 0) = false := fun k hk => by simp; omega
    have nf1 : ∀ k, i + 1 ≤ k → decide (k < i + 0) = false := fun k hk => by simp; omega
    have sh : ∀ j, (fun k => decide (k < i + (j + 1))) = fun k => decide (k < i + 1 + j) := fun j => by funext k; congr 1; rw [show i + (j + 1) = i + 1 + j by omega]
    simp only [drun] at h
    cases hd : deadA pan z.2
    · simp only [hd, cond_false] at h
      cases hw : wantedA fr z.1.guard with
      | none => simp [hw] at h
      | some b =>
        cases b with
        | false =>
          simp only [hw] at h
          obtain ⟨its', rfl, h'⟩ := DR.cons_some h
          obtain ⟨h1, h2, h3, h4⟩ := drun_spec zs _ _ _ _ _ _ _ _ h'
          refine ⟨by simp [h1], by simpa [frL] using h2, ?_, fun j z' it hz hit => ?_⟩
          · simp only [stL, Bool.true_and]; cases z.1.op.effect <;> exact h3
          · cases j with
            | zero =>
              simp only [List.getElem?_cons_zero, Option.some.injEq] at hz hit
              subst hz; subst hit
              exact ⟨(frL_none _ _ _ _ _ nf).symm, (stL_none _ _ _ _ _ nf).symm, .inr ⟨hw, rfl, rfl⟩⟩
            | succ j =>
              simp only [List.getElem?_cons_succ] at hz hit
              have h5 := h4 j z' it hz hit
              cases it with
              | dead =>
                rcases h5 with ⟨p, h6, h7⟩ | ⟨j', a, b, c, d, h6, h7⟩
                · exact .inl ⟨p, h6, h7⟩
                · exact .inr ⟨j' + 1, a, b, c, d, by simpa using h6, by rw [show i + (j' + 1) = i + 1 + j' by omega]; exact h7⟩
              | val a b c d =>
                obtain ⟨h6, h7, h8⟩ := h5
                refine ⟨?_, ?_, h8⟩
                · rw [h6, sh j]; simp only [frL, show decide (i < i + 1 + j) = true by simp; omega, cond_true]
                · rw [h7, sh j]; simp only [stL]; cases decide (i < i + 1 + j) && z.1.op.effect <;> rfl
              | pan a b c d =>
                obtain ⟨h6, h7, h8⟩ := h5
                refine ⟨?_, ?_, h8⟩
                · rw [h6, sh j]; simp only [frL, show decide (i < i + 1 + j) = true by simp; omega, cond_true]
                · rw [h7, sh j]; simp only [stL]; cases decide (i < i + 1 + j) && z.1.op.effect <;> rfl
        | true =>
          simp only [hw] at h
          cases ho : oprD Γ id fr st z.1.op with
          | stuck => simp [ho] at h
          | val v st' =>
            simp only [ho] at h
            obtain ⟨its', rfl, h'⟩ := DR.cons_some h
            obtain ⟨h1, h2, h3, h4⟩ := drun_spec zs _ _ _ _ _ _ _ _ h'
            have hst : (bif z.1.op.effect then st' else st) = st' := by
              cases he : z.1.op.effect
              · exact (still_st he ho).symm
              · rfl
            refine ⟨by simp [h1], by simpa [frL] using h2, ?_, fun j z' it hz hit => ?_⟩
            · simp only [stL, Bool.true_and, hst]; exact h3
            · cases j with
              | zero =>
                simp only [List.getElem?_cons_zero, Option.some.injEq] at hz hit
                subst hz; subst hit
                exact ⟨(frL_none _ _ _ _ _ nf).symm, (stL_none _ _ _ _ _ nf).symm, .inl ⟨hw, ho⟩⟩
              | succ j =>
                simp only [List.getElem?_cons_succ] at hz hit
                have h5 := h4 j z' it hz hit
                cases it with
                | dead =>
                  rcases h5 with ⟨p, h6, h7⟩ | ⟨j', a, b, c, d, h6, h7⟩
                  · exact .inl ⟨p, h6, h7⟩
                  · exact .inr ⟨j' + 1, a, b, c, d, by simpa using h6, by rw [show i + (j' + 1) = i + 1 + j' by omega]; exact h7⟩
                | val a b c d =>
                  obtain ⟨h6, h7, h8⟩ := h5
                  refine ⟨?_, ?_, h8⟩
                  · rw [h6, sh j]; simp only [frL, show decide (i < i + 1 + j) = true by simp; omega, cond_true]
                  · rw [h7, sh j]; simp only [stL, show decide (i < i + 1 + j) = true by simp; omega, Bool.true_and, hst]
                | pan a b c d =>
                  obtain ⟨h6, h7, h8⟩ := h5
                  refine ⟨?_, ?_, h8⟩
                  · rw [h6, sh j]; simp only [frL, show decide (i < i + 1 + j) = true by simp; omega, cond_true]
                  · rw [h7, sh j]; simp only [stL, show decide (i < i + 1 + j) = true by simp; omega, Bool.true_and, hst]
          | pan v st' =>
            simp only [ho] at h
            cases pan with
            | some p => simp at h
            | none =>
              simp only at h
              obtain ⟨its', rfl, h'⟩ := DR.cons_some h
              obtain ⟨h1, h2, h3, h4⟩ := drun_spec zs _ _ _ _ _ _ _ _ h'
              refine ⟨by simp [h1], by simpa [frL] using h2, by simpa [stL] using h3, fun j z' it hz hit => ?_⟩
              cases j with
              | zero =>
                simp only [List.getElem?_cons_zero, Option.some.injEq] at hz hit
                subst hz; subst hit
                exact ⟨(frL_none _ _ _ _ _ nf).symm, (stL_none _ _ _ _ _ nf).symm, hw, ho⟩
              | succ j =>
                simp only [List.getElem?_cons_succ] at hz hit
                have h5 := h4 j z' it hz hit
                cases it with
                | dead =>
                  rcases h5 with ⟨p, h6, h7⟩ | ⟨j', a, b, c, d, h6, h7⟩
                  · injection h6 with h6; subst h6
                    exact .inr ⟨0, fr, st, v, st', rfl, h7⟩
                  · exact .inr ⟨j' + 1, a, b, c, d, by simpa using h6, by rw [show i + (j' + 1) = i + 1 + j' by omega]; exact h7⟩
                | val a b c d =>
                  obtain ⟨h6, h7, h8⟩ := h5
                  exact ⟨by rw [h6, sh j]; simp only [frL], by rw [h7, sh j]; simp only [stL], h8⟩
                | pan a b c d =>
                  obtain ⟨h6, h7, h8⟩ := h5
                  exact ⟨by rw [h6, sh j]; simp only [frL], by rw [h7, sh j]; simp only [stL], h8⟩
    · simp only [hd, cond_true] at h
      obtain ⟨its', rfl, h'⟩ := DR.cons_some h
      obtain ⟨h1, h2, h3, h4⟩ := drun_spec zs _ _ _ _ _ _ _ _ h'
      refine ⟨by simp [h1], by simpa [frL] using h2, by simpa [stL] using h3, fun j z' it hz hit => ?_⟩
      cases j with
      | zero =>
        simp only [List.getElem?_cons_zero, Option.some.injEq] at hz hit
        subst hz; subst hit
        cases pan with
        | none => simp [deadA] at hd
        | some p => exact .inl ⟨p, rfl, hd⟩
      | succ j =>
        simp only [List.getElem?_cons_succ] at hz hit
        have h5 := h4 j z' it hz hit
        cases it with
        | dead =>
          rcases h5 with ⟨p, h6, h7⟩ | ⟨j', a, b, c, d, h6, h7⟩
          · exact .inl ⟨p, h6, h7⟩
          · exact .inr ⟨j' + 1, a, b, c, d, by simpa using h6, by rw [show i + (j' + 1) = i + 1 + j' by omega]; exact h7⟩
        | val a b c d =>
          obtain ⟨h6, h7, h8⟩ := h5
          exact ⟨by rw [h6, sh j]; simp only [frL], by rw [h7, sh j]; simp only [stL], h8⟩
        | pan a b c d =>
          obtain ⟨h6, h7, h8⟩ := h5
          exact ⟨by rw [h6, sh j]; simp only [frL], by rw [h7, sh j]; simp only [stL], h8⟩
theorem drun_pan {Γ : Cg} : ∀ (zs : List (MOper × Nat)) (i id : Nat) (fr : Fr) (st : St) (pan : Option Nat) (its : List DIt) (frE : Fr) (stE : St), drun Γ zs i id fr st pan = some (its, frE, stE) →
    (∀ p, pan = some p → ∀ (j : Nat) (a : Fr) (b : St) (c : AV) (d : St), its[j]? ≠ some (DIt.pan a b c d)) ∧ ∀ (j : Nat) (a : Fr) (b : St) (c : AV) (d : St), its[j]? = some (DIt.pan a b c d) → panOf its = some (c, d)
  | [], i, id, fr, st, pan, its, frE, stE, h => by
    simp only [drun, Option.some.injEq, Prod.mk.injEq] at h
    obtain ⟨rfl, rfl, rfl⟩ := h
    exact ⟨fun _ _ _ _ _ _ _ => by simp, fun _ _ _ _ _ h => by simp at h⟩
  | z :: zs, i, id, fr, st, pan, its, frE, stE, h => by
    simp only [drun] at h
    have go : ∀ it its' pan', (∀ a b c d, it ≠ DIt.pan a b c d) → (pan' = pan) → its = it :: its' → (∀ p, pan' = some p → ∀ (j : Nat) (a : Fr) (b : St) (c : AV) (d : St), its'[j]? ≠ some (DIt.pan a b c d)) → (∀ (j : Nat) (a : Fr) (b : St) (c : AV) (d : St), its'[j]? = some (DIt.pan a b c d) → panOf its' = some (c, d)) →
        (∀ p, pan = some p → ∀ (j : Nat) (a : Fr) (b : St) (c : AV) (d : St), its[j]? ≠ some (DIt.pan a b c d)) ∧ ∀ (j : Nat) (a : Fr) (b : St) (c : AV) (d : St), its[j]? = some (DIt.pan a b c d) → panOf its = some (c, d) := fun it its' pan' hne hp he h1 h2 => by
      subst he; subst hp
      refine ⟨fun p hp j a b c d hj => ?_, fun j a b c d hj => ?_⟩
      · cases j with
        | zero => simp at hj; exact hne _ _ _ _ hj
        | succ j => exact h1 p hp j a b c d (by simpa using hj)
      · cases j with
        | zero => simp at hj; exact absurd hj (hne _ _ _ _)
        | succ j =>
          have := h2 j a b c d (by simpa using hj)
          cases it with
          | dead => exact this
          | val _ _ _ _ => exact this
          | pan a b c d => exact absurd rfl (hne a b c d)
    cases hd : deadA pan z.2
    · simp only [hd, cond_false] at h
      cases hw : wantedA fr z.1.guard with
      | none => simp [hw] at h
      | some b =>
        cases b with
        | false =>
          simp only [hw] at h
          obtain ⟨its', he, h'⟩ := DR.cons_some h
          obtain ⟨h1, h2⟩ := drun_pan zs _ _ _ _ _ _ _ _ h'
          exact go _ its' pan (by simp) rfl he h1 h2
        | true =>
          simp only [hw] at h
          cases ho : oprD Γ id fr st z.1.op with
          | stuck => simp [ho] at h
          | val v st' =>
            simp only [ho] at h
            obtain ⟨its', he, h'⟩ := DR.cons_some h
            obtain ⟨h1, h2⟩ := drun_pan zs _ _ _ _ _ _ _ _ h'
            exact go _ its' pan (by simp) rfl he h1 h2
          | pan v st' =>
            simp only [ho] at h
            cases pan with
            | some p => simp at h
            | none =>
              simp only at h
              obtain ⟨its', rfl, h'⟩ := DR.cons_some h
              obtain ⟨h1, h2⟩ := drun_pan zs _ _ _ _ _ _ _ _ h'
              refine ⟨fun p hp => (by cases hp), fun j a b c d hj => ?_⟩
              cases j with
              | zero => simp only [List.getElem?_cons_zero, Option.some.injEq, DIt.pan.injEq] at hj; simp [panOf, hj]
              | succ j => exact absurd (by simpa using hj) (h1 i rfl j a b c d)
    · simp only [hd, cond_true] at h
      obtain ⟨its', he, h'⟩ := DR.cons_some h
      obtain ⟨h1, h2⟩ := drun_pan zs _ _ _ _ _ _ _ _ h'
      exact go _ its' pan (by simp) rfl he h1 h2
section
variable {md : Region.Mode} {ops : Array Oper} {listed : Array Bool}
def Back (md : Region.Mode) (ops : Array Oper) : Prop := ∀ (i : Nat) (o : Oper), ops[i]? = some o → ∀ e ∈ o.after, Region.binds md e = true → e.on < i
theorem all_listed (hb : Back md ops) (hs : listed.size = ops.size) (hr : Region.ready md ops listed = []) : ∀ i, i < ops.size → listed.getD i false = true := by
  intro i
  induction i using Nat.strongRecOn with
  | _ i ih =>
    intro hi
    cases h : listed.getD i false with
    | true => rfl
    | false =>
      exfalso
      have h' : listed.getD i true = false := by
        rw [Array.getD_eq_getD_getElem?, Array.getElem?_eq_getElem (by omega)] at h ⊢
        simpa using h
      have ho : ops[i]? = some ops[i] := Array.getElem?_eq_getElem hi
      have : i ∈ Region.ready md ops listed := mem_ready.2 ⟨h', ops[i], ho, fun e he hbd => by
        have hlt := hb i _ ho e he hbd
        exact ih e.on hlt (by omega)⟩
      rw [hr] at this
      simp at this
def nlisted (listed : Array Bool) (n : Nat) : Nat := (List.range n).countP fun i => listed.getD i false
theorem nlisted_set {i n : Nat} (hi : i < n) (hs : i < listed.size) (h : listed.getD i false = false) : nlisted (listed.setIfInBounds i true) n = nlisted listed n + 1 := by
  unfold nlisted
  induction n with
  | zero => omega
  | succ n ih =>
    rw [List.range_succ, List.countP_append, List.countP_append]
    by_cases hn : i = n
    · subst hn
      have e1 : ∀ l : List Nat, (∀ j ∈ l, j < i) → l.countP (fun j => (listed.setIfInBounds i true).getD j false) = l.countP (fun j => listed.getD j false) := fun l hl =>
        List.countP_congr fun j hj => by rw [getD_set_ne false (by have := hl j hj; omega)]
      rw [e1 _ fun j hj => List.mem_range.1 hj]
      have e2 : (listed.setIfInBounds i true).getD i false = true := by
        rw [Array.getD_eq_getD_getElem?]; simp [hs]
      simp only [List.countP_cons, List.countP_nil, e2, h, if_true, Bool.false_eq_true, if_false]
    · rw [ih (by omega)]
      have : (listed.setIfInBounds i true).getD n false = listed.getD n false := getD_set_ne false (by omega)
      simp only [List.countP_cons, List.countP_nil, this]
      omega
theorem nlisted_all {n : Nat} (h : nlisted listed n = n) : ∀ i, i < n → listed.getD i false = true := by
  intro i hi
  unfold nlisted at h
  have hl : (List.range n).length = n := List.length_range
  have := (List.countP_eq_length (p := fun i => listed.getD i false) (l := List.range n)).1 (by rw [h, hl])
  exact this i (List.mem_range.2 hi)
end
def ancFold (f : Nat → Nat) (l : List Edge) (s : Nat) : Nat := l.foldl (fun s e => if Region.binds .any e then s ||| 2 ^ e.on ||| f e.on else s) s
def AncOk (ops : Array Oper) (anc : Nat → Nat) : Prop := ∀ (i : Nat) (o : Oper), ops[i]? = some o → anc i = ancFold anc o.after.toList 0
theorem ancFold_bit (f : Nat → Nat) (j : Nat) : ∀ (l : List Edge) (s : Nat), (ancFold f l s).testBit j = true → s.testBit j = true ∨ ∃ e ∈ l, Region.binds .any e = true ∧ (e.on = j ∨ (f e.on).testBit j = true)
  | [], s, h => .inl h
  | e :: l, s, h => by
    simp only [ancFold, List.foldl_cons] at h
    rcases ancFold_bit f j l _ h with h | ⟨e', he, hb⟩
    · split at h
      · rename_i hb
        simp only [Nat.testBit_or, Bool.or_eq_true] at h
        rcases h with (h | h) | h
        · exact .inl h
        · refine .inr ⟨e, by simp, hb, .inl ?_⟩
          rw [Nat.testBit_two_pow] at h
          simpa using h
        · exact .inr ⟨e, by simp, hb, .inr h⟩
      · exact .inl h
    · exact .inr ⟨e', by simp [he], hb⟩
def Closed (ops : Array Oper) (listed : Array Bool) : Prop := ∀ (i : Nat) (o : Oper), ops[i]? = some o → listed.getD i false = true → ∀ e ∈ o.after, Region.binds .any e = true → listed.getD e.on false = true
theorem anc_listed {ops : Array Oper} {listed : Array Bool} {anc : Nat → Nat} (hb : Back .any ops) (ha : AncOk ops anc) (hc : Closed ops listed) : ∀ (i j : Nat) (o : Oper), ops[i]? = some o → listed.getD i false = true → (anc i).testBit j = true → listed.getD j false = true := by
  intro i
  induction i using Nat.strongRecOn with
  | _ i ih =>
    intro j o ho hl hj
    rw [ha i o ho] at hj
    rcases ancFold_bit anc j _ _ hj with h | ⟨e, he, hbd, h⟩
    · simp at h
    · have he' : e ∈ o.after := by simpa using he
      have hlt := hb i o ho e he' hbd
      have hle := hc i o ho hl e he' hbd
      rcases h with rfl | h
      · exact hle
      · have hi : i < ops.size := (Array.getElem?_eq_some_iff.1 ho).1
        exact ih e.on hlt j ops[e.on] (Array.getElem?_eq_getElem (by omega)) hle h
theorem anc_of_ready {ops : Array Oper} {listed : Array Bool} {anc : Nat → Nat} (hb : Back .any ops) (ha : AncOk ops anc) (hc : Closed ops listed) {i j : Nat} {o : Oper} (ho : ops[i]? = some o)
    (hr : ∀ e ∈ o.after, Region.binds .any e = true → listed.getD e.on false = true) (hj : (anc i).testBit j = true) : listed.getD j false = true := by
  rw [ha i o ho] at hj
  rcases ancFold_bit anc j _ _ hj with h | ⟨e, he, hbd, h⟩
  · simp at h
  · have he' : e ∈ o.after := by simpa using he
    have hlt := hb i o ho e he' hbd
    have hle := hr e he' hbd
    rcases h with rfl | h
    · exact hle
    · have hi : i < ops.size := (Array.getElem?_eq_some_iff.1 ho).1
      exact anc_listed hb ha hc e.on j ops[e.on] (Array.getElem?_eq_getElem (by omega)) hle h
theorem Closed.set {ops : Array Oper} {listed : Array Bool} (hc : Closed ops listed) {i : Nat} {o : Oper} (ho : ops[i]? = some o)
    (hr : ∀ e ∈ o.after, Region.binds .any e = true → listed.getD e.on false = true) : Closed ops (listed.setIfInBounds i true) := by
  intro k o' ho' hk e he hbd
  by_cases hki : i = k
  · subst hki
    rw [ho] at ho'; injection ho' with ho'; subst ho'
    exact getD_set_true (hr e he hbd)
  · rw [getD_set_ne false hki] at hk
    exact getD_set_true (hc k o' ho' hk e he hbd)
end Go.AM
