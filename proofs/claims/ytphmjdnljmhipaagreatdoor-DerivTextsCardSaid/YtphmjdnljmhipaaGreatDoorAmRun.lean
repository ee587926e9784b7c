import Derived.Test.YtphmjdnljmhipaaGreatDoorAmSane
import Derived.Test.YtphmjdnljmhipaaGreatDoorAmTbl
import Derived.Test.YtphmjdnljmhipaaGreatDoorAmIt6
import Derived.Test.YtphmjdnljmhipaaGreatDoorAmSym3
set_option linter.unusedSimpArgs false
set_option linter.unusedVariables false
set_option maxRecDepth 100000
namespace Go.AM.D16
open Go Go.AM
theorem exts_ok : ExtOk Go.Proofs.Tryz.prog exts := by
 intro f k h
 unfold exts at h
 cases h1 : f.beq 142 with
 | true =>
  obtain rfl := Nat.eq_of_beq_eq_true h1
  rw [h1] at h; simp only [cond_true, Option.some.injEq] at h; subst h
  exact ⟨by decide, _, Go.Proofs.Tryz.func142, by decide, rfl, by rfl, by rfl⟩
 | false =>
  rw [h1] at h
  cases h2 : f.beq 323 with
  | true =>
   obtain rfl := Nat.eq_of_beq_eq_true h2
   rw [h2] at h; simp only [cond_true, cond_false, Option.some.injEq] at h; subst h
   exact ⟨by decide, _, Go.Proofs.Tryz.func323, by decide, rfl, by rfl, by rfl⟩
  | false =>
   rw [h2] at h
   cases h3 : f.beq 349 with
   | true =>
    obtain rfl := Nat.eq_of_beq_eq_true h3
    rw [h3] at h; simp only [cond_true, cond_false, Option.some.injEq] at h; subst h
    exact ⟨by decide, _, Go.Proofs.Tryz.func349, by decide, rfl, by rfl, by rfl⟩
   | false => rw [h3] at h; simp at h
theorem tbl_ok : TblOk Go.Proofs.Tryz.prog tbl := fun f mf h => by
 unfold tbl at h
 cases hb : f.beq 84 <;> rw [hb] at h
 ·exact tblC_ok _ _ f mf h
 ·cases h
theorem hand_ok : HandOk Go.Proofs.Tryz.prog hnd := handI_ok exts_ok Go.Proofs.Tryz.itoa_ok
theorem t7 : tbl 7 = some m7 := by kernel_rfl
open Classical in
noncomputable def withSane (Γ : Gam) (stS : St) : Gam := { Γ with call := fun Y f args st => if f = 7 /\ args = [] /\ st = L0 then .ret (.bool true) stS else Γ.call Y f args st }
theorem withSane_sound {Γ : Gam} {stS : St} (hG : GSound Go.Proofs.Tryz.prog Γ) (h7 : ∀ E w vs, GlobUp Go.Proofs.Tryz.prog E w -> RvL E w [] vs.toList -> Sat E L0 w -> Enters Go.Proofs.Tryz.prog 7 /\ Calls Go.Proofs.Tryz.prog 7 vs w (RetR E w (.bool true) stS)) : GSound Go.Proofs.Tryz.prog (withSane Γ stS) := by
 refine ⟨fun Y E w hY f args st vs ha hs => ?_, hG.ent⟩
 have h := hG.call Y E w hY f args st vs ha hs
 unfold withSane
 simp only
 split
 ·rename_i hc
  obtain ⟨rfl, rfl, rfl⟩ := hc
  refine ⟨fun v st' hv => ?_, fun v st' hv => by cases hv⟩
  simp only [FR.ret.injEq] at hv
  obtain ⟨rfl, rfl⟩ := hv
  exact .inl (h7 E w vs (fun E' w' hx => (hY E' w' hx).2) ha hs)
 ·exact h
theorem sane_calls : ∃ stS, ∀ E w vs, GlobUp Go.Proofs.Tryz.prog E w -> RvL E w [] vs.toList -> Sat E L0 w -> Enters Go.Proofs.Tryz.prog 7 /\ Calls Go.Proofs.Tryz.prog 7 vs w (RetR E w (.bool true) stS) := by
 obtain ⟨fr1, st1, st', hev, hds, hr⟩ := sane_ev
 exact ⟨st', fun E w vs hg ha hs => Ev.calls tbl_ok hand_ok t7 hg ha hs (Nat.zero_le _) hev hds hr⟩
open Classical in
theorem withSane_fn {n : Nat} {stS : St} {f : Nat} {args : List AV} {st : St} (h : f ≠ 7) : ((withSane (gT n) stS).cg Y0).fn f args st = R n Y0 f args st := by
 show (if f = 7 /\ args = [] /\ st = L0 then _ else _) = _
 rw [if_neg (fun e => h e.1)]
 rfl
end Go.AM.D16
