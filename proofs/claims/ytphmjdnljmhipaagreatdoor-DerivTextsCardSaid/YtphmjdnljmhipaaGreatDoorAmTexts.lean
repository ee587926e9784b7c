import Derived.Test.YtphmjdnljmhipaaGreatDoorAmRun
import Derived.Test.YtphmjdnljmhipaaGreatDoorAmTx
set_option linter.unusedSimpArgs false
set_option linter.unusedVariables false
set_option maxRecDepth 100000
namespace Go.AM.D16
open Go Go.AM
open Classical in
theorem derivTexts_calls {a : Dv} {s : List Nat} (ha : a.ok) (hi : a.i6) {E : Env} {w : World} {vs : Array Value} (hg : GlobUp Go.Proofs.Tryz.prog E w) (hv : RvL E w [.agg a.cells, .str s] vs.toList) (hs : Sat E L0 w) :
  ∃ st', Calls Go.Proofs.Tryz.prog 6 vs w (RetR E w (.bool true) st') := by
 obtain ⟨stS, h7⟩ := sane_calls
 obtain ⟨k, hk⟩ : ∃ k, ∀ d p, pD s (s.length + 1) 0 = .ok d p -> d.fz + 5000 <= k := by
  cases h : pD s (s.length + 1) 0 with
  | err e => exact ⟨0, fun d p h => by cases h⟩
  | ok d p => exact ⟨d.fz + 5000, fun d' p' h => by injection h with h1 h2; subst h1; exact Nat.le_refl _⟩
 obtain ⟨n, hn⟩ : ∃ n, n = a.fz + 3 * s.length + 300000 + k + (rdS s).1.fz := ⟨_, rfl⟩
 have hG := withSane_sound (gamT_sound tbl_ok hand_ok n) h7
 obtain ⟨fn, pol, h1, h2⟩ := tbl_ok 6 kf6 t6
 obtain ⟨st', hr⟩ := texts_run (Γ := withSane (gT n) stS) (n := n) (DF := fun _ _ _ _ => none) (st := L0) (stS := stS) (d := a) (s := s) ha hi
  (by show (if 7 = 7 /\ [] = [] /\ L0 = L0 then _ else _) = _; rw [if_pos ⟨rfl, rfl, rfl⟩])
  (fun f args s hf => withSane_fn hf) (by omega) (fun d p h => by have := hk d p h; omega) (by omega)
 exact ⟨st', ((abody_sound (n := n) hG h1 h2 (Y0_sound hg) (fun _ _ _ _ _ _ _ _ _ _ _ _ _ _ h => by cases h) hv hs).1 _ _ hr).2⟩
end Go.AM.D16
