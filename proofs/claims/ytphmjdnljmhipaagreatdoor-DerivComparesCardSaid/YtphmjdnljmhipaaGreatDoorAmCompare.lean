import Derived.Test.YtphmjdnljmhipaaGreatDoorAmRun
import Derived.Test.YtphmjdnljmhipaaGreatDoorAmSh22
set_option linter.unusedSimpArgs false
set_option linter.unusedVariables false
set_option maxRecDepth 100000
namespace Go.AM.D16
open Go Go.AM
open Classical in
theorem derivCompares_calls {a b : Dv} (ha : a.ok) (hb : b.ok) {E : Env} {w : World} {vs : Array Value} (hv : RvL E w [.agg a.cells, .agg b.cells] vs.toList) (hs : Sat E L0 w) :
  ∃ st', Calls Go.Proofs.Tryz.prog 5 vs w (RetR E w (.bool true) st') := by
 obtain ⟨stS, h7⟩ := sane_calls
 obtain ⟨n, hn⟩ : ∃ n, n = a.fz + b.fz + 300000 := ⟨_, rfl⟩
 have hG := withSane_sound (gamT_sound tbl_ok hand_ok n) h7
 obtain ⟨fn, pol, h1, h2⟩ := tbl_ok 5 kf5 t5
 obtain ⟨st', hr⟩ := compare_run (Γ := withSane (gT n) stS) (n := n) (DF := fun _ _ _ _ => none) (st := L0) (stS := stS) ha hb
  (by show (if 7 = 7 /\ [] = [] /\ L0 = L0 then _ else _) = _; rw [if_pos ⟨rfl, rfl, rfl⟩])
  (fun f args s hf => withSane_fn hf) (by omega)
 exact ⟨st', ((abody_sound (n := n) hG h1 h2 (Y0_sound E w) (fun _ _ _ _ _ _ _ _ _ _ _ _ _ _ h => by cases h) hv hs).1 _ _ hr).2⟩
end Go.AM.D16
