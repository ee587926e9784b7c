/- Proved: madrigallaw16.DerivOrder returns true for every input, and each argument reads behind the call as it read before (the tied card). Conditions: none beyond the given row's own cells. -/
import Derived.Test.YtphmjdnljmhipaaGreatDoorAmSym7
import Derived.Test.YtphmjdnljmhipaaGreatDoorAmIn
import Derived.Test.YtphmjdnljmhipaaGreatDoorAmRowF3
import Derived.Test.YtphmjdnljmhipaaGreatDoorAmRowG3
import Derived.Test.YtphmjdnljmhipaaGreatDoorRows
import Derived.Test.YtphmjdnljmhipaaGreatDoorCards
import Derived.Test.YtphmjdnljmhipaaGreatDoorTie
import Derived.ProofKit
import Derived.LaidLaws
import Derived.LaidMore
import Derived.Lay
import Derived.SevenTiedAt
import Derived.MakeChecks
set_option linter.unusedSimpArgs false
set_option linter.unusedVariables false
set_option maxRecDepth 100000
namespace Go.Proofs.YtphmjdnljmhipaaGreatDoor
open Go Go.ChangeShapes Go.WideShapes Go.RowKit

theorem Tryz.own' : ownKnob Tryz.prog.godebug = none := by kernel_rfl
theorem Tryz.laidOut' : laidOutB Tryz.prog = true := by kernel_rfl
theorem Tryz.read25 : Tryz.prog.readableRec 25 = true := by kernel_rfl
theorem Tryz.row25 : 25 < Tryz.prog.types.size := by decide +kernel

/-- All blocks of the start are never written. -/
def env0 (W : World) : AM.Env := { β := fun _ => none, Fz := fun b => b < W.heap.size, Rs := fun _ => False, lr := fun _ => default, Dz := fun _ => False }
theorem trNil (n : Nat) : (AM.Tr.nil : AM.Tr AM.AO).get n = none := AM.Tr.getN_nil _ _
theorem trNil' (n : Nat) : (AM.Tr.nil : AM.Tr Nat).get n = none := AM.Tr.getN_nil _ _
theorem sat0 (W : World) : AM.Sat (env0 W) AM.D16.L0 W:={
  dom := fun _ _ h => nomatch h
  fz := fun _ h => h
  obj := fun _ _ _ _ h => nomatch h
  sep := fun _ _ _ _ _ _ _ _ _ h => nomatch h
  lv := fun _ _ _ _ _ h => nomatch h
  rs := fun _ h => False.elim h
  dz := fun _ h => False.elim h
  bt := fun id t h => by
    have h' : (AM.Tr.nil : AM.Tr Nat).get id = some t := h
    rw [trNil'] at h'; cases h'}
theorem below0 {W W' : World} {E' : AM.Env} (h : AM.Ext (env0 W) W E' W') : Below W.heap.size W W' := ⟨h.os, h.tape, h.output, h.size, fun k hk => h.mem k hk⟩


theorem derivOrder_lifted (os : Os) (started : os.Started) (H : Type) (enc : TypeId × Value → H) :
    ReturnsInHanded {} Tryz.checked os 3 .any (fun w args => (Rows.derivOrderSpec.pre enc Tryz.prog Tryz.f3 [] false w args ∧ laidMetH Tryz.prog Rows.derivOrderRow.laid w) ∧ sizedMet enc Tryz.prog Tryz.f3 (OpenSpec.ofChange Rows.derivOrderSpec) false w args)
      (Rows.derivOrderSpec.post enc Tryz.prog Tryz.f3 false true false false) := by
  refine returnsInHanded_of_change_and (C := Tryz.checked) (X := fun w _ => laidMetH Tryz.prog Rows.derivOrderRow.laid w) (fun _ _ _ hh h => h.of_heap hh) Tryz.own' started (by kernel_rfl) Tryz.func3
    (ChangeSpec.witness_shaped (enc := enc) (C := Tryz.checked) (os := os) (X := fun w _ => laidMetH Tryz.prog Rows.derivOrderRow.laid w) false (World.laidAll Tryz.prog os Rows.derivOrderRow.laid) #[.agg #[.int .i64 0, .slice none 0 0, .slice none 0 0], .agg #[.int .i64 0, .slice none 0 0, .slice none 0 0], .agg #[.int .i64 0, .slice none 0 0, .slice none 0 0]] 8 (World.laidAll_os _ _ _)
      (World.shaped_of_ZipB (by kernel_rfl) (by kernel_rfl)) (by kernel_rfl) (by kernel_rfl) (by kernel_rfl)
      (by rw [MakeChecks.laidMetH_plain _ _ _ (by kernel_rfl)]; exact laidMet_laidAll _ (by kernel_rfl) (by kernel_rfl))) ?_
  intro W base args ds gs before hval0 hW _ _ hL _
  have hW' := hW
  obtain ⟨p, q, hA0, hV, rfl, _, _⟩ := hW
  have hA : DataW.TrodAll enc Tryz.prog W 0 (fun _ => true) true Tryz.f3.params.toList args.toList ds p := hA0
  rw [Tryz.params3] at hA
  have hlt := DataW.TrodAll.lt hA
  obtain ⟨v0, v1, v2, d0, d1, d2, p0, p1, p2, rfl, rfl, rfl, h0, h1, h2⟩ := trodAll_three hA
  obtain ⟨rfl, rfl⟩ := trodVars_none hV
  simp only [List.append_nil] at hW'
  obtain ⟨a, oka, ra⟩ := AM.D16.arg_in (E := env0 W) (fun b h => h) h0
  obtain ⟨b, okb, rb⟩ := AM.D16.arg_in (E := env0 W) (fun b h => h) h1
  obtain ⟨c, okc, rc⟩ := AM.D16.arg_in (E := env0 W) (fun b h => h) h2
  obtain ⟨st', hcall⟩ := AM.D16.derivOrder_calls oka okb okc (vs := #[v0, v1, v2]) ⟨_, _, rfl, ra, _, _, rfl, rb, _, _, rfl, rc, rfl⟩ (sat0 W)
  refine hcall.mono fun e W' ⟨u, E', he, hx, _, hr⟩ => ?_
  have hu : u = .bool true := hr
  subst hu; subst he
  have hb := below0 hx
  refine ⟨_, rfl, _, _, _, [], p0 ++ (p1 ++ p2), [], hW', trodAll_mk1 (shut_bool Tryz.underlying4 true), ?_, rfl, hb.frame _, fun h => by cases h⟩
  have k0 := Below.trod Tryz.laidOut' Tryz.read25 Tryz.row25 h0 hb (fun x hx => hlt x (by simp [hx]))
  have k1 := Below.trod Tryz.laidOut' Tryz.read25 Tryz.row25 h1 hb (fun x hx => hlt x (by simp [hx]))
  have k2 := Below.trod Tryz.laidOut' Tryz.read25 Tryz.row25 h2 hb (fun x hx => hlt x (by simp [hx]))
  exact ⟨p0, p1 ++ p2, k0, trodAll_mk2 k1 k2, rfl⟩

theorem derivOrder_holds : Rows.DerivOrderSaid :=
  OpenClaim.holds_of_wide (p := Tryz.pinned) (s := Rows.derivOrderSpec) (c := Rows.derivOrderRow) 3 Tryz.f3 rfl rfl rfl rfl rfl rfl rfl ⟨rfl, rfl, rfl, rfl, rfl⟩ rfl rfl rfl rfl rfl derivOrderGfn Tryz.func3 derivOrderClosed
    derivOrderGinst derivOrderGwrap (fun os started H enc _ => derivOrder_lifted os started H enc)

theorem derivOrder_card : Rows.DerivOrderCardSaid :=
  Claim7.holds_tied_plain_at (p := Tryz.pinned) (s := OpenSpec.ofChange Rows.derivOrderSpec) (c := Rows.derivOrderRow) .later [] [.data, .data, .data] true (true, "958fdc8dc98ace963a9a757482de460f39a16f955b3339391b41e13669475ba2") true
    derivOrder_holds (fun _ h => by cases h) derivOrderGwf (fun _ h => by cases h) derivOrder_row_tie rfl ⟨rfl, rfl⟩ derivOrderGmain rfl
    (fun f fn hf hfn => by
      obtain rfl : f = 3 := Option.some.inj (derivOrderGfn.symm.trans hf) |>.symm
      obtain rfl : fn = Tryz.f3 := (Option.some.inj (Tryz.func3.symm.trans hfn)).symm
      exact ⟨derivOrderGlooks, fun j t ht => by
        rw [Tryz.params3] at ht
        have hm : t ∈ [25, 25, 25] := by simpa using Array.mem_of_getElem? ht
        have h25 : t = 25 := by simpa using hm
        subst h25
        exact derivOrderGstand⟩)
    derivOrderGgoes
end Go.Proofs.YtphmjdnljmhipaaGreatDoor
