/- Proved: madrigallaw16.DerivTexts returns true for every input, and each argument reads behind the call as it read before (the tied card). Conditions: none beyond the given row's own cells. -/
import Derived.Test.YtphmjdnljmhipaaGreatDoorAmTexts
import Derived.Test.YtphmjdnljmhipaaGreatDoorAmIn6
import Derived.Test.YtphmjdnljmhipaaGreatDoorAmRowF6
import Derived.Test.YtphmjdnljmhipaaGreatDoorAmRowG6
import Derived.Test.YtphmjdnljmhipaaGreatDoorRows
import Derived.Test.YtphmjdnljmhipaaGreatDoorCards
import Derived.Test.YtphmjdnljmhipaaGreatDoorTie
import Derived.ProofKit
import Derived.LaidLaws
import Derived.LaidMore
import Derived.Lay
import Derived.SevenTiedAt
import Derived.MakeChecks
import Derived.ChangeMaps5
import Derived.Lib.LaidTab
set_option linter.unusedSimpArgs false
set_option linter.unusedVariables false
set_option maxRecDepth 100000
namespace Go.Proofs.YtphmjdnljmhipaaGreatDoor
open Go Go.ChangeShapes Go.WideShapes Go.RowKit
theorem Tryz.own' : ownKnob Tryz.prog.godebug = none := by kernel_rfl
theorem Tryz.laidOut' : laidOutB Tryz.prog = true := by kernel_rfl
theorem Tryz.read25 : Tryz.prog.readableRec 25 = true := by kernel_rfl
theorem Tryz.row25 : 25 < Tryz.prog.types.size := by decide +kernel
def env0 (W : World) : AM.Env := { β := fun _ => none, Fz := fun b => b < W.heap.size, Rs := fun _ => False, lr := fun _ => default, Dz := fun _ => False }
theorem trNil' (n : Nat) : (AM.Tr.nil : AM.Tr Nat).get n = none := AM.Tr.getN_nil _ _
theorem sat0 (W : World) : AM.Sat (env0 W) AM.D16.L0 W:={
 dom := fun _ _ h => nomatch h
 fz := fun _ h => h
 obj := fun _ _ _ _ h => nomatch h
 sep := fun _ _ _ _ _ _ _ _ _ h => nomatch h
 lv := fun _ _ _ _ _ h => nomatch h
 rs := fun _ h => False.elim h
 dz := fun _ h => False.elim h
 bt := fun id t h => by
  have h' : (AM.Tr.nil : AM.Tr Nat).get id = some t := h
  rw [trNil'] at h'; cases h'}
theorem below0 {W W' : World} {E' : AM.Env} (h : AM.Ext (env0 W) W E' W') : Below W.heap.size W W' := ⟨h.os, h.tape, h.output, h.size, fun k hk => h.mem k hk⟩
theorem Tryz.pow0 : Tryz.prog.globalNamed "internal/strconv.uint64pow10" = some 0 := by kernel_rfl
theorem laid_tail {P : Program} {x : String × DataW Unit} {r : List (String × DataW Unit)} {w : World} (h : laidMet P (x :: r) w) : laidMet P r w := by
 obtain ⟨ps, hv, hnd, hrows⟩ := h
 obtain ⟨n, d⟩ := x
 obtain ⟨g, t, cs, fuel, p, q, _, _, _, _, hq, rfl⟩ := hv
 exact ⟨q, hq, List.Nodup.sublist (List.sublist_append_right _ _) hnd, fun b off hm => hrows b off (List.mem_append_right _ hm)⟩
theorem tab0 {W : World} (h : laidMetH Tryz.prog Rows.derivTextsRow.laid W) : Lib.TabIs Tryz.prog W "internal/strconv.uint64pow10" .u64 Lib.pow10Tab := by
 rw [MakeChecks.laidMetH_plain _ _ _ (by kernel_rfl)] at h
 have h2 : laidMet Tryz.prog [("internal/strconv.uint64pow10", Lib.tabData .u64 Lib.pow10Tab)] W := laid_tail (x := ("math/bits.deBruijn64tab", Rows.laid_math_bits_deBruijn64tab)) (laid_tail (x := ("math/bits.deBruijn32tab", Rows.laid_math_bits_deBruijn32tab)) h)
 exact Lib.tabIs_of_head (t := 279) (e := 236) (n := 20) (rest := []) Tryz.pow0 (by kernel_rfl) Tryz.underlying279 Tryz.underlying236 (by kernel_rfl) (by kernel_rfl) h2
theorem globUp0 {W : World} (h : laidMetH Tryz.prog Rows.derivTextsRow.laid W) : AM.GlobUp Tryz.prog (env0 W) W := fun E' W' hx => by
 have h0 := tab0 h
 have hb := below0 hx
 show Lib.TabIs Tryz.prog W' _ _ _
 unfold Lib.TabIs World.var? at h0 ⊢
 rw [Tryz.pow0] at h0 ⊢
 simp only [Option.bind_some] at h0 ⊢
 have hlt : 0 < W.heap.size := by
  rcases Nat.lt_or_ge 0 W.heap.size with h' | h'
  ·exact h'
  ·rw [Array.getElem?_eq_none h'] at h0; cases h0
 rw [hb.block 0 hlt]
 exact h0
theorem derivTextsGstand9 : Tryz.pinned.checked.prog.wantsStandIn 9 = false := by kernel_rfl
theorem Tryz.read9 : Tryz.prog.readableRec 9 = true := by kernel_rfl
theorem Tryz.row9 : 9 < Tryz.prog.types.size := by decide +kernel
theorem derivTexts_lifted (os : Os) (started : os.Started) (H : Type) (enc : TypeId × Value -> H) :
  ReturnsInHanded {} Tryz.checked os 6 .any (fun w args => (Rows.derivTextsSpec.pre enc Tryz.prog Tryz.f6 [] false w args /\ laidMetH Tryz.prog Rows.derivTextsRow.laid w) /\ sizedMet enc Tryz.prog Tryz.f6 (OpenSpec.ofChange Rows.derivTextsSpec) false w args)
   (Rows.derivTextsSpec.post enc Tryz.prog Tryz.f6 false true false false) := by
 refine returnsInHanded_of_change_and (C := Tryz.checked) (X := fun w _ => laidMetH Tryz.prog Rows.derivTextsRow.laid w) (fun _ _ _ hh h => h.of_heap hh) Tryz.own' started (by kernel_rfl) Tryz.func6
  (ChangeSpec.witness_shaped (enc := enc) (C := Tryz.checked) (os := os) (X := fun w _ => laidMetH Tryz.prog Rows.derivTextsRow.laid w) false (World.laidAll Tryz.prog os Rows.derivTextsRow.laid) #[.agg #[.int .i64 0, .slice none 0 0, .slice none 0 0], .string ⟨#[]⟩] 8 (World.laidAll_os _ _ _)
   (World.shaped_of_ZipB (by kernel_rfl) (by kernel_rfl)) (by kernel_rfl) (by kernel_rfl) (by kernel_rfl)
   (by rw [MakeChecks.laidMetH_plain _ _ _ (by kernel_rfl)]; exact laidMet_laidAll _ (by kernel_rfl) (by kernel_rfl))) ?_
 intro W base args ds gs before hval0 hW _ _ hL _
 have hW' := hW
 obtain ⟨p, q, hA0, hV, rfl, _, _⟩ := hW
 have hA : DataW.TrodAll enc Tryz.prog W 0 (fun _ => true) true Tryz.f6.params.toList args.toList ds p := hA0
 have hval : ∀ (j : Nat) t v, Tryz.f6.params[j]? = some t -> args[j]? = some v -> Value.okWide Tryz.prog W .any base t v := hval0
 rw [Tryz.params6] at hA hval
 have hlt := DataW.TrodAll.lt hA
 obtain ⟨v0, v1, d0, d1, p0, p1, rfl, rfl, rfl, h0, h1⟩ := trodAll_two hA
 obtain ⟨rfl, rfl⟩ := trodVars_none hV
 simp only [List.append_nil] at hW'
 obtain ⟨a, oka, ra⟩ := AM.D16.arg_in (E := env0 W) (fun b h => h) h0
 have k1 := fun W' (hb : Below W.heap.size W W') => Below.trod Tryz.laidOut' Tryz.read9 Tryz.row9 h1 hb (fun x hx => hlt x (by simp [hx]))
 obtain ⟨b, rfl, rfl, rfl, wb⟩ := Go.ChangeMaps.open_string Tryz.underlying9 (hval 1 9 v1 rfl rfl) h1
 obtain ⟨st', hcall⟩ := AM.D16.derivTexts_calls oka.1 oka.2 (s := b.data.toList.map (·.toNat)) (vs := #[v0, .string b]) (globUp0 hL) ⟨_, _, rfl, ra, _, _, rfl, ⟨b, rfl, rfl⟩, rfl⟩ (sat0 W)
 refine hcall.mono fun e W' ⟨u, E', he, hx, _, hr⟩ => ?_
 have hu : u = .bool true := hr
 subst hu; subst he
 have hb := below0 hx
 refine ⟨_, rfl, _, _, _, [], p0 ++ [], [], hW', trodAll_mk1 (shut_bool Tryz.underlying4 true), ?_, rfl, hb.frame _, fun h => by cases h⟩
 have k0 := Below.trod Tryz.laidOut' Tryz.read25 Tryz.row25 h0 hb (fun x hx => hlt x (by simp [hx]))
 exact trodAll_mk2 k0 (k1 _ hb)
theorem derivTexts_holds : Rows.DerivTextsSaid :=
 OpenClaim.holds_of_wide (p := Tryz.pinned) (s := Rows.derivTextsSpec) (c := Rows.derivTextsRow) 6 Tryz.f6 rfl rfl rfl rfl rfl rfl rfl ⟨rfl, rfl, rfl, rfl, rfl⟩ rfl rfl rfl rfl rfl derivTextsGfn Tryz.func6 derivTextsClosed
  derivTextsGinst derivTextsGwrap (fun os started H enc _ => derivTexts_lifted os started H enc)
theorem derivTexts_card : Rows.DerivTextsCardSaid :=
 Claim7.holds_tied_plain_at (p := Tryz.pinned) (s := OpenSpec.ofChange Rows.derivTextsSpec) (c := Rows.derivTextsRow) .later [] [.data, .data, .data] true (true, "958fdc8dc98ace963a9a757482de460f39a16f955b3339391b41e13669475ba2") true
  derivTexts_holds (fun _ h => by cases h) derivTextsGwf (fun _ h => by cases h) derivTexts_row_tie rfl ⟨rfl, rfl⟩ derivTextsGmain rfl
  (fun f fn hf hfn => by
   obtain rfl : f = 6 := Option.some.inj (derivTextsGfn.symm.trans hf) |>.symm
   obtain rfl : fn = Tryz.f6 := (Option.some.inj (Tryz.func6.symm.trans hfn)).symm
   exact ⟨derivTextsGlooks, fun j t ht => by
    rw [Tryz.params6] at ht
    have hm : t ∈ [25, 9] := by simpa using Array.mem_of_getElem? ht
    have h25 : t = 25 \/ t = 9 := by simpa using hm
    rcases h25 with rfl | rfl
    ·exact derivTextsGstand
    ·exact derivTextsGstand9⟩)
  derivTextsGgoes
end Go.Proofs.YtphmjdnljmhipaaGreatDoor
