import Derived.Test.YtphmjdnljmhipaaGreatDoorAmSh18
import Derived.Test.YtphmjdnljmhipaaGreatDoorAmSh21
set_option linter.unusedSimpArgs false
set_option linter.unusedVariables false
set_option maxRecDepth 100000
namespace Go.AM.D16
open Go Go.AM
noncomputable section
open Nat (reduceEqDiff reduceAdd)
theorem chk_fz {Γ : Cg} {zs : List (MOper × Nat)} {its : List DIt} {id i k a : Nat} {d : Option Nat} {op : MOp} {g : Option (Nat × Bool)} {stE : St} {fr : Fr} {s s1 : St} {v : AV} (hz : zs[i]? = some (⟨d, op, g⟩, a)) (hi : its[i]? = some (.val fr s v s1)) (h : frzLoad op fr = true) : chkB Γ zs its id stE (i, some k) = true := by
 unfold chkB
 simp only [hz, hi, h, Bool.true_or]
 split
 ·split <;> rfl
 ·rfl
def zD : Dv := .mk 0 true false [] true false []
theorem zD_rep (F : Nat -> Prop) (s : St) : RepD F s zD [.int .i64 (.ofNat 0), .nilsl, .nilsl] := by
 unfold zD
 simp only [RepD]
 exact ⟨.nilsl, [], .nilsl, [], rfl, SlR.nil _ _, by simp only [RepTs], SlR.nil _ _, by simp only [RepDs]⟩
def g5_3 : List MOper := [⟨(some 21), .load true 3 (.t 2), none⟩, ⟨(some 22), .load true 3 (.t 3), none⟩, ⟨(some 23), .bslice 2 [(.int .i64 (.ofNat 0)), .nilsl, .nilsl, (.int .i64 (.ofNat 0)), .nilsl, .nilsl] [(0, 3, (.t 21)), (3, 3, (.t 22))], none⟩, ⟨(some 24), .call (.c (.func (.func 8) [] [])) [(.t 23)], none⟩, ⟨(some 25), .un .not (.t 24), none⟩]
def g5_5 : List MOper := [⟨(some 27), .load true 3 (.t 2), none⟩, ⟨(some 28), .call (.c (.func (.func 13) [] [])) [(.t 27)], none⟩, ⟨(some 26), .mv (.t 28), none⟩, ⟨(some 29), .extract 0 (.t 26), none⟩, ⟨(some 30), .extract 1 (.t 26), none⟩, ⟨(some 5), .mv (.t 29), none⟩, ⟨(some 6), .mv (.t 30), none⟩]
def g5_6 : List MOper := [⟨(some 32), .load true 3 (.t 2), none⟩, ⟨(some 33), .call (.c (.func (.func 14) [] [])) [(.t 32)], none⟩, ⟨(some 31), .mv (.t 33), none⟩, ⟨(some 34), .extract 0 (.t 31), none⟩, ⟨(some 35), .extract 1 (.t 31), none⟩, ⟨(some 7), .mv (.t 34), none⟩, ⟨(some 8), .mv (.t 35), none⟩]
def g5_7 : List MOper := [⟨(some 37), .load true 3 (.t 2), none⟩, ⟨(some 38), .call (.c (.func (.func 12) [] [])) [(.t 37)], none⟩, ⟨(some 36), .mv (.t 38), none⟩, ⟨(some 39), .extract 0 (.t 36), none⟩, ⟨(some 40), .extract 1 (.t 36), none⟩, ⟨(some 9), .mv (.t 39), none⟩, ⟨(some 10), .mv (.t 40), none⟩]
def g5_8 : List MOper := [⟨(some 42), .load true 3 (.t 2), none⟩, ⟨(some 43), .call (.c (.func (.func 15) [] [])) [(.t 42)], none⟩, ⟨(some 41), .mv (.t 43), none⟩, ⟨(some 44), .extract 0 (.t 41), none⟩, ⟨(some 45), .extract 1 (.t 41), none⟩, ⟨(some 11), .mv (.t 44), none⟩, ⟨(some 12), .mv (.t 45), none⟩]
def g5_9 : List MOper := [⟨(some 47), .load true 3 (.t 2), none⟩, ⟨(some 48), .load true 3 (.t 3), none⟩, ⟨(some 49), .call (.c (.func (.func 11) [] [])) [(.t 47), (.t 48)], none⟩, ⟨(some 46), .mv (.t 49), none⟩, ⟨(some 50), .extract 0 (.t 46), none⟩, ⟨(some 51), .extract 1 (.t 46), none⟩, ⟨(some 52), .extract 2 (.t 46), none⟩, ⟨(some 13), .alloc [(.int .i64 (.ofNat 0)), .nilsl, .nilsl], none⟩, ⟨none, .store 3 (.t 13) (.t 50), none⟩, ⟨(some 14), .mv (.t 51), none⟩, ⟨(some 15), .mv (.t 52), none⟩]
def g5_10 : List MOper := [⟨(some 54), .load true 3 (.t 2), none⟩, ⟨(some 55), .load true 3 (.t 3), none⟩, ⟨(some 56), .call (.c (.func (.func 16) [] [])) [(.t 54), (.t 55)], none⟩, ⟨(some 53), .mv (.t 56), none⟩, ⟨(some 57), .extract 0 (.t 53), none⟩, ⟨(some 58), .extract 1 (.t 53), none⟩, ⟨(some 59), .extract 2 (.t 53), none⟩, ⟨(some 16), .alloc [(.int .i64 (.ofNat 0)), .nilsl, .nilsl], none⟩, ⟨none, .store 3 (.t 16) (.t 57), none⟩, ⟨(some 17), .mv (.t 58), none⟩, ⟨(some 18), .mv (.t 59), none⟩]
def g5_11 : List (MOper × Nat) := [(⟨(some 60), .load true 3 (.t 2), none⟩, 0), (⟨(some 61), .load true 3 (.t 3), none⟩, 0), (⟨(some 62), .call (.c (.func (.func 10) [] [])) [(.t 60), (.t 61)], none⟩, 3), (⟨(some 63), .load true 3 (.t 2), none⟩, 0), (⟨(some 64), .load true 3 (.t 3), none⟩, 0), (⟨(some 65), .call (.c (.func (.func 17) [] [])) [(.t 63), (.t 64)], none⟩, 31), (⟨(some 66), .bin true .eql (.t 62) (.t 65), none⟩, 63), (⟨(some 67), .mv (.t 66), none⟩, 127), (⟨(some 68), .load true 3 (.t 2), (some (67, true))⟩, 255), (⟨(some 69), .load true 3 (.t 3), (some (67, true))⟩, 255), (⟨(some 70), .call (.c (.func (.func 9) [] [])) [(.t 68), (.t 69)], (some (67, true))⟩, 1023), (⟨(some 71), .load true 3 (.t 2), (some (67, true))⟩, 255), (⟨(some 72), .load true 3 (.t 3), (some (67, true))⟩, 255), (⟨(some 73), .call (.c (.func (.func 18) [] [])) [(.t 71), (.t 72)], (some (67, true))⟩, 8191), (⟨(some 74), .bin false .eql (.t 70) (.t 73), (some (67, true))⟩, 16383), (⟨(some 75), .pick (.t 67) (.t 74) (.c (.bool false)), none⟩, 32767), (⟨(some 76), .mv (.t 75), none⟩, 65535), (⟨(some 77), .mv (.t 5), (some (76, true))⟩, 131071), (⟨(some 78), .mv (.t 7), (some (76, true))⟩, 131071), (⟨(some 79), .bin false .eql (.t 77) (.t 78), (some (76, true))⟩, 524287), (⟨(some 80), .pick (.t 76) (.t 79) (.c (.bool false)), none⟩, 1048575), (⟨(some 81), .mv (.t 80), none⟩, 2097151), (⟨(some 82), .mv (.t 6), (some (81, true))⟩, 4194303), (⟨(some 83), .mv (.t 8), (some (81, true))⟩, 4194303), (⟨(some 84), .bin false .eql (.t 82) (.t 83), (some (81, true))⟩, 16777215), (⟨(some 85), .pick (.t 81) (.t 84) (.c (.bool false)), none⟩, 33554431), (⟨(some 86), .mv (.t 85), none⟩, 67108863), (⟨(some 87), .mv (.t 10), (some (86, true))⟩, 134217727), (⟨(some 88), .mv (.t 12), (some (86, true))⟩, 134217727), (⟨(some 89), .bin false .eql (.t 87) (.t 88), (some (86, true))⟩, 536870911), (⟨(some 90), .pick (.t 86) (.t 89) (.c (.bool false)), none⟩, 1073741823), (⟨(some 91), .mv (.t 90), none⟩, 2147483647), (⟨(some 92), .mv (.t 9), (some (91, true))⟩, 4294967295), (⟨(some 93), .mv (.t 11), (some (91, true))⟩, 4294967295), (⟨(some 94), .call (.c (.func (.func 19) [] [])) [(.t 92), (.t 93), (.c (.func (.func 20) [] []))], (some (91, true))⟩, 17179869183), (⟨(some 95), .pick (.t 91) (.t 94) (.c (.bool false)), none⟩, 34359738367), (⟨(some 96), .mv (.t 95), none⟩, 68719476735), (⟨(some 97), .load true 3 (.t 13), (some (96, true))⟩, 137438953471), (⟨(some 98), .load true 3 (.t 16), (some (96, true))⟩, 137438953471), (⟨(some 99), .call (.c (.func (.func 17) [] [])) [(.t 97), (.t 98)], (some (96, true))⟩, 549755813887), (⟨(some 100), .pick (.t 96) (.t 99) (.c (.bool false)), none⟩, 1099511627775), (⟨(some 101), .mv (.t 100), none⟩, 2199023255551), (⟨(some 102), .mv (.t 14), (some (101, true))⟩, 4398046511103), (⟨(some 103), .mv (.t 17), (some (101, true))⟩, 4398046511103), (⟨(some 104), .bin true .eql (.t 102) (.t 103), (some (101, true))⟩, 17592186044415), (⟨(some 105), .pick (.t 101) (.t 104) (.c (.bool false)), none⟩, 35184372088831), (⟨(some 106), .mv (.t 105), none⟩, 70368744177663), (⟨(some 107), .mv (.t 15), (some (106, true))⟩, 140737488355327), (⟨(some 108), .mv (.t 18), (some (106, true))⟩, 140737488355327), (⟨(some 109), .bin false .eql (.t 107) (.t 108), (some (106, true))⟩, 562949953421311), (⟨(some 110), .pick (.t 106) (.t 109) (.c (.bool false)), none⟩, 1125899906842623), (⟨(some 4), .mv (.t 110), none⟩, 2251799813685247)]
def kf5 : MFunc := ⟨111, (.seq (.region [⟨(some 2), .box true (.t 0), none⟩, ⟨(some 3), .box true (.t 1), none⟩, ⟨(some 4), .mv (.c (.bool false)), none⟩])
 (.seq (.seq (.region [⟨(some 19), .call (.c (.func (.func 7) [] [])) [], none⟩, ⟨(some 20), .un .not (.t 19), none⟩])
 (.cond (.t 20)
 (.seq (.region [⟨(some 4), .mv (.c (.bool false)), none⟩])
 .ret)
 .skip))
 (.seq (.seq (.region g5_3)
 (.cond (.t 25)
 (.seq (.region [⟨(some 4), .mv (.c (.bool true)), none⟩])
 .ret)
 .skip))
 (.seq (.region g5_5)
 (.seq (.region g5_6)
 (.seq (.region g5_7)
 (.seq (.region g5_8)
 (.seq (.region g5_9)
 (.seq (.region g5_10)
 (.seq (.draw g5_11 [(3, some 2), (3, some 5), (4, some 2), (4, some 5), (11, some 10), (11, some 13), (12, some 10), (12, some 13)])
 .ret)))))))))), [.t 4]⟩
theorem t5 : tbl 5 = some kf5 := by kernel_rfl
set_option maxHeartbeats 4000000 in
theorem compare_run {Γ : Gam} {n : Nat} {DF : Nat -> List AV -> St -> DM -> Option (DM × St)} {st stS : St} {d e : Dv} (hd : d.ok) (he : e.ok) (h7 : (Γ.cg Y0).fn 7 [] st = .ret (.bool true) stS) (hfn : ∀ f args s, f ≠ 7 -> (Γ.cg Y0).fn f args s = R n Y0 f args s) (hn : d.fz + e.fz + 300000 <= n) :
  ∃ st', abody Γ Y0 n DF kf5 [.agg d.cells, .agg e.cells] st = .ret (.bool true) st' := by
 have b00 : Nat.beq 0 0 = true := rfl
 have hcd := d.cells3
 have hce := e.cells3
 have hsl8 : slAV false true (Dv.cellsL [d, e]) = .lst 2 (d.cells ++ e.cells) true := by simp only [Dv.cellsL]; simp [slAV]
 obtain ⟨b8, s1, c8⟩ := brief [d, e] false true n Y0 stS (by simp only [Dv.fzL, List.length_cons, List.length_nil]; omega) ⟨hd, he, trivial⟩ (fun h => by cases h) (by simp)
 rw [hsl8] at c8
 have c8' : (Γ.cg Y0).fn 8 [.lst 2 (d.cells ++ e.cells) true] stS = .ret (.bool b8) s1 := by rw [hfn _ _ _ (by decide)]; exact c8
 have hRd : ∀ s, RepD (fun _ => False) s d d.cells := fun s => RepD.line _ s d hd
 have hRe : ∀ s, RepD (fun _ => False) s e e.cells := fun s => RepD.line _ s e he
 have hN : ∀ i : Nat, False -> i < 0 := fun _ h => h.elim
 obtain ⟨s2, c13, k2⟩ := size_run d n Y0 (fun _ => False) s1 d.cells (hRd s1) (fun _ h => h.elim) (by omega)
 have c13' : (Γ.cg Y0).fn 13 [.agg d.cells] s1 = .ret (.tuple [.int .i64 (szD d).1, .int .i64 (szD d).2]) s2 := by rw [hfn _ _ _ (by decide)]; exact c13
 have c14' : (Γ.cg Y0).fn 14 [.agg d.cells] s2 = .ret (.tuple [.int .i64 (szD d).1, .int .i64 (szD d).2]) s2 := by rw [hfn _ _ _ (by decide)]; exact rsize_run d n Y0 (fun _ => False) s2 d.cells (hRd s2) (by omega)
 obtain ⟨lx, s3, c12, k3, hlx⟩ := leavesC_run d n Y0 (fun _ => False) s2 d.cells (hRd s2) (fun _ h => h.elim) (by omega)
 have c12' : (Γ.cg Y0).fn 12 [.agg d.cells] s2 = .ret (.tuple [lx, .int .i64 (.ofNat (if isDv d = true then 0 else 160))]) s3 := by rw [hfn _ _ _ (by decide)]; exact c12
 obtain ⟨ly, s4, c15, k4, hly⟩ := rLeaves_run d n Y0 (fun _ => False) s3 d.cells (hRd s3) (fun _ h => h.elim) (by omega)
 have c15' : (Γ.cg Y0).fn 15 [.agg d.cells] s3 = .ret (.tuple [ly, .int .i64 (.ofNat (if isDv d = true then 0 else 160))]) s4 := by rw [hfn _ _ _ (by decide)]; exact c15
 obtain ⟨cx, is, er1, s5, c11, k5, cx3, hx⟩ := Behind_run d e n Y0 s4 hd he (by omega) (by omega)
 have c11' : (Γ.cg Y0).fn 11 [.agg d.cells, .agg e.cells] s4 = .ret (.tuple [.agg cx, .bool is, .int .i64 er1]) s5 := by rw [hfn _ _ _ (by decide)]; exact c11
 obtain ⟨s6, sto6, k6, g6, n6⟩ := next_el s5 (x := cx) (zs := [.int .i64 (.ofNat 0), .nilsl, .nilsl]) rfl cx3
 obtain ⟨cy, was, er2, s7, c16, k7, cy3, hy⟩ := RBehind_run d e n Y0 s6 hd he (by omega) (by omega)
 have c16' : (Γ.cg Y0).fn 16 [.agg d.cells, .agg e.cells] s6 = .ret (.tuple [.agg cy, .bool was, .int .i64 er2]) s7 := by rw [hfn _ _ _ (by decide)]; exact c16
 obtain ⟨s8, sto8, k8, g8, n8⟩ := next_el s7 (x := cy) (zs := [.int .i64 (.ofNat 0), .nilsl, .nilsl]) rfl cy3
 obtain ⟨s9, c10, k9⟩ := derivSame d e n Y0 hd he (by omega) s8
 have c10' : (Γ.cg Y0).fn 10 [.agg d.cells, .agg e.cells] s8 = .ret (.bool (cmpD d e == 0)) s9 := by rw [hfn _ _ _ (by decide)]; exact c10
 have c17' : (Γ.cg Y0).fn 17 [.agg d.cells, .agg e.cells] s9 = .ret (.bool (cmpD d e == 0)) s9 := by rw [hfn _ _ _ (by decide)]; exact rSameD d e n Y0 (fun _ => False) s9 d.cells e.cells (hRd s9) (hRe s9) (by omega)
 obtain ⟨s10, c9, k10⟩ := derivCompare d e n Y0 hd he (by omega) s9
 have c9' : (Γ.cg Y0).fn 9 [.agg d.cells, .agg e.cells] s9 = .ret (.int .i64 (cmpD d e)) s10 := by rw [hfn _ _ _ (by decide)]; exact c9
 have c18' : (Γ.cg Y0).fn 18 [.agg d.cells, .agg e.cells] s10 = .ret (.int .i64 (cmpD d e)) s10 := by rw [hfn _ _ _ (by decide)]; exact rcmpD d e n Y0 (fun _ => False) s10 d.cells e.cells (hRd s10) (hRe s10) (by omega)
 have nk4 := k4.1
 have nk5 := k5.1
 have nk6 := k6.1
 have nk7 := k7.1
 have nk8 := k8.1
 have nk9 := k9.1
 have nk10 := k10.1
 have K410 : Keeps s4 s10 := ((((k5.trans k6).trans k7).trans k8).trans k9).trans k10
 have K610 : Keeps s6 s10 := ((k7.trans k8).trans k9).trans k10
 have K810 : Keeps s8 s10 := k9.trans k10
 -- the ways
 have hlx10 : LR (fun i => i < s10.next) s10 lx (if isDv d = true then lvP d [] else []) := hlx.mono (Same.of (k4.trans K410) fun i hi => hi) (fun i hi => by omega)
 have hly10 : LR (fun i => i < s10.next) s10 ly (if isDv d = true then lvP d [] else []) := hly.mono (Same.of K410 fun i hi => hi) (fun i hi => by omega)
 have hlb : (if isDv d = true then lvP d [] else []).length <= 4000 /\ ∀ x ∈ (if isDv d = true then lvP d [] else []), x.length <= 400 := by
  by_cases h : isDv d = true
  ·rw [if_pos h]
   obtain ⟨_, h2, h3⟩ := (isDv_iff d).1 h
   have h4 := leaves_le d
   exact ⟨by rw [lvP_len]; omega, lvP_way d [] 400 (by simp only [List.length_nil]; omega)⟩
  ·rw [if_neg h]; exact ⟨by simp, fun x hx => by cases hx⟩
 have c19' : (Γ.cg Y0).fn 19 [lx, ly, .func (.func 20) [] []] s10 = .ret (.bool true) s10 := by
  rw [hfn _ _ _ (by decide)]
  exact equalf_run hlx10 hly10 n Y0 (by omega) (fun x hx => by have := hlb.2 x hx; omega) (by omega) (fun x hx => by have := hlb.2 x hx; omega)
 -- what is behind
 obtain ⟨x, y, hrx, hry, hxy, hfx, hiw, her⟩ : ∃ x y, RepD (fun i => s4.next <= i /\ i < s5.next) s5 x cx /\ RepD (fun i => s6.next <= i /\ i < s7.next) s7 y cy /\ cmpD x y = 0 /\ x.fz + 2 < n /\ is = was /\ er1 = er2 := by
  have hz : zD.fz + 2 < n := by show 20 + 0 + 0 + 0 + 0 + 2 < n; omega
  rcases hx with ⟨hW, rfl, rfl, rfl⟩ | ⟨hWd, hWe, rfl, x, hbx, hx0, hx1⟩
  ·rcases hy with ⟨_, rfl, rfl, rfl⟩ | ⟨h1, h2, _⟩
   ·exact ⟨zD, zD, zD_rep _ _, zD_rep _ _, cmpD_self _, hz, rfl, rfl⟩
   ·rw [h1, h2] at hW; cases hW
  ·rcases hy with ⟨h1, _⟩ | ⟨_, _, rfl, y, hpl, hy0, hy1⟩
   ·rw [hWd, hWe] at h1; cases h1
   ·obtain ⟨rfl, hc⟩ := hpl x is hbx
    cases is with
    | true => exact ⟨x, y, hx1 rfl, hy1 rfl, hc rfl, by have := hbx.fz rfl; omega, rfl, rfl⟩
    | false =>
     rw [hx0 rfl, hy0 rfl]
     exact ⟨zD, zD, zD_rep _ _, zD_rep _ _, cmpD_self _, hz, rfl, rfl⟩
 have c17b : (Γ.cg Y0).fn 17 [.agg cx, .agg cy] s10 = .ret (.bool true) s10 := by
  rw [hfn _ _ _ (by decide)]
  have h1 := hrx.mono (Same.of (k6.trans K610) fun i hi => hi.2) (G := fun i => i < s10.next) (fun i hi => by omega)
  have h2 := hry.mono (Same.of (k8.trans K810) fun i hi => hi.2) (G := fun i => i < s10.next) (fun i hi => by omega)
  have h3 := rSameD x y n Y0 (fun i => i < s10.next) s10 cx cy h1 h2 hfx
  rw [hxy] at h3
  exact h3
 subst hiw
 subst her
 have gx10 : s10.get s5.next = some (.row cx) := K610.get (by omega) g6
 have gy10 : s10.get s7.next = some (.row cy) := K810.get (by omega) g8
 have lx10 := load_row gx10 cx3.1
 have ly10 := load_row gy10 cy3.1
 have exA : ∀ (a b c : AV), extractA 0 (.tuple [a, b, c]) = some a := fun _ _ _ => rfl
 have exB : ∀ (a b c : AV), extractA 1 (.tuple [a, b, c]) = some b := fun _ _ _ => rfl
 have exC : ∀ (a b c : AV), extractA 2 (.tuple [a, b, c]) = some c := fun _ _ _ => rfl
 have eB : ∀ b : Bool, binB true .eql (.bool b) (.bool b) = some (.bool true) := fun b => by rw [eqlB]; cases b <;> rfl
 have eI : ∀ i : Int, binB false .eql (.int .i64 i) (.int .i64 i) = some (.bool true) := fun i => by
  show some (AV.bool (i == i)) = _
  simp
 generalize hdc : d.cells = dc at *
 generalize hec : e.cells = ec at *
 generalize (szD d).1 = z1 at *
 generalize (szD d).2 = z2 at *
 generalize Int.ofNat (if isDv d = true then 0 else 160) = er at *
 generalize (cmpD d e == 0) = bb at *
 generalize cmpD d e = cc at *
 clear c8 c13 c12 c15 c11 c16 c10 c9 hx hy hlx hly hlx10 hly10 hlb hrx hry hRd hRe
 obtain ⟨a, b, c, rfl⟩ : ∃ a b c, dc = [a, b, c] := by
  match dc, hcd.1 with
  | [a, b, c], _ => exact ⟨a, b, c, rfl⟩
 obtain ⟨a', b', c', rfl⟩ : ∃ a b c, ec = [a, b, c] := by
  match ec, hce.1 with
  | [a, b, c], _ => exact ⟨a, b, c, rfl⟩
 have fl8 : fillA [.int .i64 (.ofNat 0), .nilsl, .nilsl, .int .i64 (.ofNat 0), .nilsl, .nilsl] [(0, 3, .agg [a, b, c]), (3, 3, .agg [a', b', c'])] = some [a, b, c, a', b', c'] := rfl
 have c8'' : (Γ.cg Y0).fn 8 [.lst 2 [a, b, c, a', b', c'] true] stS = .ret (.bool b8) s1 := c8'
 have hfin : ∀ (fr : Fr) (s : St), acode Γ Y0 n kf5.code none (frOf 0 [.agg [a, b, c], .agg [a', b', c']] Fr.nil) st = .ret fr s -> fr.ds = [] -> fr.get 4 = some (.bool true) -> abody Γ Y0 n DF kf5 [.agg [a, b, c], .agg [a', b', c']] st = .ret (.bool true) s := fun fr s h hd g => by
  exact body_ret (Nat.le_of_ble_eq_true rfl) h hd (by simp only [kf5, ressA, resA, g, Option.bind_some, Option.map_some])
 obtain ⟨fA1, hA1⟩ : ∃ fA, fA = frOf 0 [.agg [a, b, c], .agg [a', b', c']] Fr.nil := ⟨_, rfl⟩
 have gA1_0 : fA1.get 0 = some (.agg [a, b, c]) := by rw [hA1]; simp only [frOf, Fr.get_set, reduceAdd, reduceEqDiff, ↓reduceIte]
 have gA1_1 : fA1.get 1 = some (.agg [a', b', c']) := by rw [hA1]; simp only [frOf, Fr.get_set, reduceAdd, reduceEqDiff, ↓reduceIte]
 have dA1 : fA1.ds = [] := by rw [hA1]; rfl
 obtain ⟨fR2, hR2, kR2, oR2_2, oR2_3, oR2_4⟩ : ∃ fr', arun (Γ.cg Y0) [⟨(some 2), .box true (.t 0), none⟩, ⟨(some 3), .box true (.t 1), none⟩, ⟨(some 4), .mv (.c (.bool false)), none⟩] fA1 st = .ok fr' st /\ Kp [] fA1 fr' /\ fr'.get 2 = some (.fptr [a, b, c] 0) /\ fr'.get 3 = some (.fptr [a', b', c'] 0) /\ fr'.get 4 = some (.bool false) := ⟨_, by simp only [amE, reduceEqDiff, ↓reduceIte, reduceCtorEq, reduceAdd, gA1_0, gA1_1] <;> rfl, Kp.refl.s.s.s, gn (gn gh), gn gh, gh⟩
 have dR2 := kR2.1.trans dA1
 obtain ⟨fR3, hR3, kR3, oR3_20⟩ : ∃ fr', arun (Γ.cg Y0) [⟨(some 19), .call (.c (.func (.func 7) [] [])) [], none⟩, ⟨(some 20), .un .not (.t 19), none⟩] fR2 st = .ok fr' stS /\ Kp [2, 3, 4] fR2 fr' /\ fr'.get 20 = some (.bool false) := ⟨_, by simp only [amE, reduceEqDiff, ↓reduceIte, reduceCtorEq, reduceAdd, h7, unN, Bool.not_true, Bool.not_false] <;> rfl, Kp.refl.s.s, by simp only [Fr.get_set, reduceEqDiff, ↓reduceIte, amB]⟩
 have gR3_2 := kR3.g 2 oR2_2
 have gR3_3 := kR3.g 3 oR2_3
 have gR3_4 := kR3.g 4 oR2_4
 have dR3 := kR3.1.trans dR2
 obtain ⟨fR4, hR4, kR4, oR4_25⟩ : ∃ fr', arun (Γ.cg Y0) g5_3 fR3 stS = .ok fr' s1 /\ Kp [2, 3, 4] fR3 fr' /\ fr'.get 25 = some (.bool (!b8)) := ⟨_, by simp only [amE, reduceEqDiff, ↓reduceIte, reduceCtorEq, reduceAdd, gR3_2, gR3_3, g5_3, ld3f, fl8, c8'', unN, Bool.not_true, Bool.not_false] <;> rfl, Kp.refl.s.s.s.s.s, gh⟩
 have gR4_2 := kR4.g 2 gR3_2
 have gR4_3 := kR4.g 3 gR3_3
 have gR4_4 := kR4.g 4 gR3_4
 have dR4 := kR4.1.trans dR3
 cases b8 with
 | false =>
  obtain ⟨fR5, hR5, kR5, oR5_4⟩ : ∃ fr', arun (Γ.cg Y0) [⟨(some 4), .mv (.c (.bool true)), none⟩] fR4 s1 = .ok fr' s1 /\ Kp [2, 3] fR4 fr' /\ fr'.get 4 = some (.bool true) := ⟨_, by simp only [amE, reduceEqDiff, ↓reduceIte, reduceCtorEq, reduceAdd] <;> rfl, Kp.refl.s, gh⟩
  have dR5 := kR5.1.trans dR4
  refine ⟨s1, hfin fR5 s1 ?q5 dR5 oR5_4⟩
  case q5 =>
   rw [<- hA1]
   simp only [amE, reduceEqDiff, ↓reduceIte, reduceCtorEq, reduceAdd, kf5, b00, Bool.not_true, Bool.not_false, hR2, hR3, hR4, hR5, oR3_20, oR4_25]
 | true =>
  obtain ⟨fR6, hR6, kR6, oR6_5, oR6_6⟩ : ∃ fr', arun (Γ.cg Y0) g5_5 fR4 s1 = .ok fr' s2 /\ Kp [2, 3, 4] fR4 fr' /\ fr'.get 5 = some (.int .i64 z1) /\ fr'.get 6 = some (.int .i64 z2) := ⟨_, by simp only [amE, reduceEqDiff, ↓reduceIte, reduceCtorEq, reduceAdd, gR4_2, g5_5, ld3f, c13', ex20, ex21] <;> rfl, Kp.refl.s.s.s.s.s.s.s, gn gh, gh⟩
  have gR6_2 := kR6.g 2 gR4_2
  have gR6_3 := kR6.g 3 gR4_3
  have gR6_4 := kR6.g 4 gR4_4
  have dR6 := kR6.1.trans dR4
  obtain ⟨fR7, hR7, kR7, oR7_7, oR7_8⟩ : ∃ fr', arun (Γ.cg Y0) g5_6 fR6 s2 = .ok fr' s2 /\ Kp [2, 3, 4, 5, 6] fR6 fr' /\ fr'.get 7 = some (.int .i64 z1) /\ fr'.get 8 = some (.int .i64 z2) := ⟨_, by simp only [amE, reduceEqDiff, ↓reduceIte, reduceCtorEq, reduceAdd, gR6_2, g5_6, ld3f, c14', ex20, ex21] <;> rfl, Kp.refl.s.s.s.s.s.s.s, gn gh, gh⟩
  have gR7_2 := kR7.g 2 gR6_2
  have gR7_3 := kR7.g 3 gR6_3
  have gR7_4 := kR7.g 4 gR6_4
  have gR7_5 := kR7.g 5 oR6_5
  have gR7_6 := kR7.g 6 oR6_6
  have dR7 := kR7.1.trans dR6
  obtain ⟨fR8, hR8, kR8, oR8_9, oR8_10⟩ : ∃ fr', arun (Γ.cg Y0) g5_7 fR7 s2 = .ok fr' s3 /\ Kp [2, 3, 4, 5, 6, 7, 8] fR7 fr' /\ fr'.get 9 = some (lx) /\ fr'.get 10 = some (.int .i64 er) := ⟨_, by simp only [amE, reduceEqDiff, ↓reduceIte, reduceCtorEq, reduceAdd, gR7_2, g5_7, ld3f, c12', ex20, ex21] <;> rfl, Kp.refl.s.s.s.s.s.s.s, gn gh, gh⟩
  have gR8_2 := kR8.g 2 gR7_2
  have gR8_3 := kR8.g 3 gR7_3
  have gR8_4 := kR8.g 4 gR7_4
  have gR8_5 := kR8.g 5 gR7_5
  have gR8_6 := kR8.g 6 gR7_6
  have gR8_7 := kR8.g 7 oR7_7
  have gR8_8 := kR8.g 8 oR7_8
  have dR8 := kR8.1.trans dR7
  obtain ⟨fR9, hR9, kR9, oR9_11, oR9_12⟩ : ∃ fr', arun (Γ.cg Y0) g5_8 fR8 s3 = .ok fr' s4 /\ Kp [2, 3, 4, 5, 6, 7, 8, 9, 10] fR8 fr' /\ fr'.get 11 = some (ly) /\ fr'.get 12 = some (.int .i64 er) := ⟨_, by simp only [amE, reduceEqDiff, ↓reduceIte, reduceCtorEq, reduceAdd, gR8_2, g5_8, ld3f, c15', ex20, ex21] <;> rfl, Kp.refl.s.s.s.s.s.s.s, gn gh, gh⟩
  have gR9_2 := kR9.g 2 gR8_2
  have gR9_3 := kR9.g 3 gR8_3
  have gR9_4 := kR9.g 4 gR8_4
  have gR9_5 := kR9.g 5 gR8_5
  have gR9_6 := kR9.g 6 gR8_6
  have gR9_7 := kR9.g 7 gR8_7
  have gR9_8 := kR9.g 8 gR8_8
  have gR9_9 := kR9.g 9 oR8_9
  have gR9_10 := kR9.g 10 oR8_10
  have dR9 := kR9.1.trans dR8
  obtain ⟨fR10, hR10, kR10, oR10_13, oR10_14, oR10_15⟩ : ∃ fr', arun (Γ.cg Y0) g5_9 fR9 s4 = .ok fr' s6 /\ Kp [2, 3, 4, 5, 6, 7, 8, 9, 10, 11, 12] fR9 fr' /\ fr'.get 13 = some (.ptr s5.next 0) /\ fr'.get 14 = some (.bool is) /\ fr'.get 15 = some (.int .i64 er1) := ⟨_, by simp only [amE, reduceEqDiff, ↓reduceIte, reduceCtorEq, reduceAdd, gR9_2, gR9_3, g5_9, ld3f, c11', exA, exB, exC, sto6] <;> rfl, Kp.refl.s.s.s.s.s.s.s.s.s.s, gn (gn gh), gn gh, gh⟩
  have gR10_2 := kR10.g 2 gR9_2
  have gR10_3 := kR10.g 3 gR9_3
  have gR10_4 := kR10.g 4 gR9_4
  have gR10_5 := kR10.g 5 gR9_5
  have gR10_6 := kR10.g 6 gR9_6
  have gR10_7 := kR10.g 7 gR9_7
  have gR10_8 := kR10.g 8 gR9_8
  have gR10_9 := kR10.g 9 gR9_9
  have gR10_10 := kR10.g 10 gR9_10
  have gR10_11 := kR10.g 11 oR9_11
  have gR10_12 := kR10.g 12 oR9_12
  have dR10 := kR10.1.trans dR9
  obtain ⟨fR11, hR11, kR11, oR11_16, oR11_17, oR11_18⟩ : ∃ fr', arun (Γ.cg Y0) g5_10 fR10 s6 = .ok fr' s8 /\ Kp [2, 3, 4, 5, 6, 7, 8, 9, 10, 11, 12, 13, 14, 15] fR10 fr' /\ fr'.get 16 = some (.ptr s7.next 0) /\ fr'.get 17 = some (.bool is) /\ fr'.get 18 = some (.int .i64 er1) := ⟨_, by simp only [amE, reduceEqDiff, ↓reduceIte, reduceCtorEq, reduceAdd, gR10_2, gR10_3, g5_10, ld3f, c16', exA, exB, exC, sto8] <;> rfl, Kp.refl.s.s.s.s.s.s.s.s.s.s, gn (gn gh), gn gh, gh⟩
  have gR11_2 := kR11.g 2 gR10_2
  have gR11_3 := kR11.g 3 gR10_3
  have gR11_4 := kR11.g 4 gR10_4
  have gR11_5 := kR11.g 5 gR10_5
  have gR11_6 := kR11.g 6 gR10_6
  have gR11_7 := kR11.g 7 gR10_7
  have gR11_8 := kR11.g 8 gR10_8
  have gR11_9 := kR11.g 9 gR10_9
  have gR11_10 := kR11.g 10 gR10_10
  have gR11_11 := kR11.g 11 gR10_11
  have gR11_12 := kR11.g 12 gR10_12
  have gR11_13 := kR11.g 13 oR10_13
  have gR11_14 := kR11.g 14 oR10_14
  have gR11_15 := kR11.g 15 oR10_15
  have dR11 := kR11.1.trans dR10
  obtain ⟨fD, hD, kD, oD⟩ : ∃ fr', adraw (Γ.cg Y0) g5_11 [(3, some 2), (3, some 5), (4, some 2), (4, some 5), (11, some 10), (11, some 13), (12, some 10), (12, some 13)] fR11 s8 = .ok fr' s10 /\ Kp [] fR11 fr' /\ fr'.get 4 = some (.bool true) := by
   refine ⟨?da, ?db, ?dc, ?dd⟩
   case db =>
    refine adraw_ok (its := ?di) ?dx ?dy ?dz
    case dx =>
     simp only [amE, reduceEqDiff, ↓reduceIte, reduceCtorEq, reduceAdd, g5_11, drun_cons, drun_g, drun_nil, DR.cons, oprD, nextId, preA, gR11_2, gR11_3, gR11_4, gR11_5, gR11_6, gR11_7, gR11_8, gR11_9, gR11_10, gR11_11, gR11_12, gR11_13, gR11_14, gR11_15, oR11_16, oR11_17, oR11_18, ld3f, c10', c17', eB, c9', c18', eI, c19', lx10, ly10, c17b, Bool.not_true, Bool.not_false]
     rfl
    case dy => rfl
    case dz =>
     simp only [List.all_cons, List.all_nil, Bool.and_true, Bool.and_eq_true]
     refine ⟨chk_fz rfl rfl ?_, chk_fz rfl rfl ?_, chk_fz rfl rfl ?_, chk_fz rfl rfl ?_, chk_fz rfl rfl ?_, chk_fz rfl rfl ?_, chk_fz rfl rfl ?_, chk_fz rfl rfl ?_⟩
     all_goals simp only [amE, reduceEqDiff, ↓reduceIte, reduceCtorEq, reduceAdd, frzLoad, gR11_2, gR11_3]
   case dc => repeat (first | exact Kp.refl | refine Kp.set (by decide) ?_)
   case dd => simp only [Fr.get_set, reduceEqDiff, ↓reduceIte]
  have dD := kD.1.trans dR11
  refine ⟨s10, hfin fD s10 ?q11 dD oD⟩
  case q11 =>
   rw [<- hA1]
   simp only [amE, reduceEqDiff, ↓reduceIte, reduceCtorEq, reduceAdd, kf5, b00, Bool.not_true, Bool.not_false, hR2, hR3, hR4, hR6, hR7, hR8, hR9, hR10, hR11, hD, oR3_20, oR4_25]
end
end Go.AM.D16
