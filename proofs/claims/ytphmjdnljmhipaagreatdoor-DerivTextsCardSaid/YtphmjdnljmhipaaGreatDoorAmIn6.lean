import Derived.Test.YtphmjdnljmhipaaGreatDoorAmWr5
import Derived.Test.YtphmjdnljmhipaaGreatDoorProg
import Derived.ChangeArms
import Derived.KernelRfl
set_option linter.unusedSimpArgs false
set_option linter.unusedVariables false
set_option maxRecDepth 100000
namespace Go.AM.D16
open Go Go.AM Go.Proofs
section
variable {H : Type} {enc : TypeId × Value -> H} {E : Env} {w : World}
theorem lt_of_cell {a : Addr} {x : Value} (h : w.cell? a = some x) : a.block < w.heap.size := by
 unfold World.cell? at h
 cases hb : w.heap[a.block]? with
 | none => rw [hb] at h; cases h
 | some o => exact (Array.getElem?_eq_some_iff.1 hb).1
theorem cells3_at {a : Addr} {cs : List Value} (h : w.cells? 0 a 3 = some cs) : ∃ x y z, cs = [x, y, z] /\ w.cell? a = some x /\ w.cell? (a.add 1) = some y /\ w.cell? (a.add 2) = some z := by
 unfold World.cells? at h
 rw [if_pos (Nat.zero_le _)] at h
 have hr : List.range 3 = [0, 1, 2] := rfl
 rw [hr] at h
 simp only [List.mapM_cons, List.mapM_nil, Option.pure_def, Option.bind_eq_bind, Option.bind_eq_some_iff, Option.some.injEq] at h
 obtain ⟨x, hx, l1, ⟨y, hy, l2, ⟨z, hz, l3, h3, rfl⟩, rfl⟩, rfl⟩ := h
 subst h3
 refine ⟨x, y, z, rfl, ?_, hy, hz⟩
 simpa [Addr.add] using hx
theorem rvMem_app {a : Addr} : ∀ (l : List AV) (i : Nat) (l' : List AV), RvMem E w a i l -> RvMem E w a (i + l.length) l' -> RvMem E w a i (l ++ l')
 | [], i, l', _, h => by simpa using h
 | c :: l, i, l', ⟨h1, h2⟩, h => ⟨h1, rvMem_app l (i + 1) l' h2 (by
   have e : i + 1 + l.length = i + (c :: l).length := by simp only [List.length_cons]; omega
   rw [e]; exact h)⟩
theorem sl_in {T : Type} {cells : T -> List AV} {ok : T -> Prop} {P : Program} {e t : TypeId} (hE : ∀ b, b < w.heap.size -> E.Fz b) (hc : P.cellsOf e = 3) (h3 : ∀ t, (cells t).length = 3) (ht : P.underlying t = some (.slice e)) {fuel : Nat}
  (IH : ∀ n, n < fuel -> ∀ cs x, DataW.trod enc P w 0 (fun _ => true) true n e cs = some x -> ∃ t, ok t /\ RvL E w (cells t) cs) {cs : List Value} {x : DataW H × List MemPlace} (h : DataW.trod enc P w 0 (fun _ => true) true fuel t cs = some x) :
  ∃ (nl ex : Bool) (l : List T) (v : Value), cs = [v] /\ (nl = true -> l = []) /\ l.length <= 9223372036854775807 /\ (∀ t ∈ l, ok t) /\ Rv E w (slAV nl ex (l.map cells)) v := by
 rcases DataW.trod_slice ht h with ⟨rfl, _⟩ | ⟨a, len, cap, elems, rest, n, rfl, rfl, _, _, hl, hcap, hlen, hel, _, _⟩
 ·exact ⟨true, true, [], _, rfl, fun _ => rfl, by simp, by simp, rfl⟩
 ·have key : ∀ k i, i + k = len -> ∃ l : List T, l.length = k /\ (∀ t ∈ l, ok t) /\ RvMem E w a (i * 3) (l.map cells).flatten /\ (k ≠ 0 -> E.Fz a.block) := by
   intro k
   induction k with
   | zero => intro i _; exact ⟨[], rfl, by simp, trivial, fun h => absurd rfl h⟩
   | succ k ih =>
    intro i hi
    obtain ⟨l, h1, h2, h4, _⟩ := ih (i + 1) (by omega)
    have hi' := hel i (by omega)
    have hs : ∃ y, elems[i]? = some y := ⟨elems[i]'(by omega), List.getElem?_eq_getElem (by omega)⟩
    obtain ⟨y, hy⟩ := hs
    rw [hy, hc] at hi'
    obtain ⟨cs, hcs, htr⟩ := Option.bind_eq_some_iff.1 hi'
    obtain ⟨t, hok, hrv⟩ := IH n (by omega) cs y htr
    obtain ⟨p, q, r, rfl, e1, e2, e3⟩ := cells3_at hcs
    obtain ⟨a1, a2, a3, ha⟩ : ∃ x y z, cells t = [x, y, z] := by
     have := h3 t
     match hct : cells t, this with
     | [x, y, z], _ => exact ⟨x, y, z, rfl⟩
    rw [ha] at hrv
    obtain ⟨u1, _, e, r1, u2, _, e', r2, u3, _, e'', r3, e3'⟩ := hrv
    obtain ⟨rfl, rfl⟩ := List.cons.inj e
    obtain ⟨rfl, rfl⟩ := List.cons.inj e'
    obtain ⟨rfl, rfl⟩ := List.cons.inj e''
    have hfz : E.Fz a.block := hE _ (by have := lt_of_cell e1; rw [add_block] at this; exact this)
    refine ⟨t :: l, by simp [h1], fun x hx => ?_, ?_, fun _ => hfz⟩
    ·rcases List.mem_cons.1 hx with rfl | hx
     ·exact hok
     ·exact h2 x hx
    ·simp only [List.map_cons, List.flatten_cons]
     refine rvMem_app _ _ _ ?_ ?_
     ·rw [ha]
      rw [add_add] at e2 e3
      exact ⟨⟨_, e1, r1⟩, ⟨_, e2, r2⟩, ⟨_, e3, r3⟩, trivial⟩
     ·rw [h3 t, show i * 3 + 3 = (i + 1) * 3 by omega]; exact h4
  obtain ⟨l, h1, h2, h4, h5⟩ := key len 0 (by omega)
  refine ⟨false, decide (cap = len), l, _, rfl, (fun h => nomatch h), ?_, h2, ?_⟩
  ·have : maxLen = 9223372036854775807 := by decide
   omega
  ·simp only [slAV, cond_false]
   refine ⟨a, cap, ?_, ?_, fun h => by have := of_decide_eq_true h; simp [h1, this], fun hne => h5 (fun h0 => ?_), ?_⟩
   ·simp [h1]
   ·simpa [h1] using hl
   ·rw [h0] at h1
    obtain rfl := List.eq_nil_of_length_eq_zero h1
    exact hne rfl
   ·simpa using h4
theorem okL_of {l : List Tm} (h : ∀ t ∈ l, t.ok /\ t.i6) : Tm.okL l /\ Tm.i6L l := by
 induction l with
 | nil => exact ⟨trivial, trivial⟩
 | cons t l ih =>
  have i := ih fun x hx => h x (by simp [hx])
  have j := h t (by simp)
  exact ⟨⟨j.1, i.1⟩, j.2, i.2⟩
theorem dokL_of {l : List Dv} (h : ∀ t ∈ l, t.ok /\ t.i6) : Dv.okL l /\ Dv.i6L l := by
 induction l with
 | nil => exact ⟨trivial, trivial⟩
 | cons t l ih =>
  have i := ih fun x hx => h x (by simp [hx])
  have j := h t (by simp)
  exact ⟨⟨j.1, i.1⟩, j.2, i.2⟩
theorem in64_of {k : Int} (h : (Lit.int .i64 k).wf = true) : in64 k = true := by
 have h' : (decide (IntKind.i64.min <= k) && decide (k <= IntKind.i64.max)) = true := h
 rw [Bool.and_eq_true, decide_eq_true_eq, decide_eq_true_eq] at h'
 have e1 : IntKind.i64.min = -9223372036854775808 := by decide
 have e2 : IntKind.i64.max = 9223372036854775807 := by decide
 rw [e1, e2] at h'
 cases k with
 | ofNat m => exact Nat.ble_eq_true_of_le (by have := h'.2; simp only [Int.ofNat_eq_natCast] at this; omega)
 | negSucc m => exact Nat.ble_eq_true_of_le (by have := h'.1; omega)
theorem cl69 : Tryz.prog.cellsOf 69 = 3 := by decide +kernel
theorem cl25 : Tryz.prog.cellsOf 25 = 3 := by decide +kernel
theorem cl3 : Tryz.prog.cellsOf 3 = 1 := by decide +kernel
theorem cl22 : Tryz.prog.cellsOf 22 = 1 := by decide +kernel
theorem cl23 : Tryz.prog.cellsOf 23 = 1 := by decide +kernel
theorem len3 {cs : List Value} (h : cs.length = 3) : ∃ x y z, cs = [x, y, z] := by
 match cs, h with
 | [x, y, z], _ => exact ⟨x, y, z, rfl⟩
theorem tm_in (hE : ∀ b, b < w.heap.size -> E.Fz b) : ∀ (fuel : Nat) (cs : List Value) (x : DataW H × List MemPlace), DataW.trod enc Tryz.prog w 0 (fun _ => true) true fuel 69 cs = some x -> ∃ t : Tm, (t.ok /\ t.i6) /\ RvL E w t.cells cs := by
 intro fuel
 induction fuel using Nat.strongRecOn with
 | _ fuel ih =>
 intro cs x h
 obtain ⟨xs, n, rfl, _, hlen, hxs, hf⟩ := DataW.trod_struct Tryz.underlying69 h
 rw [cl69] at hlen
 obtain ⟨p, q, r, rfl⟩ := len3 hlen
 have hx : ∀ i, i < 3 -> ∃ y, xs[i]? = some y := fun i hi => by
  have : xs.length = 3 := hxs
  exact ⟨xs[i]'(by omega), List.getElem?_eq_getElem (by omega)⟩
 obtain ⟨y0, hy0⟩ := hx 0 (by decide)
 obtain ⟨y1, hy1⟩ := hx 1 (by decide)
 obtain ⟨y2, hy2⟩ := hx 2 (by decide)
 have f0 := hf 0 { name := "Kind", type := 3, offset := 0, embedded := false, tag := "", pkgPath := "", byteOffset := 0 } rfl
 have f1 := hf 1 { name := "N", type := 3, offset := 1, embedded := false, tag := "", pkgPath := "", byteOffset := 8 } rfl
 have f2 := hf 2 { name := "L", type := 22, offset := 2, embedded := false, tag := "", pkgPath := "", byteOffset := 16 } rfl
 simp only [cl3, cl22, List.drop_zero, List.drop_succ_cons, List.take_succ_cons, List.take_zero] at f0 f1 f2
 rw [hy0] at f0
 rw [hy1] at f1
 rw [hy2] at f2
 obtain ⟨k, e0, _⟩ := DataW.trod_int Tryz.underlying3 f0
 obtain ⟨m, e1, wf1⟩ := DataW.trod_int Tryz.underlying3 f1
 obtain ⟨nl, ex, l, v, e2, hn, hl, hok, hrv⟩ := sl_in (cells := Tm.cells) (ok := fun t => t.ok /\ t.i6) hE cl69 (fun t => t.cells3.1) Tryz.underlying22 (fun n' hn' => ih n' (by omega)) f2
 obtain rfl := (List.cons.inj e0).1
 obtain rfl := (List.cons.inj e1).1
 obtain rfl := (List.cons.inj e2).1
 refine ⟨.mk k m nl ex l, ?_, ?_⟩
 ·simp only [Tm.ok, Tm.i6]
  exact ⟨⟨hn, hl, (okL_of hok).1⟩, in64_of wf1.2, (okL_of hok).2⟩
 ·simp only [Tm.cells, Tm.cellsL_eq]
  exact ⟨_, _, rfl, rfl, _, _, rfl, rfl, _, _, rfl, hrv, rfl⟩
theorem dv_in (hE : ∀ b, b < w.heap.size -> E.Fz b) : ∀ (fuel : Nat) (cs : List Value) (x : DataW H × List MemPlace), DataW.trod enc Tryz.prog w 0 (fun _ => true) true fuel 25 cs = some x -> ∃ t : Dv, (t.ok /\ t.i6) /\ RvL E w t.cells cs := by
 intro fuel
 induction fuel using Nat.strongRecOn with
 | _ fuel ih =>
 intro cs x h
 obtain ⟨xs, n, rfl, _, hlen, hxs, hf⟩ := DataW.trod_struct Tryz.underlying25 h
 rw [cl25] at hlen
 obtain ⟨p, q, r, rfl⟩ := len3 hlen
 have hx : ∀ i, i < 3 -> ∃ y, xs[i]? = some y := fun i hi => by
  have : xs.length = 3 := hxs
  exact ⟨xs[i]'(by omega), List.getElem?_eq_getElem (by omega)⟩
 obtain ⟨y0, hy0⟩ := hx 0 (by decide)
 obtain ⟨y1, hy1⟩ := hx 1 (by decide)
 obtain ⟨y2, hy2⟩ := hx 2 (by decide)
 have f0 := hf 0 { name := "Rule", type := 3, offset := 0, embedded := false, tag := "", pkgPath := "", byteOffset := 0 } rfl
 have f1 := hf 1 { name := "Vals", type := 22, offset := 1, embedded := false, tag := "", pkgPath := "", byteOffset := 8 } rfl
 have f2 := hf 2 { name := "L", type := 23, offset := 2, embedded := false, tag := "", pkgPath := "", byteOffset := 32 } rfl
 simp only [cl3, cl22, cl23, List.drop_zero, List.drop_succ_cons, List.take_succ_cons, List.take_zero] at f0 f1 f2
 rw [hy0] at f0
 rw [hy1] at f1
 rw [hy2] at f2
 obtain ⟨k, e0, _⟩ := DataW.trod_int Tryz.underlying3 f0
 obtain ⟨nl1, ex1, l1, v1, e1, hn1, hl1, hok1, hrv1⟩ := sl_in (cells := Tm.cells) (ok := fun t => t.ok /\ t.i6) hE cl69 (fun t => t.cells3.1) Tryz.underlying22 (fun n' _ => tm_in hE n') f1
 obtain ⟨nl, ex, l, v, e2, hn, hl, hok, hrv⟩ := sl_in (cells := Dv.cells) (ok := fun t => t.ok /\ t.i6) hE cl25 (fun t => t.cells3.1) Tryz.underlying23 (fun n' hn' => ih n' (by omega)) f2
 obtain rfl := (List.cons.inj e0).1
 obtain rfl := (List.cons.inj e1).1
 obtain rfl := (List.cons.inj e2).1
 refine ⟨.mk k nl1 ex1 l1 nl ex l, ?_, ?_⟩
 ·simp only [Dv.ok, Dv.i6]
  exact ⟨⟨hn1, hl1, (okL_of hok1).1, hn, hl, (dokL_of hok).1⟩, (okL_of hok1).2, (dokL_of hok).2⟩
 ·simp only [Dv.cells, Tm.cellsL_eq, Dv.cellsL_eq]
  exact ⟨_, _, rfl, rfl, _, _, rfl, hrv1, _, _, rfl, hrv, rfl⟩
theorem arg_in (hE : ∀ b, b < w.heap.size -> E.Fz b) {v : Value} {d : DataW H} {ps : List MemPlace} (h : DataW.Trod enc Tryz.prog w 0 (fun _ => true) true 25 v d ps) : ∃ t : Dv, (t.ok /\ t.i6) /\ Rv E w (.agg t.cells) v := by
 obtain ⟨fuel, h⟩ := h
 obtain ⟨t, hok, hrv⟩ := dv_in hE fuel _ _ h
 refine ⟨t, hok, ?_⟩
 obtain ⟨_, _, _, _, hlen, _, _⟩ := DataW.trod_struct Tryz.underlying25 h
 rw [cl25] at hlen
 cases v with
 | agg xs => exact ⟨xs, rfl, hrv⟩
 | _ => simp [Value.cells] at hlen
end
end Go.AM.D16
