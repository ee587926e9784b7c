import Derived.Test.YtphmjdnljmhipaaGreatDoorAmSh3
set_option linter.unusedSimpArgs false
set_option linter.unusedVariables false
set_option maxRecDepth 100000
namespace Go.AM.D16
open Go Go.AM
noncomputable section
open Nat (reduceEqDiff reduceAdd)
theorem one_cells {v : AV} (h : AV.one v = true) : v.cells = [v] := by cases v <;> first | rfl | (simp [AV.one] at h)
theorem st32 {st : St} {id : Nat} {x y z v : AV} (h : st.get id = some (.row [x, y, z])) (hv : AV.one v = true) : storeA 1 st (.ptr id 2) v = some (st.put id (.row [x, y, v])) := by
 simp only [storeA, h, one_cells hv]
 show (bif (true && (true && (AV.one v && true)) : Bool) then _ else _) = _
 rw [hv]; rfl
theorem st3 {st : St} {id : Nat} {x zs : List AV} (h : st.get id = some (.row zs)) (hz : zs.length = 3) (hx : x.length = 3 /\ x.all AV.one = true) : storeA 3 st (.ptr id 0) (.agg x) = some (st.put id (.row x)) := by
 simp only [storeA, h, AV.cells, hx.1, hz, hx.2]
 have : setCells zs 0 x = x := by
  simp only [setCells, List.take_zero, List.nil_append, Nat.zero_add]
  rw [List.drop_of_length_le (by omega)]; simp
 rw [this]; rfl
def Gr (lo : Nat) (s : St) (sl : AV) (xs : List (List AV)) (G : Nat -> Prop) : Prop :=
 (∀ i, G i -> lo <= i /\ i < s.next) /\ (∀ x ∈ xs, x.length = 3 /\ x.all AV.one = true) ∧
 ((sl = .nilsl /\ xs = []) \/ ∃ id, sl = .own id 0 xs.length 3 none xs.length /\ lo <= id /\ id < s.next /\ s.get id = some (.row xs.flatten) /\ ¬ G id)
theorem Gr.nil (lo : Nat) (s : St) : Gr lo s .nilsl [] (fun _ => False) := ⟨fun _ h => h.elim, fun _ h => by simp at h, .inl ⟨rfl, rfl⟩⟩
theorem Gr.one {lo : Nat} {s : St} {sl : AV} {xs : List (List AV)} {G : Nat -> Prop} (h : Gr lo s sl xs G) : AV.one sl = true := by
 rcases h.2.2 with ⟨rfl, _⟩ | ⟨id, rfl, _⟩ <;> rfl
theorem Gr.slr {lo : Nat} {s : St} {sl : AV} {xs : List (List AV)} {G : Nat -> Prop} (h : Gr lo s sl xs G) (hb : xs.length <= 9223372036854775807) : SlR (fun i => lo <= i /\ i < s.next) s sl xs := by
 refine ⟨h.2.1, hb, ?_⟩
 rcases h.2.2 with h | ⟨id, h1, h2, h3, h4, _⟩
 ·exact .inl h
 ·exact .inr (.inr ⟨id, none, xs.length, h1, ⟨h2, h3⟩, h4⟩)
theorem Gr.mono {lo : Nat} {s s2 : St} {sl : AV} {xs : List (List AV)} {G : Nat -> Prop} (h : Gr lo s sl xs G) (hn : s.next <= s2.next) (hk : ∀ id, lo <= id -> id < s.next -> ¬ G id -> sl = .own id 0 xs.length 3 none xs.length -> s2.get id = s.get id) : Gr lo s2 sl xs G := by
 refine ⟨fun i hi => ⟨(h.1 i hi).1, Nat.lt_of_lt_of_le (h.1 i hi).2 hn⟩, h.2.1, ?_⟩
 rcases h.2.2 with h | ⟨id, h1, h2, h3, h4, h5⟩
 ·exact .inl h
 ·exact .inr ⟨id, h1, h2, Nat.lt_of_lt_of_le h3 hn, by rw [hk id h2 h3 h5 h1]; exact h4, h5⟩
theorem Gr.app {bytes lo : Nat} {s s2 : St} {sl : AV} {xs : List (List AV)} {y : List AV} {G G2 : Nat -> Prop} (h : Gr lo s sl xs G) (hlo : lo <= s.next) (hb : (xs.length + 1) * bytes <= 140737488355328) (hb' : xs.length + 1 <= 140737488355328)
  (k : Keeps s s2) (hy : y.length = 3 /\ y.all AV.one = true) (hG2 : ∀ i, G2 i -> s.next <= i /\ i < s2.next) :
  ∃ sl' s3, appendA bytes 3 s2 sl 1 y = some (sl', s3) /\ (∀ i, i < s2.next -> sl ≠ .own i 0 xs.length 3 none xs.length -> s3.get i = s2.get i) /\ s3.next = s2.next + 1 /\ Same G s s3 /\ Same G2 s2 s3 /\ Gr lo s3 sl' (xs ++ [y]) (fun i => G i \/ G2 i) := by
 obtain ⟨hG, hxs, hsl⟩ := h
 have hfl := flat_len hxs
 have hxs' : ∀ x ∈ xs ++ [y], x.length = 3 /\ x.all AV.one = true := fun x hx => by
  rcases List.mem_append.1 hx with h | h
  ·exact hxs x h
  ·simp only [List.mem_singleton] at h; subst h; exact hy
 have hG' : ∀ s3 : St, s3.next = s2.next + 1 -> ∀ i, (G i \/ G2 i) -> lo <= i /\ i < s3.next := fun s3 h3 i hi => by
  have := k.1
  rcases hi with hi | hi
  ·have := hG i hi; omega
  ·have := hG2 i hi; omega
 have hnG : ¬ (G s2.next \/ G2 s2.next) := fun h => by
  have := k.1
  rcases h with h | h
  ·have := hG _ h; omega
  ·have := hG2 _ h; omega
 rcases hsl with ⟨rfl, rfl⟩ | ⟨id, rfl, hid, hid2, hg, hng⟩
 ·refine ⟨.own s2.next 0 1 3 none 1, s2.new (.row y), ?_, ?_, rfl, ?_, ?_, hG' _ rfl, hxs', .inr ⟨s2.next, rfl, by have := k.1; omega, by simp, ?_, hnG⟩⟩
  ·unfold appendA
   have h1 : (1 * bytes).ble 140737488355328 = true := Nat.ble_eq_true_of_le (by simpa using hb)
   rw [h1]; rfl
  ·intro i hi _
   rw [St.get_new, if_neg (by omega)]
  ·intro i hi
   have := hG i hi
   have hk := k.1
   rw [St.get_new, if_neg (by omega), k.2 i (by omega)]
  ·intro i hi
   have := hG2 i hi
   rw [St.get_new, if_neg (by omega)]
  ·rw [St.get_new, if_pos rfl]; simp
 ·have hg2 := k.get hid2 hg
  have hk := k.1
  have hfy : (xs ++ [y]).flatten = xs.flatten ++ y := by simp
  have hly : (xs ++ [y]).length = xs.length + 1 := by simp
  refine ⟨.own s2.next 0 (xs.length + 1) 3 none (xs.length + 1), (s2.del id).new (.row (xs.flatten ++ y)), ?_, ?_, rfl, ?_, ?_, hG' _ rfl, hxs', .inr ⟨s2.next, by rw [hly], by omega, by simp [St.del, St.new], ?_, hnG⟩⟩
  ·have h0 : Nat.beq 1 0 = false := rfl
   have h1 : ((xs.length + 1) * bytes).ble 140737488355328 = true := Nat.ble_eq_true_of_le hb
   have h2 : (xs.length + 1).ble 140737488355328 = true := Nat.ble_eq_true_of_le hb'
   have h3 : (0 + xs.length * 3).ble xs.flatten.length = true := Nat.ble_eq_true_of_le (by omega)
   have h4 : fitsA (xs.length + 1) xs.length none = none := by
    have : (xs.length + 1).ble xs.length = false := by
     cases hc : (xs.length + 1).ble xs.length with
     | false => rfl
     | true => have := Nat.le_of_ble_eq_true hc; omega
    simp only [fitsA, this]; rfl
   have h5 : (xs.length * 3).beq xs.flatten.length = true := by rw [hfl]; exact Nat.beq_refl _
   unfold appendA
   simp only [h0, cond_false, hg2, h1, h2, h3, h4, h5, hy.2]; rfl
  ·intro i hi hne
   have : i ≠ id := fun e => hne (by rw [e])
   rw [St.get_new, if_neg (by simp only [St.next_del]; omega), St.get_del, if_neg this]
  ·intro i hi
   have := hG i hi
   have hne : i ≠ id := fun e => hng (e ▸ hi)
   rw [St.get_new, if_neg (by simp only [St.next_del]; omega), St.get_del, if_neg hne, k.2 i (by omega)]
  ·intro i hi
   have := hG2 i hi
   rw [St.get_new, if_neg (by simp only [St.next_del]; omega), St.get_del, if_neg (by omega)]
  ·have : (s2.del id).next = s2.next := rfl
   rw [<- this, St.get_new, if_pos rfl, hfy]
theorem tag0 (x v : AV) (s : St) : tagA none x v s = s := rfl
theorem cnt1 (a b c : AV) (s : St) : contentA 3 s (.lst 1 [a, b, c] true) = some (1, [a, b, c]) := rfl
theorem adraw_ok {Γ : Cg} {zs : List (MOper × Nat)} {chk : List (Nat × Option Nat)} {fr frE : Fr} {st stE : St} {its : List DIt} (h : drun Γ zs 0 st.next fr (preA zs st) none = some (its, frE, stE)) (hp : panOf its = none)
  (hc : chk.all (chkB Γ zs its st.next stE) = true) : adraw Γ zs chk fr st = .ok frE stE := by
 unfold adraw
 rw [h]
 simp only [hc, cond_true, hp]
theorem drun_nil {Γ : Cg} {i id : Nat} {fr : Fr} {st : St} {pan : Option Nat} : drun Γ [] i id fr st pan = some ([], fr, st) := rfl
theorem drun_cons {Γ : Cg} {d : Option Nat} {op : MOp} {a : Nat} {zs : List (MOper × Nat)} {i id : Nat} {fr : Fr} {st : St} : drun Γ ((⟨d, op, none⟩, a) :: zs) i id fr st none = match oprD Γ id fr st op with
  | .val v st' => DR.cons (.val fr st v st') (drun Γ zs (i + 1) (nextId id op) (Fr.put fr d v) st' none)
  | .pan v st' => DR.cons (.pan fr st v st') (drun Γ zs (i + 1) (nextId id op) fr st (some i))
  | .stuck => none := by
 conv => lhs; unfold drun
 simp only [deadA, cond_false, wantedA]
 cases oprD Γ id fr st op <;> rfl
theorem chk_of {Γ : Cg} {zs : List (MOper × Nat)} {its : List DIt} {id i k a : Nat} {d : Option Nat} {op : MOp} {stE : St} {fr fr2 : Fr} {s s1 s2 s3 : St} {v v2 : AV} (hz : zs[i]? = some (⟨d, op, none⟩, a)) (hi : its[i]? = some (.val fr s v s1)) (_hg : (none : Option (Nat × Bool)) = none) (hk : its[k]? = some (.val fr2 s2 v2 s3))
  (h : frzLoad op fr = true \/ ∃ s4, oprD Γ (idAt zs i id) fr s2 op = .val v s4 /\ avBeq v v = true) : chkB Γ zs its id stE (i, some k) = true := by
 unfold chkB
 simp only [hz, hi, wantedA, hk]
 rcases h with h | ⟨s4, h1, h2⟩
 ·rw [h]; rfl
 ·simp only [sameAt, h1, h2, Bool.or_true]
theorem Gr.beq {lo : Nat} {s : St} {sl : AV} {xs : List (List AV)} {G : Nat -> Prop} (h : Gr lo s sl xs G) : avBeq sl sl = true := by
 rcases h.2.2 with ⟨rfl, _⟩ | ⟨id, rfl, _⟩
 ·rfl
 ·simp only [avBeq, Nat.beq_refl, onBeq]; rfl
theorem shL_of_all : ∀ {l : List Tm}, l.all gr = true -> shL l = true
 | [], _ => shL_nil
 | t :: l, h => by
  simp only [List.all_cons, Bool.and_eq_true] at h
  rw [shL_cons, if_pos (gr_shT h.1)]; exact shL_of_all h.2
theorem good_mk {r : Int} {nv ev nl ex : Bool} {vs : List Tm} {l : List Dv} (h : Dv.good gr (.mk r nv ev vs nl ex l) = true) : 1 <= r /\ r <= 19 /\ l.length = arN r /\ vs.length <= vaN r /\ shL vs = true /\ Dv.goodL gr l = true := by
 simp only [Dv.good, Bool.and_eq_true, decide_eq_true_eq, beq_iff_eq] at h
 exact ⟨h.1.1.1.1.1, h.1.1.1.1.2, h.1.1.1.2, h.1.1.2, shL_of_all h.1.2, h.2⟩
theorem goodL_mem : ∀ {l : List Dv}, Dv.goodL gr l = true -> ∀ d ∈ l, d.good gr = true
 | [], _, _, hx => by simp at hx
 | t :: l, h, x, hx => by
  simp only [Dv.goodL, Bool.and_eq_true] at h
  rcases List.mem_cons.1 hx with rfl | hx
  ·exact h.1
  ·exact goodL_mem h.2 x hx
theorem vaN_le (r : Int) : vaN r <= 64 := by
 unfold vaN
 split
 ·omega
 ·split <;> omega
end
end Go.AM.D16
