import Derived.Test.YtphmjdnljmhipaaGreatDoorAmFast2
import Derived.Test.YtphmjdnljmhipaaGreatDoorAmTbl
import Derived.KernelRfl
set_option linter.unusedSimpArgs false
set_option linter.unusedVariables false
set_option linter.defProp false
set_option maxRecDepth 100000
namespace Go.AM.D16
open Go Go.AM
open Nat (reduceEqDiff reduceAdd)
theorem run_of {tbl : Nat -> Option MFunc} {hand : Gam -> Nat -> Yenv -> Nat -> List AV -> St -> FR} {f : Nat} {mf : MFunc} (h : tbl f = some mf) (n : Nat) (Y : Yenv) (args : List AV) (st : St) :
  arunC tbl hand (n + 1) Y f args st = abody (gamT tbl hand n) Y n (defT tbl (gamT tbl hand n) Y n) mf args st := by
 simp only [arunC, h]; rfl
theorem body_ret {Γ : Gam} {Y : Yenv} {n : Nat} {DF : Nat -> List AV -> St -> DM -> Option (DM × St)} {mf : MFunc} {args : List AV} {st st' : St} {fr : Fr} {v : AV} (hle : args.length <= mf.N)
  (h : acode Γ Y n mf.code none (frOf 0 args Fr.nil) st = .ret fr st') (hd : fr.ds = []) (hr : ressA fr st' mf.res = some [v]) : abody Γ Y n DF mf args st = .ret v st' := by
 unfold abody
 rw [Nat.ble_eq_true_of_le hle]
 simp only [cond_true, h, endF, hd, aleaves, resultA, hr]
theorem t67 : tbl 67 = some m67 := by kernel_rfl
theorem t37 : tbl 37 = some m37 := by kernel_rfl
theorem t36 : tbl 36 = some m36 := by kernel_rfl
theorem t38 : tbl 38 = some m38 := by kernel_rfl
theorem t40 : tbl 40 = some m40 := by kernel_rfl
theorem t39 : tbl 39 = some m39 := by kernel_rfl
theorem t9 : tbl 9 = some m9 := by kernel_rfl
theorem t10 : tbl 10 = some m10 := by kernel_rfl
noncomputable abbrev gT (n : Nat) : Gam := gamT tbl (handX exts) n
noncomputable abbrev R (n : Nat) (Y : Yenv) : Nat -> List AV -> St -> FR := arunC tbl (handX exts) n Y
theorem isNaN_run (n : Nat) (Y : Yenv) (k : IntKind) (x : Int) (st : St) : R (n + 1) Y 67 [.int k x] st = .ret (.bool false) st := by
 unfold R
 rw [run_of t67]
 unfold abody
 have hle : Nat.ble [AV.int k x].length m67.N = true := by rfl
 rw [hle]
 simp only [cond_true]
 simp [m67, acode, arun, opr, aop, ev, frOf, Fr.put, Fr.get_set, wantedA, MOp.isDefer, OpR.of, binB, binA, isShift, intBin, endF, aleaves, resultA, ressA, resA, Fr.nil]
def cmpI (x y : Int) : Int := if x < y then .negSucc 0 else if y < x then .ofNat 1 else .ofNat 0
theorem cmpI_run (n : Nat) (Y : Yenv) (k : IntKind) (x y : Int) (st : St) : R (n + 2) Y 37 [.int k x, .int k y] st = .ret (.int .i64 (cmpI x y)) st := by
 unfold R
 rw [run_of t37]
 have hnan : ∀ z, ((gT (n + 1)).cg Y).fn 67 [.int k z] st = .ret (.bool false) st := fun z => isNaN_run n Y k z st
 unfold abody
 have hle : Nat.ble [AV.int k x, AV.int k y].length m37.N = true := by rfl
 rw [hle]
 simp only [cond_true]
 by_cases h1 : x < y
 ·simp [m37, acode, arun, opr, callR, FR.toOp, hnan, aop, ev, frOf, Fr.put, Fr.get_set, wantedA, MOp.isDefer, OpR.of, binB, binA, isShift, intBin, endF, aleaves, resultA, ressA, resA, Fr.nil, h1, cmpI]
 ·by_cases h2 : y < x
  ·simp [m37, acode, arun, opr, callR, FR.toOp, hnan, aop, ev, frOf, Fr.put, Fr.get_set, wantedA, MOp.isDefer, OpR.of, binB, binA, isShift, intBin, endF, aleaves, resultA, ressA, resA, Fr.nil, h1, h2, cmpI]
  ·simp [m37, acode, arun, opr, callR, FR.toOp, hnan, aop, ev, frOf, Fr.put, Fr.get_set, wantedA, MOp.isDefer, OpR.of, binB, binA, isShift, intBin, endF, aleaves, resultA, ressA, resA, Fr.nil, h1, h2, cmpI]
theorem wr_nat {i : Nat} (h : i <= 9223372036854775807) : wr .i64 (.ofNat i) = .ofNat i := by
 have : in64 (.ofNat i) = true := Nat.ble_eq_true_of_le h
 simp only [wr, this, cond_true]
theorem add1 {i : Nat} (h : i + 1 <= 9223372036854775807) : binB false .add (.int .i64 (.ofNat i)) (.int .i64 (.ofNat 1)) = some (.int .i64 (.ofNat (i + 1))) := by
 show some (AV.int .i64 (wr .i64 (.ofNat (i + 1)))) = _
 rw [wr_nat h]
theorem lssN (i n : Nat) : binB false .lss (.int .i64 (.ofNat i)) (.int .i64 (.ofNat n)) = some (.bool (decide (i < n))) := by
 show some (AV.bool (decide ((Int.ofNat i) < Int.ofNat n))) = _
 congr 2
 simp
theorem geqN (i n : Nat) : binB false .geq (.int .i64 (.ofNat i)) (.int .i64 (.ofNat n)) = some (.bool (decide (n <= i))) := by
 show some (AV.bool (decide ((Int.ofNat i) >= Int.ofNat n))) = _
 congr 2
 simp
theorem neqI (x y : Int) : binB false .neq (.int .i64 x) (.int .i64 y) = some (.bool (x != y)) := rfl
def orI (a b c : Int) : Int := if a ≠ 0 then a else if b ≠ 0 then b else c
theorem or_run (n : Nat) (Y : Yenv) (a b c : Int) (st : St) : R (n + 5) Y 36 [.lst 3 [.int .i64 a, .int .i64 b, .int .i64 c] true] st = .ret (.int .i64 (orI a b c)) st := by
 unfold R
 rw [run_of t36]
 unfold abody
 have hle : Nat.ble [AV.lst 3 [.int .i64 a, .int .i64 b, .int .i64 c] true].length m36.N = true := by rfl
 rw [hle]
 simp only [cond_true]
 have e0 : ∀ x : Int, (x != Int.ofNat 0) = decide (x ≠ 0) := fun x => by
  by_cases h : x = 0
  ·subst h; rfl
  ·simp [h]
 have b00 : Nat.beq 0 0 = true := rfl
 have b01 : Nat.beq 0 1 = false := rfl
 have b10 : Nat.beq 1 0 = false := rfl
 have l0 : lenFits 0 (AV.lst 3 [.int .i64 a, .int .i64 b, .int .i64 c] true) = true := rfl
 have s0 : binB false .lss (.int .i64 (.ofNat 0)) (.int .i64 (.ofNat 3)) = some (.bool true) := rfl
 have s1 : binB false .lss (.int .i64 (.ofNat 1)) (.int .i64 (.ofNat 3)) = some (.bool true) := rfl
 have s2 : binB false .lss (.int .i64 (.ofNat 2)) (.int .i64 (.ofNat 3)) = some (.bool true) := rfl
 have s3 : binB false .lss (.int .i64 (.ofNat 3)) (.int .i64 (.ofNat 3)) = some (.bool false) := rfl
 have a0 : binB false .add (.int .i64 (.ofNat 0)) (.int .i64 (.ofNat 1)) = some (.int .i64 (.ofNat 1)) := rfl
 have a1 : binB false .add (.int .i64 (.ofNat 1)) (.int .i64 (.ofNat 1)) = some (.int .i64 (.ofNat 2)) := rfl
 have a2 : binB false .add (.int .i64 (.ofNat 2)) (.int .i64 (.ofNat 1)) = some (.int .i64 (.ofNat 3)) := rfl
 have i0 : iaddrA 1 (AV.lst 3 [.int .i64 a, .int .i64 b, .int .i64 c] true) (.int .i64 (.ofNat 0)) = some (.fptr [.int .i64 a, .int .i64 b, .int .i64 c] 0) := rfl
 have i1 : iaddrA 1 (AV.lst 3 [.int .i64 a, .int .i64 b, .int .i64 c] true) (.int .i64 (.ofNat 1)) = some (.fptr [.int .i64 a, .int .i64 b, .int .i64 c] 1) := rfl
 have i2 : iaddrA 1 (AV.lst 3 [.int .i64 a, .int .i64 b, .int .i64 c] true) (.int .i64 (.ofNat 2)) = some (.fptr [.int .i64 a, .int .i64 b, .int .i64 c] 2) := rfl
 have d0 : loadA false 1 st (.fptr [.int .i64 a, .int .i64 b, .int .i64 c] 0) = some (.int .i64 a) := rfl
 have d1 : loadA false 1 st (.fptr [.int .i64 a, .int .i64 b, .int .i64 c] 1) = some (.int .i64 b) := rfl
 have d2 : loadA false 1 st (.fptr [.int .i64 a, .int .i64 b, .int .i64 c] 2) = some (.int .i64 c) := rfl
 have ln : lenA st (AV.lst 3 [.int .i64 a, .int .i64 b, .int .i64 c] true) = some (.int .i64 (.ofNat 3)) := rfl
 have hx : ∀ x : Int, (x = 0 /\ (x != Int.ofNat 0) = false) \/ (x ≠ 0 /\ (x != Int.ofNat 0) = true) := fun x => by
  rw [e0]
  by_cases h : x = 0
  ·exact .inl ⟨h, by simp [h]⟩
  ·exact .inr ⟨h, by simp [h]⟩
 clear e0
 rcases hx a with ⟨ha, na⟩ | ⟨ha, na⟩
 ·have ho : orI a b c = if b ≠ 0 then b else c := by simp [orI, ha]
  rw [ho]; clear ho ha
  rcases hx b with ⟨hb, nb⟩ | ⟨hb, nb⟩
  ·have ho : (if b ≠ 0 then b else c) = c := by simp [hb]
   rw [ho]; clear ho hb
   rcases hx c with ⟨hc, nc⟩ | ⟨hc, nc⟩
   ·have ho : c = Int.ofNat 0 := hc
    have hg : FR.ret (AV.int .i64 c) st = FR.ret (AV.int .i64 (.ofNat 0)) st := by rw [ho]
    rw [hg]; clear hg ho hc
    simp only [reduceEqDiff, ↓reduceIte, Option.getD_some, reduceCtorEq, Option.bind_some, Option.map_some, cond_true, cond_false, Fr.set_ds, b00, b01, b10, m36, acode, arun, opr, aop, ev, frOf, Fr.put, Fr.get_set, wantedA, MOp.isDefer, OpR.of, endF, aleaves, resultA, ressA, resA, Fr.nil, aloop, l0, ln, s0, s1, s2, s3, a0, a1, a2, i0, i1, i2, d0, d1, d2, neqI, na, nb, nc]
   ·clear hc
    simp only [reduceEqDiff, ↓reduceIte, Option.getD_some, reduceCtorEq, Option.bind_some, Option.map_some, cond_true, cond_false, Fr.set_ds, b00, b01, b10, m36, acode, arun, opr, aop, ev, frOf, Fr.put, Fr.get_set, wantedA, MOp.isDefer, OpR.of, endF, aleaves, resultA, ressA, resA, Fr.nil, aloop, l0, ln, s0, s1, s2, s3, a0, a1, a2, i0, i1, i2, d0, d1, d2, neqI, na, nb, nc]
  ·have ho : (if b ≠ 0 then b else c) = b := by simp [hb]
   rw [ho]; clear ho hb
   simp only [reduceEqDiff, ↓reduceIte, Option.getD_some, reduceCtorEq, Option.bind_some, Option.map_some, cond_true, cond_false, Fr.set_ds, b00, b01, b10, m36, acode, arun, opr, aop, ev, frOf, Fr.put, Fr.get_set, wantedA, MOp.isDefer, OpR.of, endF, aleaves, resultA, ressA, resA, Fr.nil, aloop, l0, ln, s0, s1, s2, s3, a0, a1, a2, i0, i1, i2, d0, d1, d2, neqI, na, nb]
 ·have ho : orI a b c = a := by simp [orI, ha]
  rw [ho]; clear ho ha
  simp only [reduceEqDiff, ↓reduceIte, Option.getD_some, reduceCtorEq, Option.bind_some, Option.map_some, cond_true, cond_false, Fr.set_ds, b00, b01, b10, m36, acode, arun, opr, aop, ev, frOf, Fr.put, Fr.get_set, wantedA, MOp.isDefer, OpR.of, endF, aleaves, resultA, ressA, resA, Fr.nil, aloop, l0, ln, s0, s1, s2, s3, a0, a1, a2, i0, i1, i2, d0, d1, d2, neqI, na]
def Keeps (st st' : St) : Prop := st.next <= st'.next /\ ∀ id, id < st.next -> st'.get id = st.get id
theorem Keeps.refl (st : St) : Keeps st st := ⟨Nat.le_refl _, fun _ _ => rfl⟩
theorem Keeps.trans {a b c : St} (h : Keeps a b) (k : Keeps b c) : Keeps a c := ⟨Nat.le_trans h.1 k.1, fun id hi => (k.2 id (Nat.lt_of_lt_of_le hi h.1)).trans (h.2 id hi)⟩
theorem Keeps.new (st : St) (o : AO) : Keeps st (st.new o) := ⟨by simp, fun id hi => by rw [St.get_new, if_neg (by omega)]⟩
theorem Keeps.put {st st' : St} (h : Keeps st st') (id : Nat) (o : AO) (hid : st.next <= id) : Keeps st (st'.put id o) := ⟨h.1, fun i hi => by rw [St.get_put, if_neg (by omega)]; exact h.2 i hi⟩
def slAV (nl ex : Bool) (xs : List (List AV)) : AV := bif nl then .nilsl else .lst xs.length xs.flatten ex
noncomputable def cfBody (zs : List AV) : MCode := (.seq (.region [⟨(some 14), .bin false .lss (.t 13) (.t 12), none⟩])
 (.seq (.cond (.t 14)
 .skip
 (.exit 0))
 (.seq (.block 1 (.seq (.region [⟨(some 15), .mv (.t 13), none⟩, ⟨(some 16), .iaddr 3 (.t 11) (.t 13), none⟩, ⟨(some 17), .load true 3 (.t 16), none⟩, ⟨(some 8), .alloc zs, none⟩, ⟨(some 7), .mv (.t 15), none⟩, ⟨none, .store 3 (.t 8) (.t 17), none⟩])
 (.seq (.seq (.region [⟨(some 18), .mv (.t 7), none⟩, ⟨(some 19), .mv (.t 1), none⟩, ⟨(some 20), .len 0 (.t 19), none⟩, ⟨(some 21), .bin false .geq (.t 18) (.t 20), none⟩])
 (.cond (.t 21)
 (.seq (.region [⟨(some 6), .mv (.c (.int .i64 (.ofNat 1))), none⟩])
 .ret)
 .skip))
 (.seq (.region [⟨(some 22), .mv (.t 1), none⟩, ⟨(some 23), .mv (.t 7), none⟩, ⟨(some 24), .iaddr 3 (.t 22) (.t 23), none⟩, ⟨(some 25), .load true 3 (.t 24), none⟩, ⟨(some 9), .alloc zs, none⟩, ⟨none, .store 3 (.t 9) (.t 25), none⟩])
 (.seq (.region [⟨(some 26), .mv (.t 2), none⟩, ⟨(some 27), .load true 3 (.t 8), none⟩, ⟨(some 28), .load true 3 (.t 9), none⟩, ⟨(some 29), .call (.t 26) [(.t 27), (.t 28)], none⟩, ⟨(some 10), .mv (.t 29), none⟩])
 (.seq (.region [⟨(some 30), .mv (.t 10), none⟩, ⟨(some 31), .bin false .neq (.t 30) (.c (.int .i64 (.ofNat 0))), none⟩])
 (.cond (.t 31)
 (.seq (.region [⟨(some 32), .mv (.t 10), none⟩, ⟨(some 6), .mv (.t 32), none⟩])
 .ret)
 .skip)))))))
 (.region [⟨(some 33), .bin false .add (.t 13) (.c (.int .i64 (.ofNat 1))), none⟩, ⟨(some 13), .mv (.t 33), none⟩]))))
noncomputable def cfM (zs : List AV) : MFunc := ⟨39, (.seq (.region [⟨(some 6), .mv (.c (.int .i64 (.ofNat 0))), none⟩])
 (.seq (.seq (.region [⟨(some 11), .mv (.t 0), none⟩, ⟨(some 12), .len 0 (.t 11), none⟩, ⟨(some 13), .mv (.c (.int .i64 (.ofNat 0))), none⟩])
 (.block 0 (.loop (cfBody zs))))
 (.seq (.seq (.region [⟨(some 34), .mv (.t 0), none⟩, ⟨(some 35), .len 0 (.t 34), none⟩, ⟨(some 36), .mv (.t 1), none⟩, ⟨(some 37), .len 0 (.t 36), none⟩, ⟨(some 38), .bin false .lss (.t 35) (.t 37), none⟩])
 (.cond (.t 38)
 (.seq (.region [⟨(some 6), .mv (.c (.int .i64 (.negSucc 0))), none⟩])
 .ret)
 .skip))
 (.seq (.region [⟨(some 6), .mv (.c (.int .i64 (.ofNat 0))), none⟩])
 .ret)))), [.t 6]⟩
theorem t68 : tbl 68 = some (cfM [(.int .i64 (.ofNat 0)), (.int .i64 (.ofNat 0)), .nilsl]) := by kernel_rfl
theorem t69 : tbl 69 = some (cfM [(.int .i64 (.ofNat 0)), .nilsl, .nilsl]) := by kernel_rfl
def walk {E : Type} (c : E -> E -> Int) : List E -> List E -> Option Int
 | [], _ => none
 | _ :: _, [] => some (.ofNat 1)
 | x :: xs, y :: ys => if c x y = 0 then walk c xs ys else some (c x y)
def cmpL {E : Type} (c : E -> E -> Int) (xs ys : List E) : Int :=
 match walk c xs ys with
 | some r => r
 | none => if xs.length < ys.length then .negSucc 0 else .ofNat 0
theorem flat_at {xs : List (List AV)} (h3 : ∀ x ∈ xs, x.length = 3) : ∀ {i : Nat} {x : List AV}, xs[i]? = some x -> (xs.flatten.drop (i * 3)).take 3 = x := by
 induction xs with
 | nil => intro i x h; simp at h
 | cons y ys ih =>
  intro i x h
  have hy := h3 y (by simp)
  cases i with
  | zero =>
   simp only [List.getElem?_cons_zero, Option.some.injEq] at h; subst h
   simp only [List.flatten_cons, Nat.zero_mul, List.drop_zero]
   rw [List.take_append_of_le_length (by omega), List.take_of_length_le (by omega)]
  | succ i =>
   simp only [List.getElem?_cons_succ] at h
   have := ih (fun x hx => h3 x (by simp [hx])) h
   rw [<- this]
   congr 1
   simp only [List.flatten_cons]
   rw [show (i + 1) * 3 = y.length + i * 3 by omega, List.drop_append]
   simp
theorem mem_flat {x : List AV} : ∀ {xs : List (List AV)}, x ∈ xs -> x.length <= xs.flatten.length
 | y :: ys, h => by
  simp only [List.flatten_cons, List.length_append]
  rcases List.mem_cons.1 h with rfl | h
  ·omega
  ·have := mem_flat h; omega
theorem iaddr_sl {nl ex : Bool} {xs : List (List AV)} (h3 : ∀ x ∈ xs, x.length = 3) (hnl : nl = true -> xs = []) {i : Nat} {x : List AV} (hx : xs[i]? = some x) :
  iaddrA 3 (slAV nl ex xs) (.int .i64 (.ofNat i)) = some (.fptr xs.flatten (i * 3)) := by
 have hi := (List.getElem?_eq_some_iff.1 hx).1
 cases nl with
 | true => rw [hnl rfl] at hi; simp at hi
 | false =>
  simp only [slAV, cond_false, iaddrA]
  rw [Nat.ble_eq_true_of_le (show i + 1 <= xs.length from hi)]
  simp only [cond_true]
  split
  ·rename_i he
   have hm : x ∈ xs := List.mem_of_getElem? hx
   have h1 := h3 x hm
   have h2 := mem_flat hm
   rw [he, h1] at h2
   simp at h2
  ·rfl
theorem load_sl {xs : List (List AV)} (h3 : ∀ x ∈ xs, x.length = 3) {i : Nat} {x : List AV} (hx : xs[i]? = some x) (st : St) : loadA true 3 st (.fptr xs.flatten (i * 3)) = some (.agg x) := by
 simp only [loadA, cellsAt, Option.bind_some, flat_at h3 hx, ofCells, cond_true]
 rw [h3 x (List.mem_of_getElem? hx)]
 rfl
theorem len_sl (nl ex : Bool) (xs : List (List AV)) (hnl : nl = true -> xs = []) (st : St) : (bif lenFits 0 (slAV nl ex xs) then lenA st (slAV nl ex xs) else none) = some (.int .i64 (.ofNat xs.length)) := by
 cases nl with
 | true => rw [hnl rfl]; rfl
 | false => rfl
theorem store_new {st : St} {zs x : List AV} (hz : zs.length = 3) (hx : x.length = 3) (h1 : x.all AV.one = true) : storeA 3 (st.new (.row zs)) (.ptr st.next 0) (.agg x) = some ((st.new (.row zs)).put st.next (.row x)) := by
 simp only [storeA, St.get_new, if_true, AV.cells, hx, hz, h1]
 have : setCells zs 0 x = x := by
  simp only [setCells, List.take_zero, List.nil_append, Nat.zero_add]
  rw [List.drop_of_length_le (by omega)]; simp
 rw [this]; rfl
theorem load_row {st : St} {id : Nat} {x : List AV} (hg : st.get id = some (.row x)) (hx : x.length = 3) : loadA true 3 st (.ptr id 0) = some (.agg x) := by
 simp only [loadA, cellsAt, hg, Option.bind_some, List.drop_zero]
 rw [List.take_of_length_le (by omega)]
 simp only [ofCells, cond_true, hx]
 rfl
section
variable {n : Nat} {Y : Yenv} {zs : List AV} {nl1 ex1 nl2 ex2 : Bool} {xs ys : List (List AV)} {c : List AV -> List AV -> Int} {g : Nat}
theorem cf_loop (hz : zs.length = 3) (h3 : ∀ x ∈ xs, x.length = 3 /\ x.all AV.one = true) (h3' : ∀ y ∈ ys, y.length = 3 /\ y.all AV.one = true) (hn1 : nl1 = true -> xs = []) (hn2 : nl2 = true -> ys = []) (hb : xs.length <= 9223372036854775807)
  (hc : ∀ x ∈ xs, ∀ y ∈ ys, ∀ st, ∃ st', R n Y g [.agg x, .agg y] st = .ret (.int .i64 (c x y)) st' /\ Keeps st st') (m : Nat) :
  ∀ (r1 : List (List AV)) (r2 : List (List AV)) (i : Nat) (fr : Fr) (st : St) (k : Nat), xs.drop i = r1 -> ys.drop i = r2 -> i <= xs.length -> i <= ys.length -> r1.length < k ->
   fr.get 0 = some (slAV nl1 ex1 xs) -> fr.get 1 = some (slAV nl2 ex2 ys) -> fr.get 2 = some (.func (.func g) [] []) -> fr.get 11 = some (slAV nl1 ex1 xs) -> fr.get 12 = some (.int .i64 (.ofNat xs.length)) -> fr.get 13 = some (.int .i64 (.ofNat i)) ->
   ∃ fr' st', Keeps st st' /\ fr'.ds = fr.ds /\ (match walk c r1 r2 with
    | some r => aloop (acode (gT n) Y m (cfBody zs) none) k fr st = .ret fr' st' /\ fr'.get 6 = some (.int .i64 r)
    | none => aloop (acode (gT n) Y m (cfBody zs) none) k fr st = .exit 0 fr' st' /\ fr'.get 0 = some (slAV nl1 ex1 xs) /\ fr'.get 1 = some (slAV nl2 ex2 ys))
 | [], r2, i, fr, st, k + 1, h1, h2, hi, hi', hk, g0, g1, g2, g11, g12, g13 => by
  have hlen : xs.length <= i := by
   have := congrArg List.length h1
   simp at this; omega
  have hlt : binB false .lss (.int .i64 (.ofNat i)) (.int .i64 (.ofNat xs.length)) = some (.bool false) := by rw [lssN]; simp; omega
  simp only [walk]
  refine ⟨?fr, ?st, ?k, ?d, ?r, ?f, ?g⟩
  case r =>
   simp only [cfBody, aloop, reduceEqDiff, ↓reduceIte, Option.getD_some, reduceCtorEq, Option.bind_some, Option.map_some, cond_true, cond_false, Fr.set_ds, acode, arun, opr, aop, ev, Fr.put, Fr.get_set, wantedA, MOp.isDefer, OpR.of, OpR.ofSt, callR, FR.toOp, List.map_cons, List.map_nil, List.nil_append, List.append_nil, List.cons_append, g13, g12, hlt]
   rfl
  case k => exact Keeps.refl st
  case d => rfl
  case f => simp only [Fr.get_set, reduceEqDiff, ↓reduceIte, g0]
  case g => simp only [Fr.get_set, reduceEqDiff, ↓reduceIte, g1]
 | x :: r1, [], i, fr, st, k + 1, h1, h2, hi, hi', hk, g0, g1, g2, g11, g12, g13 => by
  have hx : xs[i]? = some x := by
   have := congrArg (fun l => l[0]?) h1
   simpa [List.getElem?_drop] using this
  have hlen : i < xs.length := (List.getElem?_eq_some_iff.1 hx).1
  have hlen2 : ys.length <= i := by
   have := congrArg List.length h2
   simp at this; omega
  have hlt : binB false .lss (.int .i64 (.ofNat i)) (.int .i64 (.ofNat xs.length)) = some (.bool true) := by rw [lssN]; simp; omega
  have hge : binB false .geq (.int .i64 (.ofNat i)) (.int .i64 (.ofNat ys.length)) = some (.bool true) := by rw [geqN]; simp; omega
  have hx3 := h3 x (List.mem_of_getElem? hx)
  have ia := iaddr_sl (ex := ex1) (fun x hx => (h3 x hx).1) hn1 hx
  have ld := load_sl (fun x hx => (h3 x hx).1) hx st
  have sto := store_new (st := st) hz hx3.1 hx3.2
  have l2 := len_sl nl2 ex2 ys hn2 ((st.new (.row zs)).put st.next (.row x))
  simp only [walk]
  refine ⟨?fr2, ?st2, ?k2, ?d2, ?r2, ?f2⟩
  case r2 =>
   simp only [cfBody, aloop, reduceEqDiff, ↓reduceIte, Option.getD_some, reduceCtorEq, Option.bind_some, Option.map_some, cond_true, cond_false, Fr.set_ds, acode, arun, opr, aop, ev, Fr.put, Fr.get_set, wantedA, MOp.isDefer, OpR.of, OpR.ofSt, callR, FR.toOp, List.map_cons, List.map_nil, List.nil_append, List.append_nil, List.cons_append, g13, g12, hlt, g11, ia, ld, sto, g1, l2, hge]
   rfl
  case k2 => exact (Keeps.new st (.row zs)).put st.next (.row x) (Nat.le_refl _)
  case d2 => rfl
  case f2 => simp only [Fr.get_set, reduceEqDiff, ↓reduceIte]
 | x :: r1, y :: r2, i, fr, st, k + 1, h1, h2, hi, hi', hk, g0, g1, g2, g11, g12, g13 => by
  have hx : xs[i]? = some x := by
   have := congrArg (fun l => l[0]?) h1
   simpa [List.getElem?_drop] using this
  have hy : ys[i]? = some y := by
   have := congrArg (fun l => l[0]?) h2
   simpa [List.getElem?_drop] using this
  have hlen : i < xs.length := (List.getElem?_eq_some_iff.1 hx).1
  have hlen2 : i < ys.length := (List.getElem?_eq_some_iff.1 hy).1
  have hlt : binB false .lss (.int .i64 (.ofNat i)) (.int .i64 (.ofNat xs.length)) = some (.bool true) := by rw [lssN]; simp; omega
  have hge : binB false .geq (.int .i64 (.ofNat i)) (.int .i64 (.ofNat ys.length)) = some (.bool false) := by rw [geqN]; simp; omega
  have hmx := List.mem_of_getElem? hx
  have hmy := List.mem_of_getElem? hy
  have hx3 := h3 x hmx
  have hy3 := h3' y hmy
  have ia := iaddr_sl (ex := ex1) (fun x hx => (h3 x hx).1) hn1 hx
  have ib := iaddr_sl (ex := ex2) (fun x hx => (h3' x hx).1) hn2 hy
  have ld := load_sl (fun x hx => (h3 x hx).1) hx st
  have sto := store_new (st := st) hz hx3.1 hx3.2
  have l2 := len_sl nl2 ex2 ys hn2 ((st.new (.row zs)).put st.next (.row x))
  have ld2 := load_sl (fun x hx => (h3' x hx).1) hy ((st.new (.row zs)).put st.next (.row x))
  have sto2 := store_new (st := (st.new (.row zs)).put st.next (.row x)) hz hy3.1 hy3.2
  have la : loadA true 3 ((((st.new (.row zs)).put st.next (.row x)).new (.row zs)).put ((st.new (.row zs)).put st.next (.row x)).next (.row y)) (.ptr st.next 0) = some (.agg x) := load_row (by simp) hx3.1
  have lb : loadA true 3 ((((st.new (.row zs)).put st.next (.row x)).new (.row zs)).put ((st.new (.row zs)).put st.next (.row x)).next (.row y)) (.ptr ((st.new (.row zs)).put st.next (.row x)).next 0) = some (.agg y) := load_row (by simp) hy3.1
  obtain ⟨st3, hcall, hkeep⟩ := hc x hmx y hmy ((((st.new (.row zs)).put st.next (.row x)).new (.row zs)).put ((st.new (.row zs)).put st.next (.row x)).next (.row y))
  have hcall' : ((gT n).cg Y).fn g [.agg x, .agg y] ((((st.new (.row zs)).put st.next (.row x)).new (.row zs)).put ((st.new (.row zs)).put st.next (.row x)).next (.row y)) = .ret (.int .i64 (c x y)) st3 := hcall
  have hk3 : Keeps st st3 := by
   refine Keeps.trans ?_ hkeep
   refine Keeps.put (Keeps.trans ((Keeps.new st (.row zs)).put st.next (.row x) (Nat.le_refl _)) (Keeps.new _ (.row zs))) _ _ (by simp)
  have b10 : Nat.beq 1 0 = false := rfl
  have b01 : Nat.beq 0 1 = false := rfl
  by_cases hc0 : c x y = 0
  ·have hne : binB false .neq (.int .i64 (c x y)) (.int .i64 (.ofNat 0)) = some (.bool false) := by rw [neqI, hc0]; rfl
   have had := add1 (i := i) (by omega)
   obtain ⟨FR, hst, e0, e1, e2, e11, e12, e13, eds⟩ : ∃ FR, acode (gT n) Y m (cfBody zs) none fr st = .norm FR st3 /\ FR.get 0 = some (slAV nl1 ex1 xs) /\ FR.get 1 = some (slAV nl2 ex2 ys) /\ FR.get 2 = some (.func (.func g) [] []) ∧
     FR.get 11 = some (slAV nl1 ex1 xs) /\ FR.get 12 = some (.int .i64 (.ofNat xs.length)) /\ FR.get 13 = some (.int .i64 (.ofNat (i + 1))) /\ FR.ds = fr.ds := by
    refine ⟨?fr3, ?r3, ?a0, ?a1, ?a2, ?a11, ?a12, ?a13, ?ad⟩
    case r3 =>
     simp only [cfBody, reduceEqDiff, ↓reduceIte, Option.getD_some, reduceCtorEq, Option.bind_some, Option.map_some, cond_true, cond_false, Fr.set_ds, acode, arun, opr, aop, ev, Fr.put, Fr.get_set, wantedA, MOp.isDefer, OpR.of, OpR.ofSt, callR, FR.toOp, List.map_cons, List.map_nil, List.nil_append, List.append_nil, List.cons_append, g13, g12, hlt, g11, ia, ld, sto, g1, l2, hge, ib, ld2, sto2, la, lb, g2, hcall', hne, had]
     rfl
    case a0 => simp only [Fr.get_set, reduceEqDiff, ↓reduceIte, g0]
    case a1 => simp only [Fr.get_set, reduceEqDiff, ↓reduceIte, g1]
    case a2 => simp only [Fr.get_set, reduceEqDiff, ↓reduceIte, g2]
    case a11 => simp only [Fr.get_set, reduceEqDiff, ↓reduceIte, g11]
    case a12 => simp only [Fr.get_set, reduceEqDiff, ↓reduceIte, g12]
    case a13 => simp only [Fr.get_set, reduceEqDiff, ↓reduceIte]
    case ad => rfl
   obtain ⟨fr', st', q1, q2, q3⟩ := cf_loop hz h3 h3' hn1 hn2 hb hc m r1 r2 (i + 1) FR st3 k (by rw [<- List.drop_drop, h1]; rfl) (by rw [<- List.drop_drop, h2]; rfl) (by omega) (by omega) (by simpa using hk) e0 e1 e2 e11 e12 e13
   refine ⟨fr', st', hk3.trans q1, q2.trans eds, ?_⟩
   have hw : walk c (x :: r1) (y :: r2) = walk c r1 r2 := by simp only [walk, hc0, if_true]
   have hl : aloop (acode (gT n) Y m (cfBody zs) none) (k + 1) fr st = aloop (acode (gT n) Y m (cfBody zs) none) k FR st3 := by
    rw [aloop, hst]
   rw [hw, hl]
   exact q3
  ·have hne : binB false .neq (.int .i64 (c x y)) (.int .i64 (.ofNat 0)) = some (.bool true) := by
    rw [neqI]
    have : (c x y != Int.ofNat 0) = true := by simpa using hc0
    rw [this]
   have hw : walk c (x :: r1) (y :: r2) = some (c x y) := by simp only [walk, hc0, if_false]
   rw [hw]
   simp only
   refine ⟨?fr4, ?st4, ?k4, ?d4, ?r4, ?f4⟩
   case r4 =>
    simp only [cfBody, aloop, reduceEqDiff, ↓reduceIte, Option.getD_some, reduceCtorEq, Option.bind_some, Option.map_some, cond_true, cond_false, Fr.set_ds, acode, arun, opr, aop, ev, Fr.put, Fr.get_set, wantedA, MOp.isDefer, OpR.of, OpR.ofSt, callR, FR.toOp, List.map_cons, List.map_nil, List.nil_append, List.append_nil, List.cons_append, g13, g12, hlt, g11, ia, ld, sto, g1, l2, hge, ib, ld2, sto2, la, lb, g2, hcall', hne]
    rfl
   case k4 => exact hk3
   case d4 => rfl
   case f4 => simp only [Fr.get_set, reduceEqDiff, ↓reduceIte]
 | _, _, _, _, _, 0, _, _, _, _, hk, _, _, _, _, _, _ => by omega
theorem cf_run {f : Nat} (hf : tbl f = some (cfM zs)) (hz : zs.length = 3) (h3 : ∀ x ∈ xs, x.length = 3 /\ x.all AV.one = true) (h3' : ∀ y ∈ ys, y.length = 3 /\ y.all AV.one = true) (hn1 : nl1 = true -> xs = []) (hn2 : nl2 = true -> ys = []) (hb : xs.length <= 9223372036854775807)
  (hc : ∀ x ∈ xs, ∀ y ∈ ys, ∀ st, ∃ st', R n Y g [.agg x, .agg y] st = .ret (.int .i64 (c x y)) st' /\ Keeps st st') (hn : xs.length < n) (st : St) :
  ∃ st', R (n + 1) Y f [slAV nl1 ex1 xs, slAV nl2 ex2 ys, .func (.func g) [] []] st = .ret (.int .i64 (cmpL c xs ys)) st' /\ Keeps st st' := by
 have l1 := len_sl nl1 ex1 xs hn1
 have l2 := len_sl nl2 ex2 ys hn2
 -- the slots at the loop's begin
 obtain ⟨fr', st', hk, hds, hw⟩ := cf_loop (n := n) (Y := Y) (zs := zs) (ex1 := ex1) (ex2 := ex2) hz h3 h3' hn1 hn2 hb hc n xs ys 0
  ((((frOf 0 [slAV nl1 ex1 xs, slAV nl2 ex2 ys, .func (.func g) [] []] Fr.nil).set 6 (some (.int .i64 (.ofNat 0)))).set 11 (some (slAV nl1 ex1 xs))).set 12 (some (.int .i64 (.ofNat xs.length))) |>.set 13 (some (.int .i64 (.ofNat 0)))) st n rfl rfl (Nat.zero_le _) (Nat.zero_le _) hn
  (by simp only [frOf, Fr.get_set, reduceEqDiff, ↓reduceIte]) (by simp only [frOf, Fr.get_set, reduceEqDiff, ↓reduceIte]) (by simp only [frOf, Fr.get_set, reduceEqDiff, ↓reduceIte])
  (by simp only [frOf, Fr.get_set, reduceEqDiff, ↓reduceIte]) (by simp only [frOf, Fr.get_set, reduceEqDiff, ↓reduceIte]) (by simp only [frOf, Fr.get_set, reduceEqDiff, ↓reduceIte])
 have hds' : fr'.ds = [] := hds
 have b00 : Nat.beq 0 0 = true := rfl
 have hle : Nat.ble [slAV nl1 ex1 xs, slAV nl2 ex2 ys, .func (.func g) [] []].length (cfM zs).N = true := rfl
 refine ⟨st', ?_, hk⟩
 unfold R
 rw [run_of hf]
 unfold abody
 rw [hle]
 cases hwk : walk c xs ys with
 | some r =>
  rw [hwk] at hw
  obtain ⟨ha, h6⟩ := hw
  have hcm : cmpL c xs ys = r := by unfold cmpL; rw [hwk]
  rw [hcm]
  simp only [frOf] at ha
  simp only [cfM, frOf, reduceEqDiff, ↓reduceIte, Option.getD_some, reduceCtorEq, Option.bind_some, Option.map_some, cond_true, cond_false, Fr.set_ds, acode, arun, opr, aop, ev, Fr.put, Fr.get_set, wantedA, MOp.isDefer, OpR.of, OpR.ofSt, callR, FR.toOp, List.map_cons, List.map_nil, List.nil_append, List.append_nil, List.cons_append, l1, ha, endF, hds', aleaves, resultA, ressA, resA, h6]
 | none =>
  rw [hwk] at hw
  obtain ⟨ha, g0, g1⟩ := hw
  simp only [frOf] at ha
  by_cases hlt : xs.length < ys.length
  ·have hcm : cmpL c xs ys = .negSucc 0 := by unfold cmpL; rw [hwk]; simp only [hlt, if_true]
   have hl : binB false .lss (.int .i64 (.ofNat xs.length)) (.int .i64 (.ofNat ys.length)) = some (.bool true) := by rw [lssN]; simp [hlt]
   rw [hcm]
   simp only [cfM, frOf, reduceEqDiff, ↓reduceIte, Option.getD_some, reduceCtorEq, Option.bind_some, Option.map_some, cond_true, cond_false, Fr.set_ds, acode, arun, opr, aop, ev, Fr.put, Fr.get_set, wantedA, MOp.isDefer, OpR.of, OpR.ofSt, callR, FR.toOp, List.map_cons, List.map_nil, List.nil_append, List.append_nil, List.cons_append, l1, l2, ha, b00, g0, g1, hl, endF, hds', aleaves, resultA, ressA, resA]
  ·have hcm : cmpL c xs ys = .ofNat 0 := by unfold cmpL; rw [hwk]; simp only [hlt, if_false]
   have hl : binB false .lss (.int .i64 (.ofNat xs.length)) (.int .i64 (.ofNat ys.length)) = some (.bool false) := by rw [lssN]; simp [hlt]
   rw [hcm]
   simp only [cfM, frOf, reduceEqDiff, ↓reduceIte, Option.getD_some, reduceCtorEq, Option.bind_some, Option.map_some, cond_true, cond_false, Fr.set_ds, acode, arun, opr, aop, ev, Fr.put, Fr.get_set, wantedA, MOp.isDefer, OpR.of, OpR.ofSt, callR, FR.toOp, List.map_cons, List.map_nil, List.nil_append, List.append_nil, List.cons_append, l1, l2, ha, b00, g0, g1, hl, endF, hds', aleaves, resultA, ressA, resA]
end
end Go.AM.D16
set_option maxRecDepth 100000
namespace Go.AM.D16
open Go Go.AM
open Nat (reduceEqDiff reduceAdd)
def isSl : AV -> Bool
 | .lst _ _ _ => true
 | .nilsl => true
 | _ => false
theorem isSl_sl (nl ex : Bool) (l : List (List AV)) : isSl (slAV nl ex l) = true := by cases nl <;> rfl
theorem len_isSl {v : AV} (h : isSl v = true) (st st' : St) : lenA st v = lenA st' v := by
 cases v <;> first | rfl | (simp [isSl] at h)
theorem avBeq_len (n : Nat) : avBeq (.int .i64 (.ofNat n)) (.int .i64 (.ofNat n)) = true := by
 show (_ && Nat.beq n n) = true
 rw [Nat.beq_refl]; rfl
def okLin (fr : Fr) : MOp -> Bool
 | .alloc _ => false
 | .len _ x => isSl (ev fr x)
 | .load _ _ x => frzX fr x
 | _ => true
def dlin (Γ : Cg) : List (MOper × Nat) -> Fr -> St -> Option (Fr × St)
 | [], fr, st => some (fr, st)
 | z :: zs, fr, st => match z.1.guard with
  | some _ => none
  | none => bif okLin fr z.1.op then match opr Γ fr st z.1.op with
    | .val v st' => dlin Γ zs (Fr.put fr z.1.dst v) st'
    | _ => none else none
def loadB : MOp -> Bool
 | .load _ _ _ => true
 | .len _ _ => true
 | _ => false
def chkLoads (zs : List (MOper × Nat)) (chk : List (Nat × Option Nat)) : Bool := chk.all fun q => match zs[q.1]? with
 | some z => loadB z.1.op
 | none => true
def noAlloc : List (MOper × Nat) -> Bool
 | [] => true
 | z :: zs => (match z.1.op with | .alloc _ => false | _ => true) && noAlloc zs
theorem preA_noAlloc : ∀ (zs : List (MOper × Nat)) (st : St), noAlloc zs = true -> preA zs st = st
 | [], _, _ => rfl
 | z :: zs, st, h => by
  simp only [noAlloc, Bool.and_eq_true] at h
  unfold preA
  split
  ·rename_i h2; rw [h2] at h; simp at h
  ·exact preA_noAlloc zs st h.2
theorem drun_lin {Γ : Cg} : ∀ (zs : List (MOper × Nat)) (i id : Nat) (fr fr' : Fr) (st st' : St), dlin Γ zs fr st = some (fr', st') ->
  ∃ its, drun Γ zs i id fr st none = some (its, fr', st') /\ panOf its = none /\ (∀ (j : Nat) (f : Fr) (s : St) (v : AV) (s' : St), its[j]? = some (DIt.pan f s v s') -> False) /\ ∀ (j : Nat) (z : MOper × Nat) (f : Fr) (s : St) (v : AV) (s' : St), zs[j]? = some z -> loadB z.1.op = true -> its[j]? = some (DIt.val f s v s') -> frzLoad z.1.op f = true \/ ∀ i s', sameAt Γ i f s' z.1.op v = true
 | [], i, id, fr, fr', st, st', h => by
  simp only [dlin, Option.some.injEq, Prod.mk.injEq] at h
  obtain ⟨rfl, rfl⟩ := h
  exact ⟨[], rfl, rfl, by simp, by simp⟩
 | z :: zs, i, id, fr, fr', st, st', h => by
  unfold dlin at h
  cases hg : z.1.guard with
  | some g => rw [hg] at h; cases h
  | none =>
   rw [hg] at h
   simp only at h
   cases hk : okLin fr z.1.op with
   | false => rw [hk] at h; cases h
   | true =>
    rw [hk] at h
    simp only [cond_true] at h
    have ho : oprD Γ id fr st z.1.op = opr Γ fr st z.1.op := by
     unfold oprD
     split
     ·rename_i h2; rw [h2] at hk; cases hk
     ·rfl
    cases hr : opr Γ fr st z.1.op with
    | val v s1 =>
     rw [hr] at h
     obtain ⟨its, h1, h2, h3, h4⟩ := drun_lin zs (i + 1) (nextId id z.1.op) (Fr.put fr z.1.dst v) fr' s1 st' h
     refine ⟨.val fr st v s1 :: its, ?_, ?_, ?_, ?_⟩
     ·unfold drun
      rw [hg, ho, hr]
      simp only [deadA, cond_false, wantedA]
      rw [h1]; rfl
     ·exact h2
     ·intro j f s v s' hj
      cases j with
      | zero => simp at hj
      | succ j => exact h3 j f s v s' (by simpa using hj)
     ·intro j z' f s u s' hz hl hj
      cases j with
      | zero =>
       simp only [List.getElem?_cons_zero, Option.some.injEq, DIt.val.injEq] at hz hj
       obtain ⟨rfl, rfl, rfl, rfl⟩ := hj
       subst hz
       unfold loadB at hl
       split at hl
       ·rename_i a n x hx
        rw [hx] at hk ⊢
        exact .inl hk
       ·rename_i c x hx
        rw [hx] at hk hr ⊢
        refine .inr fun i s2 => ?_
        have hk' : isSl (ev fr x) = true := hk
        simp only [sameAt, oprD, opr, aop] at hr ⊢
        rw [len_isSl hk' s2 st]
        cases hL : (bif lenFits c (ev fr x) then lenA st (ev fr x) else none) with
        | none => rw [hL] at hr; cases hr
        | some q =>
         rw [hL] at hr
         simp only [OpR.of, OpR.val.injEq] at hr
         obtain ⟨rfl, rfl⟩ := hr
         simp only [OpR.of]
         cases hf : lenFits c (ev fr x) with
         | false => rw [hf] at hL; cases hL
         | true =>
          rw [hf] at hL
          simp only [cond_true] at hL
          cases he : ev fr x <;> rw [he] at hk' hL <;> first | (simp [isSl] at hk'; done) | (simp only [lenA, Option.some.injEq] at hL; subst hL; exact avBeq_len _)
       ·cases hl
      | succ j => exact h4 j z' f s u s' (by simpa using hz) hl (by simpa using hj)
    | pan v s1 => rw [hr] at h; cases h
    | stuck => rw [hr] at h; cases h
theorem adraw_lin {Γ : Cg} {zs : List (MOper × Nat)} {chk : List (Nat × Option Nat)} {fr fr' : Fr} {st st' : St} (hc : chkLoads zs chk = true) (ha : noAlloc zs = true) (h : dlin Γ zs fr st = some (fr', st')) :
  adraw Γ zs chk fr st = .ok fr' st' := by
 obtain ⟨its, h1, h2, h3, h4⟩ := drun_lin zs 0 st.next fr fr' st st' h
 have hall : chk.all (chkB Γ zs its st.next st') = true := by
  rw [List.all_eq_true]
  intro q hq
  have hl := List.all_eq_true.1 hc q hq
  unfold chkB
  split
  ·rename_i z f s v s' hz hi
   rw [hz] at hl
   have hf := h4 q.1 z f s v s' hz hl hi
   have hor : ∀ i s', (frzLoad z.1.op f || sameAt Γ i f s' z.1.op v) = true := fun i s' => by
    rcases hf with hf | hf
    ·rw [hf]; rfl
    ·rw [hf i s', Bool.or_true]
   split
   ·split
    ·exact hor _ _
    ·split
     ·exact hor _ _
     ·exact hor _ _
     ·rfl
   ·rfl
  ·rfl
 unfold adraw
 rw [preA_noAlloc zs st ha, h1]
 simp only [hall, cond_true, h2]
theorem arun_nil {Γ : Cg} {fr : Fr} {st : St} : arun Γ [] fr st = .ok fr st := rfl
theorem arun_nd {Γ : Cg} {d : Option Nat} {op : MOp} {g : Option (Nat × Bool)} {ms : List MOper} {fr : Fr} {st : St} (hd : op.isDefer = false) :
  arun Γ (⟨d, op, g⟩ :: ms) fr st = match wantedA fr g with
   | some true => (match opr Γ fr st op with
    | .val v st' => arun Γ ms (Fr.put fr d v) st'
    | .pan v st' => .pan fr v st'
    | .stuck => .stuck)
   | some false => arun Γ ms (Fr.put fr d .undef) st
   | none => .stuck := by
 conv => lhs; unfold arun
 rw [hd]
 rfl
section
variable {Γ : Cg} {dst : Option Nat} {gd : Option (Nat × Bool)} {ms : List MOper} {fr : Fr} {st : St}
theorem nd_mv {x} : arun Γ (⟨dst, (MOp.mv x), gd⟩ :: ms) fr st = match wantedA fr gd with
 | some true => (match opr Γ fr st (MOp.mv x) with
  | .val v st' => arun Γ ms (Fr.put fr dst v) st'
  | .pan v st' => .pan fr v st'
  | .stuck => .stuck)
 | some false => arun Γ ms (Fr.put fr dst .undef) st
 | none => .stuck := arun_nd rfl
theorem nd_pick {a b c} : arun Γ (⟨dst, (MOp.pick a b c), gd⟩ :: ms) fr st = match wantedA fr gd with
 | some true => (match opr Γ fr st (MOp.pick a b c) with
  | .val v st' => arun Γ ms (Fr.put fr dst v) st'
  | .pan v st' => .pan fr v st'
  | .stuck => .stuck)
 | some false => arun Γ ms (Fr.put fr dst .undef) st
 | none => .stuck := arun_nd rfl
theorem nd_alloc {x} : arun Γ (⟨dst, (MOp.alloc x), gd⟩ :: ms) fr st = match wantedA fr gd with
 | some true => (match opr Γ fr st (MOp.alloc x) with
  | .val v st' => arun Γ ms (Fr.put fr dst v) st'
  | .pan v st' => .pan fr v st'
  | .stuck => .stuck)
 | some false => arun Γ ms (Fr.put fr dst .undef) st
 | none => .stuck := arun_nd rfl
theorem nd_box {a x} : arun Γ (⟨dst, (MOp.box a x), gd⟩ :: ms) fr st = match wantedA fr gd with
 | some true => (match opr Γ fr st (MOp.box a x) with
  | .val v st' => arun Γ ms (Fr.put fr dst v) st'
  | .pan v st' => .pan fr v st'
  | .stuck => .stuck)
 | some false => arun Γ ms (Fr.put fr dst .undef) st
 | none => .stuck := arun_nd rfl
theorem nd_build {a b} : arun Γ (⟨dst, (MOp.build a b), gd⟩ :: ms) fr st = match wantedA fr gd with
 | some true => (match opr Γ fr st (MOp.build a b) with
  | .val v st' => arun Γ ms (Fr.put fr dst v) st'
  | .pan v st' => .pan fr v st'
  | .stuck => .stuck)
 | some false => arun Γ ms (Fr.put fr dst .undef) st
 | none => .stuck := arun_nd rfl
theorem nd_bslice {a b c} : arun Γ (⟨dst, (MOp.bslice a b c), gd⟩ :: ms) fr st = match wantedA fr gd with
 | some true => (match opr Γ fr st (MOp.bslice a b c) with
  | .val v st' => arun Γ ms (Fr.put fr dst v) st'
  | .pan v st' => .pan fr v st'
  | .stuck => .stuck)
 | some false => arun Γ ms (Fr.put fr dst .undef) st
 | none => .stuck := arun_nd rfl
theorem nd_load {a b c} : arun Γ (⟨dst, (MOp.load a b c), gd⟩ :: ms) fr st = match wantedA fr gd with
 | some true => (match opr Γ fr st (MOp.load a b c) with
  | .val v st' => arun Γ ms (Fr.put fr dst v) st'
  | .pan v st' => .pan fr v st'
  | .stuck => .stuck)
 | some false => arun Γ ms (Fr.put fr dst .undef) st
 | none => .stuck := arun_nd rfl
theorem nd_store {a b c} : arun Γ (⟨dst, (MOp.store a b c), gd⟩ :: ms) fr st = match wantedA fr gd with
 | some true => (match opr Γ fr st (MOp.store a b c) with
  | .val v st' => arun Γ ms (Fr.put fr dst v) st'
  | .pan v st' => .pan fr v st'
  | .stuck => .stuck)
 | some false => arun Γ ms (Fr.put fr dst .undef) st
 | none => .stuck := arun_nd rfl
theorem nd_nilchk {x} : arun Γ (⟨dst, (MOp.nilchk x), gd⟩ :: ms) fr st = match wantedA fr gd with
 | some true => (match opr Γ fr st (MOp.nilchk x) with
  | .val v st' => arun Γ ms (Fr.put fr dst v) st'
  | .pan v st' => .pan fr v st'
  | .stuck => .stuck)
 | some false => arun Γ ms (Fr.put fr dst .undef) st
 | none => .stuck := arun_nd rfl
theorem nd_bin {a b c d} : arun Γ (⟨dst, (MOp.bin a b c d), gd⟩ :: ms) fr st = match wantedA fr gd with
 | some true => (match opr Γ fr st (MOp.bin a b c d) with
  | .val v st' => arun Γ ms (Fr.put fr dst v) st'
  | .pan v st' => .pan fr v st'
  | .stuck => .stuck)
 | some false => arun Γ ms (Fr.put fr dst .undef) st
 | none => .stuck := arun_nd rfl
theorem nd_un {a b} : arun Γ (⟨dst, (MOp.un a b), gd⟩ :: ms) fr st = match wantedA fr gd with
 | some true => (match opr Γ fr st (MOp.un a b) with
  | .val v st' => arun Γ ms (Fr.put fr dst v) st'
  | .pan v st' => .pan fr v st'
  | .stuck => .stuck)
 | some false => arun Γ ms (Fr.put fr dst .undef) st
 | none => .stuck := arun_nd rfl
theorem nd_faddr {a b} : arun Γ (⟨dst, (MOp.faddr a b), gd⟩ :: ms) fr st = match wantedA fr gd with
 | some true => (match opr Γ fr st (MOp.faddr a b) with
  | .val v st' => arun Γ ms (Fr.put fr dst v) st'
  | .pan v st' => .pan fr v st'
  | .stuck => .stuck)
 | some false => arun Γ ms (Fr.put fr dst .undef) st
 | none => .stuck := arun_nd rfl
theorem nd_iaddr {a b c} : arun Γ (⟨dst, (MOp.iaddr a b c), gd⟩ :: ms) fr st = match wantedA fr gd with
 | some true => (match opr Γ fr st (MOp.iaddr a b c) with
  | .val v st' => arun Γ ms (Fr.put fr dst v) st'
  | .pan v st' => .pan fr v st'
  | .stuck => .stuck)
 | some false => arun Γ ms (Fr.put fr dst .undef) st
 | none => .stuck := arun_nd rfl
theorem nd_len {a b} : arun Γ (⟨dst, (MOp.len a b), gd⟩ :: ms) fr st = match wantedA fr gd with
 | some true => (match opr Γ fr st (MOp.len a b) with
  | .val v st' => arun Γ ms (Fr.put fr dst v) st'
  | .pan v st' => .pan fr v st'
  | .stuck => .stuck)
 | some false => arun Γ ms (Fr.put fr dst .undef) st
 | none => .stuck := arun_nd rfl
theorem nd_call {a b} : arun Γ (⟨dst, (MOp.call a b), gd⟩ :: ms) fr st = match wantedA fr gd with
 | some true => (match opr Γ fr st (MOp.call a b) with
  | .val v st' => arun Γ ms (Fr.put fr dst v) st'
  | .pan v st' => .pan fr v st'
  | .stuck => .stuck)
 | some false => arun Γ ms (Fr.put fr dst .undef) st
 | none => .stuck := arun_nd rfl
theorem nd_eqnil {a b c d e} : arun Γ (⟨dst, (MOp.eqnil a b c d e), gd⟩ :: ms) fr st = match wantedA fr gd with
 | some true => (match opr Γ fr st (MOp.eqnil a b c d e) with
  | .val v st' => arun Γ ms (Fr.put fr dst v) st'
  | .pan v st' => .pan fr v st'
  | .stuck => .stuck)
 | some false => arun Γ ms (Fr.put fr dst .undef) st
 | none => .stuck := arun_nd rfl
theorem nd_extract {a b} : arun Γ (⟨dst, (MOp.extract a b), gd⟩ :: ms) fr st = match wantedA fr gd with
 | some true => (match opr Γ fr st (MOp.extract a b) with
  | .val v st' => arun Γ ms (Fr.put fr dst v) st'
  | .pan v st' => .pan fr v st'
  | .stuck => .stuck)
 | some false => arun Γ ms (Fr.put fr dst .undef) st
 | none => .stuck := arun_nd rfl
theorem nd_field {a b c d} : arun Γ (⟨dst, (MOp.field a b c d), gd⟩ :: ms) fr st = match wantedA fr gd with
 | some true => (match opr Γ fr st (MOp.field a b c d) with
  | .val v st' => arun Γ ms (Fr.put fr dst v) st'
  | .pan v st' => .pan fr v st'
  | .stuck => .stuck)
 | some false => arun Γ ms (Fr.put fr dst .undef) st
 | none => .stuck := arun_nd rfl
theorem nd_append {a b c d e} : arun Γ (⟨dst, (MOp.append a b c d e), gd⟩ :: ms) fr st = match wantedA fr gd with
 | some true => (match opr Γ fr st (MOp.append a b c d e) with
  | .val v st' => arun Γ ms (Fr.put fr dst v) st'
  | .pan v st' => .pan fr v st'
  | .stuck => .stuck)
 | some false => arun Γ ms (Fr.put fr dst .undef) st
 | none => .stuck := arun_nd rfl
theorem nd_conv {a b} : arun Γ (⟨dst, (MOp.conv a b), gd⟩ :: ms) fr st = match wantedA fr gd with
 | some true => (match opr Γ fr st (MOp.conv a b) with
  | .val v st' => arun Γ ms (Fr.put fr dst v) st'
  | .pan v st' => .pan fr v st'
  | .stuck => .stuck)
 | some false => arun Γ ms (Fr.put fr dst .undef) st
 | none => .stuck := arun_nd rfl
theorem nd_mkif {a b} : arun Γ (⟨dst, (MOp.mkif a b), gd⟩ :: ms) fr st = match wantedA fr gd with
 | some true => (match opr Γ fr st (MOp.mkif a b) with
  | .val v st' => arun Γ ms (Fr.put fr dst v) st'
  | .pan v st' => .pan fr v st'
  | .stuck => .stuck)
 | some false => arun Γ ms (Fr.put fr dst .undef) st
 | none => .stuck := arun_nd rfl
end
noncomputable def amE :=
 And.intro @Go.AM.acode.eq_1 <| And.intro @Go.AM.acode.eq_2 <| And.intro @Go.AM.acode.eq_3 <| And.intro @Go.AM.acode.eq_4 <| And.intro @Go.AM.acode.eq_5 <| And.intro @Go.AM.acode.eq_6 <| And.intro @Go.AM.acode.eq_7 <| And.intro @Go.AM.acode.eq_8 <| And.intro @Go.AM.acode.eq_9 <| And.intro @Go.AM.acode.eq_10 <| And.intro @Go.AM.acode.eq_11 <| And.intro @Go.AM.opr.eq_1 <| And.intro @Go.AM.opr.eq_2 <| And.intro @Go.AM.aop.eq_1 <| And.intro @Go.AM.aop.eq_2 <| And.intro @Go.AM.aop.eq_3 <| And.intro @Go.AM.aop.eq_4 <| And.intro @Go.AM.aop.eq_5 <| And.intro @Go.AM.aop.eq_6 <| And.intro @Go.AM.aop.eq_7 <| And.intro @Go.AM.aop.eq_8 <| And.intro @Go.AM.aop.eq_9 <| And.intro @Go.AM.aop.eq_10 <| And.intro @Go.AM.aop.eq_11 <| And.intro @Go.AM.aop.eq_12 <| And.intro @Go.AM.aop.eq_13 <| And.intro @Go.AM.aop.eq_14 <| And.intro @Go.AM.aop.eq_15 <| And.intro @Go.AM.aop.eq_16 <| And.intro @Go.AM.aop.eq_17 <| And.intro @Go.AM.aop.eq_18 <| And.intro @Go.AM.aop.eq_19 <| And.intro @Go.AM.aop.eq_20 <| And.intro @Go.AM.aop.eq_21 <| And.intro @Go.AM.aop.eq_22 <| And.intro @Go.AM.aop.eq_23 <| And.intro @Go.AM.aop.eq_24 <| And.intro @Go.AM.aop.eq_25 <| And.intro @Go.AM.aop.eq_26 <| And.intro @Go.AM.aop.eq_27 <| And.intro @Go.AM.aop.eq_28 <| And.intro @Go.AM.aop.eq_29 <| And.intro @Go.AM.aop.eq_30 <| And.intro @Go.AM.aop.eq_31 <| And.intro @Go.AM.aop.eq_32 <| And.intro @Go.AM.aop.eq_33 <| And.intro @Go.AM.aop.eq_34 <| And.intro @Go.AM.aop.eq_35 <| And.intro @Go.AM.aop.eq_36 <| And.intro @Go.AM.aop.eq_37 <| And.intro @Go.AM.aop.eq_38 <| And.intro @Go.AM.aop.eq_39 <| And.intro @Go.AM.aop.eq_40 <| And.intro @Go.AM.aop.eq_41 <| And.intro @Go.AM.aop.eq_42 <| And.intro @Go.AM.aop.eq_43 <| And.intro @Go.AM.aop.eq_44 <| And.intro @Go.AM.aop.eq_45 <| And.intro @Go.AM.aop.eq_46 <| And.intro @Go.AM.aop.eq_47 <| And.intro @Go.AM.aop.eq_48 <| And.intro @Go.AM.ev.eq_1 <| And.intro @Go.AM.ev.eq_2 <| And.intro @Go.AM.frOf.eq_1 <| And.intro @Go.AM.frOf.eq_2 <| And.intro @Go.AM.Fr.put.eq_1 <| And.intro @Go.AM.Fr.put.eq_2 <| And.intro @Go.AM.wantedA.eq_1 <| And.intro @Go.AM.wantedA.eq_2 <| And.intro @Go.AM.OpR.of.eq_1 <| And.intro @Go.AM.OpR.of.eq_2 <| And.intro @Go.AM.OpR.ofSt.eq_1 <| And.intro @Go.AM.OpR.ofSt.eq_2 <| And.intro @Go.AM.callR.eq_1 <| And.intro @Go.AM.callR.eq_2 <| And.intro @Go.AM.callR.eq_3 <| And.intro @Go.AM.FR.toOp.eq_1 <| And.intro @Go.AM.FR.toOp.eq_2 <| And.intro @Go.AM.FR.toOp.eq_3 <| And.intro @Go.AM.endF.eq_1 <| And.intro @Go.AM.aleaves.eq_1 <| And.intro @Go.AM.aleaves.eq_2 <| And.intro @Go.AM.aleaves.eq_3 <| And.intro @Go.AM.resultA.eq_1 <| And.intro @Go.AM.ressA.eq_1 <| And.intro @Go.AM.ressA.eq_2 <| And.intro @Go.AM.resA.eq_1 <| And.intro @Go.AM.resA.eq_2 <| And.intro @Go.AM.Fr.nil.eq_1 <| And.intro @Go.AM.AV.cells.eq_1 <| And.intro @Go.AM.AV.cells.eq_2 <| And.intro @Go.AM.evParts.eq_1 <| And.intro @dlin.eq_1 <| And.intro @dlin.eq_2 <| And.intro @okLin.eq_1 <| And.intro @okLin.eq_2 <| And.intro @okLin.eq_3 <| And.intro @okLin.eq_4 <| And.intro @Go.AM.frzX.eq_1 <| And.intro @arun_nil <| And.intro @nd_mv <| And.intro @nd_pick <| And.intro @nd_alloc <| And.intro @nd_box <| And.intro @nd_build <| And.intro @nd_bslice <| And.intro @nd_load <| And.intro @nd_store <| And.intro @nd_nilchk <| And.intro @nd_bin <| And.intro @nd_un <| And.intro @nd_faddr <| And.intro @nd_iaddr <| And.intro @nd_len <| And.intro @nd_call <| And.intro @nd_eqnil <| And.intro @nd_extract <| And.intro @nd_field <| And.intro @nd_append <| And.intro @nd_conv <| And.intro @nd_mkif <| And.intro @Fr.get_set <| And.intro @Fr.set_ds <| And.intro @Option.getD_some.{0} <| And.intro @Option.bind_some.{0,0} <| And.intro @Option.map_some.{0,0} <| And.intro @cond_true.{1} <| And.intro @cond_false.{1} <| And.intro @List.map_cons.{0,0} <| And.intro @List.map_nil.{0,0} <| And.intro @List.nil_append.{0} <| And.intro @List.append_nil.{0} <| @List.cons_append.{0}
theorem walk_map {E : Type} {cl : E -> List AV} {c' : List AV -> List AV -> Int} {c : E -> E -> Int} : ∀ (xs ys : List E), (∀ a ∈ xs, ∀ b ∈ ys, c' (cl a) (cl b) = c a b) -> walk c' (xs.map cl) (ys.map cl) = walk c xs ys
 | [], _, _ => by simp [walk]
 | _ :: _, [], _ => by simp [walk]
 | x :: xs, y :: ys, h => by
  simp only [List.map_cons, walk]
  rw [h x (by simp) y (by simp), walk_map xs ys fun a ha b hb => h a (by simp [ha]) b (by simp [hb])]
def CmpTo (n : Nat) (Y : Yenv) (g : Nat) (x y : List AV) (v : Int) : Prop := ∀ st, ∃ st', R n Y g [.agg x, .agg y] st = .ret (.int .i64 v) st' /\ Keeps st st'
theorem CmpTo.one {n : Nat} {Y : Yenv} {g : Nat} {x y : List AV} {v u : Int} (h : CmpTo n Y g x y v) (k : CmpTo n Y g x y u) : v = u := by
 obtain ⟨s1, h1, _⟩ := h ⟨0, .nil, .nil⟩
 obtain ⟨s2, h2, _⟩ := k ⟨0, .nil, .nil⟩
 rw [h1] at h2
 injection h2 with h2 _
 injection h2
theorem cf_runE {E : Type} {n : Nat} {Y : Yenv} {zs : List AV} {nl1 ex1 nl2 ex2 : Bool} {cl : E -> List AV} {xs ys : List E} {c : E -> E -> Int} {g f : Nat} (hf : tbl f = some (cfM zs)) (hz : zs.length = 3) (h3 : ∀ x ∈ xs, (cl x).length = 3 /\ (cl x).all AV.one = true)
  (h3' : ∀ y ∈ ys, (cl y).length = 3 /\ (cl y).all AV.one = true) (hn1 : nl1 = true -> xs = []) (hn2 : nl2 = true -> ys = []) (hb : xs.length <= 9223372036854775807)
  (hc : ∀ x ∈ xs, ∀ y ∈ ys, CmpTo n Y g (cl x) (cl y) (c x y)) (hn : xs.length < n) (st : St) :
  ∃ st', R (n + 1) Y f [slAV nl1 ex1 (xs.map cl), slAV nl2 ex2 (ys.map cl), .func (.func g) [] []] st = .ret (.int .i64 (cmpL c xs ys)) st' /\ Keeps st st' := by
 classical
 let c' : List AV -> List AV -> Int := fun x y => if h : ∃ v, CmpTo n Y g x y v then Classical.choose h else 0
 have hc' : ∀ a ∈ xs, ∀ b ∈ ys, c' (cl a) (cl b) = c a b := fun a ha b hb => by
  have h : ∃ v, CmpTo n Y g (cl a) (cl b) v := ⟨_, hc a ha b hb⟩
  show (if h : ∃ v, CmpTo n Y g (cl a) (cl b) v then Classical.choose h else 0) = _
  rw [dif_pos h]
  exact (Classical.choose_spec h).one (hc a ha b hb)
 obtain ⟨st', h1, h2⟩ := cf_run (n := n) (Y := Y) (zs := zs) (nl1 := nl1) (ex1 := ex1) (nl2 := nl2) (ex2 := ex2) (xs := xs.map cl) (ys := ys.map cl) (c := c') (g := g) hf hz
  (fun x hx => by obtain ⟨a, ha, rfl⟩ := List.mem_map.1 hx; exact h3 a ha) (fun x hx => by obtain ⟨a, ha, rfl⟩ := List.mem_map.1 hx; exact h3' a ha)
  (fun h => by rw [hn1 h]; rfl) (fun h => by rw [hn2 h]; rfl) (by simpa using hb)
  (fun x hx y hy => by
   obtain ⟨a, ha, rfl⟩ := List.mem_map.1 hx
   obtain ⟨b, hb, rfl⟩ := List.mem_map.1 hy
   rw [hc' a ha b hb]
   exact hc a ha b hb) (by simpa using hn) st
 refine ⟨st', ?_, h2⟩
 rw [h1]
 congr 2
 unfold cmpL
 rw [walk_map xs ys hc']
 simp
inductive Tm where
 | mk (k n : Int) (nl ex : Bool) (l : List Tm)
mutual
def Tm.cells : Tm -> List AV
 | .mk k n nl ex l => [.int .i64 k, .int .i64 n, slAV nl ex (Tm.cellsL l)]
def Tm.cellsL : List Tm -> List (List AV)
 | [] => []
 | t :: l => Tm.cells t :: Tm.cellsL l
end
theorem Tm.cellsL_eq : ∀ l, Tm.cellsL l = l.map Tm.cells
 | [] => by simp only [Tm.cellsL, List.map_nil]
 | t :: l => by simp only [Tm.cellsL, List.map_cons, Tm.cellsL_eq l]
mutual
def Tm.ok : Tm -> Prop
 | .mk _ _ nl _ l => (nl = true -> l = []) /\ l.length <= 9223372036854775807 /\ Tm.okL l
def Tm.okL : List Tm -> Prop
 | [] => True
 | t :: l => t.ok /\ Tm.okL l
end
theorem Tm.okL_mem : ∀ {l : List Tm}, Tm.okL l -> ∀ t ∈ l, t.ok
 | t :: l, h, x, hx => by
  simp only [Tm.okL] at h
  rcases List.mem_cons.1 hx with rfl | hx
  ·exact h.1
  ·exact Tm.okL_mem h.2 x hx
mutual
def Tm.fz : Tm -> Nat
 | .mk _ _ _ _ l => 12 + l.length + Tm.fzL l
def Tm.fzL : List Tm -> Nat
 | [] => 0
 | t :: l => t.fz + Tm.fzL l
end
theorem Tm.fzL_mem : ∀ {l : List Tm} {t : Tm}, t ∈ l -> t.fz <= Tm.fzL l
 | x :: l, t, h => by
  simp only [Tm.fzL]
  rcases List.mem_cons.1 h with rfl | h
  ·omega
  ·have := Tm.fzL_mem h; omega
mutual
def cmpT : Tm -> Tm -> Int
 | .mk k n _ _ l, .mk k' n' _ _ l' => if orI (cmpI k k') (cmpI n n') (cmpI (.ofNat l.length) (.ofNat l'.length)) = 0 then cmpTs l l' else orI (cmpI k k') (cmpI n n') (cmpI (.ofNat l.length) (.ofNat l'.length))
def cmpTs : List Tm -> List Tm -> Int
 | [], [] => .ofNat 0
 | [], _ :: _ => .negSucc 0
 | _ :: _, [] => .ofNat 1
 | x :: xs, y :: ys => if cmpT x y = 0 then cmpTs xs ys else cmpT x y
end
theorem cmpL_cmpTs : ∀ (xs ys : List Tm), cmpL cmpT xs ys = cmpTs xs ys
 | [], [] => by simp [cmpL, walk, cmpTs]
 | [], _ :: _ => by simp [cmpL, walk, cmpTs]
 | _ :: _, [] => by simp [cmpL, walk, cmpTs]
 | x :: xs, y :: ys => by
  have ih := cmpL_cmpTs xs ys
  unfold cmpL at ih ⊢
  simp only [walk, cmpTs]
  by_cases h : cmpT x y = 0
  ·rw [if_pos h, if_pos h, <- ih]
   simp
  ·rw [if_neg h, if_neg h]
theorem Tm.cells3 (t : Tm) : t.cells.length = 3 /\ t.cells.all AV.one = true := by
 cases t with
 | mk k n nl ex l =>
  simp only [Tm.cells]
  refine ⟨rfl, ?_⟩
  cases nl <;> rfl
theorem cmpI_at {n : Nat} (hn : 2 <= n) (Y : Yenv) (k : IntKind) (x y : Int) (st : St) : R n Y 37 [.int k x, .int k y] st = .ret (.int .i64 (cmpI x y)) st := by
 obtain ⟨m, rfl⟩ : ∃ m, n = m + 2 := ⟨n - 2, by omega⟩
 exact cmpI_run m Y k x y st
theorem or_at {n : Nat} (hn : 5 <= n) (Y : Yenv) (a b c : Int) (st : St) : R n Y 36 [.lst 3 [.int .i64 a, .int .i64 b, .int .i64 c] true] st = .ret (.int .i64 (orI a b c)) st := by
 obtain ⟨m, rfl⟩ : ∃ m, n = m + 5 := ⟨n - 5, by omega⟩
 exact or_run m Y a b c st
noncomputable def d39 : List (MOper × Nat) := [(⟨(some 6), .faddr 0 (.t 2), none⟩, 0), (⟨(some 7), .load false 1 (.t 6), none⟩, 1), (⟨(some 8), .faddr 0 (.t 3), none⟩, 0), (⟨(some 9), .load false 1 (.t 8), none⟩, 4), (⟨(some 10), .call (.c (.func (.func 37) [] [])) [(.t 7), (.t 9)], none⟩, 15), (⟨(some 11), .faddr 1 (.t 2), none⟩, 0), (⟨(some 12), .load false 1 (.t 11), none⟩, 32), (⟨(some 13), .faddr 1 (.t 3), none⟩, 0), (⟨(some 14), .load false 1 (.t 13), none⟩, 128), (⟨(some 15), .call (.c (.func (.func 37) [] [])) [(.t 12), (.t 14)], none⟩, 511), (⟨(some 16), .faddr 2 (.t 2), none⟩, 0), (⟨(some 17), .load false 1 (.t 16), none⟩, 1024), (⟨(some 18), .len 0 (.t 17), none⟩, 3072), (⟨(some 19), .faddr 2 (.t 3), none⟩, 0), (⟨(some 20), .load false 1 (.t 19), none⟩, 8192), (⟨(some 21), .len 0 (.t 20), none⟩, 24576), (⟨(some 22), .call (.c (.func (.func 37) [] [])) [(.t 18), (.t 21)], none⟩, 65535), (⟨(some 23), .bslice 3 [(.int .i64 (.ofNat 0)), (.int .i64 (.ofNat 0)), (.int .i64 (.ofNat 0))] [(0, 1, (.t 10)), (1, 1, (.t 15)), (2, 1, (.t 22))], none⟩, 131071), (⟨(some 24), .call (.c (.func (.func 36) [] [])) [(.t 23)], none⟩, 262143), (⟨(some 5), .mv (.t 24), none⟩, 524287)]
theorem sigCompare (a : Tm) : ∀ (b : Tm) (n : Nat) (Y : Yenv), a.ok -> b.ok -> a.fz <= n -> CmpTo n Y 39 a.cells b.cells (cmpT a b) := by
 induction hs : a.fz using Nat.strongRecOn generalizing a with
 | _ s ih =>
 intro b n Y ha hb hn st
 cases a with
 | mk k1 n1 nl1 ex1 l1 =>
 cases b with
 | mk k2 n2 nl2 ex2 l2 =>
 simp only [Tm.ok] at ha hb
 simp only [Tm.fz] at hs
 obtain ⟨m, rfl⟩ : ∃ m, n = m + 2 := ⟨n - 2, by omega⟩
 suffices h : ∃ st', R (m + 2) Y 39 [.agg (Tm.mk k1 n1 nl1 ex1 l1).cells, .agg (Tm.mk k2 n2 nl2 ex2 l2).cells] st = .ret (.int .i64 (cmpT (.mk k1 n1 nl1 ex1 l1) (.mk k2 n2 nl2 ex2 l2))) st' /\ Keeps st st' from h
 unfold R
 rw [run_of t39]
 unfold abody
 have hle : Nat.ble [AV.agg (Tm.mk k1 n1 nl1 ex1 l1).cells, AV.agg (Tm.mk k2 n2 nl2 ex2 l2).cells].length m39.N = true := rfl
 rw [hle]
 have c1 : ∀ st, ((gT (m + 1)).cg Y).fn 37 [.int .i64 k1, .int .i64 k2] st = .ret (.int .i64 (cmpI k1 k2)) st := fun st => cmpI_at (by omega) Y .i64 k1 k2 st
 have c2 : ∀ st, ((gT (m + 1)).cg Y).fn 37 [.int .i64 n1, .int .i64 n2] st = .ret (.int .i64 (cmpI n1 n2)) st := fun st => cmpI_at (by omega) Y .i64 n1 n2 st
 have c3 : ∀ st, ((gT (m + 1)).cg Y).fn 37 [.int .i64 (.ofNat l1.length), .int .i64 (.ofNat l2.length)] st = .ret (.int .i64 (cmpI (.ofNat l1.length) (.ofNat l2.length))) st := fun st => cmpI_at (by omega) Y .i64 _ _ st
 have c4 : ∀ x y z st, ((gT (m + 1)).cg Y).fn 36 [.lst 3 [.int .i64 x, .int .i64 y, .int .i64 z] true] st = .ret (.int .i64 (orI x y z)) st := fun x y z st => or_at (by omega) Y x y z st
 have s1 : ∀ st, (bif lenFits 0 (slAV nl1 ex1 (Tm.cellsL l1)) then lenA st (slAV nl1 ex1 (Tm.cellsL l1)) else none) = some (.int .i64 (.ofNat l1.length)) := fun st => by
  have := len_sl nl1 ex1 (Tm.cellsL l1) (fun h => by rw [ha.1 h]; rfl) st
  rw [this, Tm.cellsL_eq]; simp
 have s2 : ∀ st, (bif lenFits 0 (slAV nl2 ex2 (Tm.cellsL l2)) then lenA st (slAV nl2 ex2 (Tm.cellsL l2)) else none) = some (.int .i64 (.ofNat l2.length)) := fun st => by
  have := len_sl nl2 ex2 (Tm.cellsL l2) (fun h => by rw [hb.1 h]; rfl) st
  rw [this, Tm.cellsL_eq]; simp
 obtain ⟨st', hcf, hk⟩ := cf_runE (n := m) (Y := Y) (nl1 := nl1) (ex1 := ex1) (nl2 := nl2) (ex2 := ex2) (cl := Tm.cells) (xs := l1) (ys := l2) (c := cmpT) (g := 39) (f := 68) (zs := [(.int .i64 (.ofNat 0)), (.int .i64 (.ofNat 0)), .nilsl]) t68 rfl
  (fun x _ => x.cells3) (fun y _ => y.cells3) ha.1 hb.1 ha.2.1
  (fun x hx y hy => ih x.fz (by have := Tm.fzL_mem hx; omega) x rfl y m Y (Tm.okL_mem ha.2.2 x hx) (Tm.okL_mem hb.2.2 y hy) (by have := Tm.fzL_mem hx; omega)) (by omega) st
 have hcf' : ((gT (m + 1)).cg Y).fn 68 [slAV nl1 ex1 (Tm.cellsL l1), slAV nl2 ex2 (Tm.cellsL l2), .func (.func 39) [] []] st = .ret (.int .i64 (cmpTs l1 l2)) st' := by
  rw [Tm.cellsL_eq, Tm.cellsL_eq, <- cmpL_cmpTs]; exact hcf
 have f0 : ∀ (cs : List AV) (o : Nat), faddrA o (.fptr cs 0) = some (.fptr cs (0 + o)) := fun _ _ => rfl
 have d0 : ∀ (x y z : AV) st, loadA false 1 st (.fptr [x, y, z] 0) = some x := fun _ _ _ _ => rfl
 have d1 : ∀ (x y z : AV) st, loadA false 1 st (.fptr [x, y, z] 1) = some y := fun _ _ _ _ => rfl
 have d2 : ∀ (x y z : AV) st, loadA false 1 st (.fptr [x, y, z] 2) = some z := fun _ _ _ _ => rfl
 have bs : ∀ x y z : Int, fillA [.int .i64 (.ofNat 0), .int .i64 (.ofNat 0), .int .i64 (.ofNat 0)] [(0, 1, .int .i64 x), (1, 1, .int .i64 y), (2, 1, .int .i64 z)] = some [.int .i64 x, .int .i64 y, .int .i64 z] := fun x y z => rfl
 have hd : ∀ chk, chkLoads d39 chk = true -> ∃ fr', adraw ((gT (m + 1)).cg Y) d39 chk ((((Fr.nil.set 0 (some (.agg (Tm.mk k1 n1 nl1 ex1 l1).cells))).set 1 (some (.agg (Tm.mk k2 n2 nl2 ex2 l2).cells))).set 2 (some (.fptr (Tm.mk k1 n1 nl1 ex1 l1).cells 0))).set 3 (some (.fptr (Tm.mk k2 n2 nl2 ex2 l2).cells 0)) |>.set 4 (some (.int .i64 (.ofNat 0)))) st = .ok fr' st
   /\ fr'.get 5 = some (.int .i64 (orI (cmpI k1 k2) (cmpI n1 n2) (cmpI (.ofNat l1.length) (.ofNat l2.length)))) /\ fr'.get 2 = some (.fptr (Tm.mk k1 n1 nl1 ex1 l1).cells 0) /\ fr'.get 3 = some (.fptr (Tm.mk k2 n2 nl2 ex2 l2).cells 0) /\ fr'.ds = [] := by
  intro chk hc
  refine ⟨?fr, ?h1, ?h2, ?h3, ?h4, ?h5⟩
  case h1 =>
   refine adraw_lin hc rfl ?_
   simp only [amE, reduceEqDiff, ↓reduceIte, reduceCtorEq, reduceAdd, dlin, d39, okLin, frzX, Tm.cells, f0, d0, d1, d2, c1, c2, c3, c4, s1, s2, bs, isSl_sl]
   rfl
  case h2 => simp only [Fr.get_set, reduceEqDiff, ↓reduceIte]
  case h3 => simp only [Fr.get_set, reduceEqDiff, ↓reduceIte, Tm.cells]
  case h4 => simp only [Fr.get_set, reduceEqDiff, ↓reduceIte, Tm.cells]
  case h5 => rfl
 obtain ⟨fr5, hdr, g5, g2, g3, gds⟩ := hd [(6, some 4), (6, some 9), (8, some 4), (8, some 9), (11, some 4), (11, some 9), (11, some 16), (12, some 4), (12, some 9), (12, some 16), (14, some 4), (14, some 9), (14, some 16), (15, some 4), (15, some 9), (15, some 16)] rfl
 unfold d39 at hdr
 simp only [Fr.nil] at hdr
 simp only [Tm.cells] at hdr g2 g3
 unfold cmpT
 by_cases h0 : orI (cmpI k1 k2) (cmpI n1 n2) (cmpI (.ofNat l1.length) (.ofNat l2.length)) = 0
 ·have hne : binB false .neq (.int .i64 (orI (cmpI k1 k2) (cmpI n1 n2) (cmpI (.ofNat l1.length) (.ofNat l2.length)))) (.int .i64 (.ofNat 0)) = some (.bool false) := by rw [neqI, h0]; rfl
  rw [if_pos h0]
  refine ⟨st', ?_, hk⟩
  simp only [amE, reduceEqDiff, ↓reduceIte, reduceCtorEq, reduceAdd, m39, Tm.cells, hdr, f0, d0, d1, d2, g5, g2, g3, hne, hcf', gds]
 ·have hne : binB false .neq (.int .i64 (orI (cmpI k1 k2) (cmpI n1 n2) (cmpI (.ofNat l1.length) (.ofNat l2.length)))) (.int .i64 (.ofNat 0)) = some (.bool true) := by
   rw [neqI]
   have : (orI (cmpI k1 k2) (cmpI n1 n2) (cmpI (.ofNat l1.length) (.ofNat l2.length)) != Int.ofNat 0) = true := by simpa using h0
   rw [this]
  rw [if_neg h0]
  refine ⟨st, ?_, Keeps.refl st⟩
  simp only [amE, reduceEqDiff, ↓reduceIte, reduceCtorEq, reduceAdd, m39, Tm.cells, hdr, g5, hne, gds]
def amB := And.intro @Bool.true_and <| And.intro @Bool.false_and <| And.intro @Bool.true_or <| And.intro @Bool.false_or <| And.intro @Bool.and_true <| And.intro @Bool.and_false <| And.intro @Bool.or_true <| @Bool.or_false
end Go.AM.D16
set_option maxRecDepth 100000
namespace Go.AM.D16
open Go Go.AM
open Nat (reduceEqDiff reduceAdd)
theorem lists_run {E : Type} {n : Nat} {Y : Yenv} {zs : List AV} {nl1 ex1 nl2 ex2 : Bool} {cl : E -> List AV} {xs ys : List E} {c : E -> E -> Int} {g f F : Nat} (hF : (F = 38 /\ f = 68) \/ (F = 40 /\ f = 69)) (hf : tbl f = some (cfM zs)) (hz : zs.length = 3) (h3 : ∀ x ∈ xs, (cl x).length = 3 /\ (cl x).all AV.one = true)
  (h3' : ∀ y ∈ ys, (cl y).length = 3 /\ (cl y).all AV.one = true) (hn1 : nl1 = true -> xs = []) (hn2 : nl2 = true -> ys = []) (hb : xs.length <= 9223372036854775807)
  (hc : ∀ x ∈ xs, ∀ y ∈ ys, CmpTo n Y g (cl x) (cl y) (c x y)) (hn : xs.length < n) (st : St) :
  ∃ st', R (n + 2) Y F [slAV nl1 ex1 (xs.map cl), slAV nl2 ex2 (ys.map cl), .func (.func g) [] []] st = .ret (.int .i64 (cmpL c xs ys)) st' /\ Keeps st st' := by
 obtain ⟨st', h, hk⟩ := cf_runE (ex1 := ex1) (ex2 := ex2) hf hz h3 h3' hn1 hn2 hb hc hn st
 refine ⟨st', ?_, hk⟩
 have h' : ((gT (n + 1)).cg Y).fn f [slAV nl1 ex1 (xs.map cl), slAV nl2 ex2 (ys.map cl), .func (.func g) [] []] st = .ret (.int .i64 (cmpL c xs ys)) st' := h
 unfold R
 rcases hF with ⟨rfl, rfl⟩ | ⟨rfl, rfl⟩
 ·rw [run_of t38]
  unfold abody
  have hle : Nat.ble [slAV nl1 ex1 (xs.map cl), slAV nl2 ex2 (ys.map cl), .func (.func g) [] []].length m38.N = true := rfl
  rw [hle]
  simp only [amE, reduceEqDiff, ↓reduceIte, reduceCtorEq, reduceAdd, m38, h']
 ·rw [run_of t40]
  unfold abody
  have hle : Nat.ble [slAV nl1 ex1 (xs.map cl), slAV nl2 ex2 (ys.map cl), .func (.func g) [] []].length m40.N = true := rfl
  rw [hle]
  simp only [amE, reduceEqDiff, ↓reduceIte, reduceCtorEq, reduceAdd, m40, h']
inductive Dv where
 | mk (r : Int) (nv ev : Bool) (vs : List Tm) (nl ex : Bool) (l : List Dv)
mutual
def Dv.cells : Dv -> List AV
 | .mk r nv ev vs nl ex l => [.int .i64 r, slAV nv ev (Tm.cellsL vs), slAV nl ex (Dv.cellsL l)]
def Dv.cellsL : List Dv -> List (List AV)
 | [] => []
 | t :: l => Dv.cells t :: Dv.cellsL l
end
theorem Dv.cellsL_eq : ∀ l, Dv.cellsL l = l.map Dv.cells
 | [] => by simp only [Dv.cellsL, List.map_nil]
 | t :: l => by simp only [Dv.cellsL, List.map_cons, Dv.cellsL_eq l]
mutual
def Dv.ok : Dv -> Prop
 | .mk _ nv _ vs nl _ l => (nv = true -> vs = []) /\ vs.length <= 9223372036854775807 /\ Tm.okL vs /\ (nl = true -> l = []) /\ l.length <= 9223372036854775807 /\ Dv.okL l
def Dv.okL : List Dv -> Prop
 | [] => True
 | t :: l => t.ok /\ Dv.okL l
end
theorem Dv.okL_mem : ∀ {l : List Dv}, Dv.okL l -> ∀ t ∈ l, t.ok
 | t :: l, h, x, hx => by
  simp only [Dv.okL] at h
  rcases List.mem_cons.1 hx with rfl | hx
  ·exact h.1
  ·exact Dv.okL_mem h.2 x hx
mutual
def Dv.fz : Dv -> Nat
 | .mk _ _ _ vs _ _ l => 20 + vs.length + Tm.fzL vs + l.length + Dv.fzL l
def Dv.fzL : List Dv -> Nat
 | [] => 0
 | t :: l => t.fz + Dv.fzL l
end
theorem Dv.fzL_mem : ∀ {l : List Dv} {t : Dv}, t ∈ l -> t.fz <= Dv.fzL l
 | x :: l, t, h => by
  simp only [Dv.fzL]
  rcases List.mem_cons.1 h with rfl | h
  ·omega
  ·have := Dv.fzL_mem h; omega
mutual
def cmpD : Dv -> Dv -> Int
 | .mk r _ _ vs _ _ l, .mk r' _ _ vs' _ _ l' => orI (cmpI r r') (cmpTs vs vs') (cmpDs l l')
def cmpDs : List Dv -> List Dv -> Int
 | [], [] => .ofNat 0
 | [], _ :: _ => .negSucc 0
 | _ :: _, [] => .ofNat 1
 | x :: xs, y :: ys => if cmpD x y = 0 then cmpDs xs ys else cmpD x y
end
theorem cmpL_cmpDs : ∀ (xs ys : List Dv), cmpL cmpD xs ys = cmpDs xs ys
 | [], [] => by simp [cmpL, walk, cmpDs]
 | [], _ :: _ => by simp [cmpL, walk, cmpDs]
 | _ :: _, [] => by simp [cmpL, walk, cmpDs]
 | x :: xs, y :: ys => by
  have ih := cmpL_cmpDs xs ys
  unfold cmpL at ih ⊢
  simp only [walk, cmpDs]
  by_cases h : cmpD x y = 0
  ·rw [if_pos h, if_pos h, <- ih]
   simp
  ·rw [if_neg h, if_neg h]
theorem Dv.cells3 (t : Dv) : t.cells.length = 3 /\ t.cells.all AV.one = true := by
 cases t with
 | mk r nv ev vs nl ex l =>
  simp only [Dv.cells]
  refine ⟨rfl, ?_⟩
  cases nv <;> cases nl <;> rfl
noncomputable def d9 : List (MOper × Nat) := [(⟨(some 5), .faddr 0 (.t 2), none⟩, 0), (⟨(some 6), .load false 1 (.t 5), none⟩, 1), (⟨(some 7), .faddr 0 (.t 3), none⟩, 0), (⟨(some 8), .load false 1 (.t 7), none⟩, 4), (⟨(some 9), .call (.c (.func (.func 37) [] [])) [(.t 6), (.t 8)], none⟩, 15), (⟨(some 10), .faddr 1 (.t 2), none⟩, 0), (⟨(some 11), .load false 1 (.t 10), none⟩, 32), (⟨(some 12), .faddr 1 (.t 3), none⟩, 0), (⟨(some 13), .load false 1 (.t 12), none⟩, 128), (⟨(some 14), .call (.c (.func (.func 38) [] [])) [(.t 11), (.t 13), (.c (.func (.func 39) [] []))], none⟩, 511), (⟨(some 15), .faddr 2 (.t 2), none⟩, 0), (⟨(some 16), .load false 1 (.t 15), none⟩, 1024), (⟨(some 17), .faddr 2 (.t 3), none⟩, 0), (⟨(some 18), .load false 1 (.t 17), none⟩, 4096), (⟨(some 19), .call (.c (.func (.func 40) [] [])) [(.t 16), (.t 18), (.c (.func (.func 9) [] []))], none⟩, 16383), (⟨(some 20), .bslice 3 [(.int .i64 (.ofNat 0)), (.int .i64 (.ofNat 0)), (.int .i64 (.ofNat 0))] [(0, 1, (.t 9)), (1, 1, (.t 14)), (2, 1, (.t 19))], none⟩, 32767), (⟨(some 21), .call (.c (.func (.func 36) [] [])) [(.t 20)], none⟩, 65535), (⟨(some 4), .mv (.t 21), none⟩, 131071)]
theorem derivCompare (a : Dv) : ∀ (b : Dv) (n : Nat) (Y : Yenv), a.ok -> b.ok -> a.fz <= n -> CmpTo n Y 9 a.cells b.cells (cmpD a b) := by
 induction hs : a.fz using Nat.strongRecOn generalizing a with
 | _ s ih =>
 intro b n Y ha hb hn st
 cases a with
 | mk r1 nv1 ev1 vs1 nl1 ex1 l1 =>
 cases b with
 | mk r2 nv2 ev2 vs2 nl2 ex2 l2 =>
 simp only [Dv.ok] at ha hb
 simp only [Dv.fz] at hs
 obtain ⟨m, rfl⟩ : ∃ m, n = m + 3 := ⟨n - 3, by omega⟩
 suffices h : ∃ st', R (m + 3) Y 9 [.agg (Dv.mk r1 nv1 ev1 vs1 nl1 ex1 l1).cells, .agg (Dv.mk r2 nv2 ev2 vs2 nl2 ex2 l2).cells] st = .ret (.int .i64 (cmpD (.mk r1 nv1 ev1 vs1 nl1 ex1 l1) (.mk r2 nv2 ev2 vs2 nl2 ex2 l2))) st' /\ Keeps st st' from h
 unfold R
 rw [run_of t9]
 unfold abody
 have hle : Nat.ble [AV.agg (Dv.mk r1 nv1 ev1 vs1 nl1 ex1 l1).cells, AV.agg (Dv.mk r2 nv2 ev2 vs2 nl2 ex2 l2).cells].length m9.N = true := rfl
 rw [hle]
 have c1 : ∀ st, ((gT (m + 2)).cg Y).fn 37 [.int .i64 r1, .int .i64 r2] st = .ret (.int .i64 (cmpI r1 r2)) st := fun st => cmpI_at (by omega) Y .i64 r1 r2 st
 have c4 : ∀ x y z st, ((gT (m + 2)).cg Y).fn 36 [.lst 3 [.int .i64 x, .int .i64 y, .int .i64 z] true] st = .ret (.int .i64 (orI x y z)) st := fun x y z st => or_at (by omega) Y x y z st
 obtain ⟨st1, e1, k1⟩ := lists_run (n := m) (Y := Y) (nl1 := nv1) (ex1 := ev1) (nl2 := nv2) (ex2 := ev2) (cl := Tm.cells) (xs := vs1) (ys := vs2) (c := cmpT) (g := 39) (f := 68) (F := 38) (.inl ⟨rfl, rfl⟩) (zs := [(.int .i64 (.ofNat 0)), (.int .i64 (.ofNat 0)), .nilsl]) t68 rfl
  (fun x _ => x.cells3) (fun y _ => y.cells3) ha.1 hb.1 ha.2.1
  (fun x hx y hy => sigCompare x y m Y (Tm.okL_mem ha.2.2.1 x hx) (Tm.okL_mem hb.2.2.1 y hy) (by have := Tm.fzL_mem hx; omega)) (by omega) st
 have c2 : ((gT (m + 2)).cg Y).fn 38 [slAV nv1 ev1 (Tm.cellsL vs1), slAV nv2 ev2 (Tm.cellsL vs2), .func (.func 39) [] []] st = .ret (.int .i64 (cmpTs vs1 vs2)) st1 := by
  rw [Tm.cellsL_eq, Tm.cellsL_eq, <- cmpL_cmpTs]; exact e1
 obtain ⟨st2, e2, k2⟩ := lists_run (n := m) (Y := Y) (nl1 := nl1) (ex1 := ex1) (nl2 := nl2) (ex2 := ex2) (cl := Dv.cells) (xs := l1) (ys := l2) (c := cmpD) (g := 9) (f := 69) (F := 40) (.inr ⟨rfl, rfl⟩) (zs := [(.int .i64 (.ofNat 0)), .nilsl, .nilsl]) t69 rfl
  (fun x _ => x.cells3) (fun y _ => y.cells3) ha.2.2.2.1 hb.2.2.2.1 ha.2.2.2.2.1
  (fun x hx y hy => ih x.fz (by have := Dv.fzL_mem hx; omega) x rfl y m Y (Dv.okL_mem ha.2.2.2.2.2 x hx) (Dv.okL_mem hb.2.2.2.2.2 y hy) (by have := Dv.fzL_mem hx; omega)) (by omega) st1
 have c3 : ((gT (m + 2)).cg Y).fn 40 [slAV nl1 ex1 (Dv.cellsL l1), slAV nl2 ex2 (Dv.cellsL l2), .func (.func 9) [] []] st1 = .ret (.int .i64 (cmpDs l1 l2)) st2 := by
  rw [Dv.cellsL_eq, Dv.cellsL_eq, <- cmpL_cmpDs]; exact e2
 have f0 : ∀ (cs : List AV) (o : Nat), faddrA o (.fptr cs 0) = some (.fptr cs (0 + o)) := fun _ _ => rfl
 have d0 : ∀ (x y z : AV) st, loadA false 1 st (.fptr [x, y, z] 0) = some x := fun _ _ _ _ => rfl
 have d1 : ∀ (x y z : AV) st, loadA false 1 st (.fptr [x, y, z] 1) = some y := fun _ _ _ _ => rfl
 have d2 : ∀ (x y z : AV) st, loadA false 1 st (.fptr [x, y, z] 2) = some z := fun _ _ _ _ => rfl
 have bs : ∀ x y z : Int, fillA [.int .i64 (.ofNat 0), .int .i64 (.ofNat 0), .int .i64 (.ofNat 0)] [(0, 1, .int .i64 x), (1, 1, .int .i64 y), (2, 1, .int .i64 z)] = some [.int .i64 x, .int .i64 y, .int .i64 z] := fun x y z => rfl
 have hd : ∀ chk, chkLoads d9 chk = true -> ∃ fr', adraw ((gT (m + 2)).cg Y) d9 chk ((((Fr.nil.set 0 (some (.agg (Dv.mk r1 nv1 ev1 vs1 nl1 ex1 l1).cells))).set 1 (some (.agg (Dv.mk r2 nv2 ev2 vs2 nl2 ex2 l2).cells))).set 2 (some (.fptr (Dv.mk r1 nv1 ev1 vs1 nl1 ex1 l1).cells 0))).set 3 (some (.fptr (Dv.mk r2 nv2 ev2 vs2 nl2 ex2 l2).cells 0)) |>.set 4 (some (.int .i64 (.ofNat 0)))) st = .ok fr' st2
   /\ fr'.get 4 = some (.int .i64 (orI (cmpI r1 r2) (cmpTs vs1 vs2) (cmpDs l1 l2))) /\ fr'.ds = [] := by
  intro chk hc
  refine ⟨?fr, ?h1, ?h2, ?h5⟩
  case h1 =>
   refine adraw_lin hc rfl ?_
   simp only [amE, reduceEqDiff, ↓reduceIte, reduceCtorEq, reduceAdd, d9, Dv.cells, f0, d0, d1, d2, c1, c2, c3, c4, bs]
   rfl
  case h2 => simp only [Fr.get_set, ↓reduceIte]
  case h5 => rfl
 obtain ⟨fr5, hdr, g4, gds⟩ := hd [(6, some 4), (6, some 9), (8, some 4), (8, some 9), (11, some 4), (11, some 9), (11, some 14), (13, some 4), (13, some 9), (13, some 14)] rfl
 unfold d9 at hdr
 simp only [Fr.nil] at hdr
 simp only [Dv.cells] at hdr
 unfold cmpD
 refine ⟨st2, ?_, k1.trans k2⟩
 simp only [amE, reduceEqDiff, ↓reduceIte, reduceCtorEq, reduceAdd, m9, Dv.cells, hdr, g4, gds]
theorem derivSame (a b : Dv) (n : Nat) (Y : Yenv) (ha : a.ok) (hb : b.ok) (hn : a.fz < n) (st : St) :
  ∃ st', R n Y 10 [.agg a.cells, .agg b.cells] st = .ret (.bool (cmpD a b == 0)) st' /\ Keeps st st' := by
 obtain ⟨m, rfl⟩ : ∃ m, n = m + 1 := ⟨n - 1, by omega⟩
 obtain ⟨st', h, hk⟩ := derivCompare a b m Y ha hb (by omega) st
 refine ⟨st', ?_, hk⟩
 have h' : ((gT m).cg Y).fn 9 [.agg a.cells, .agg b.cells] st = .ret (.int .i64 (cmpD a b)) st' := h
 have eq : binB false .eql (.int .i64 (cmpD a b)) (.int .i64 (.ofNat 0)) = some (.bool (cmpD a b == 0)) := rfl
 obtain ⟨x, y, z, hx⟩ : ∃ x y z, a.cells = [x, y, z] := by cases a; simp only [Dv.cells]; exact ⟨_, _, _, rfl⟩
 obtain ⟨x', y', z', hx'⟩ : ∃ x y z, b.cells = [x, y, z] := by cases b; simp only [Dv.cells]; exact ⟨_, _, _, rfl⟩
 have ld : ∀ (x y z : AV) st, loadA true 3 st (.fptr [x, y, z] 0) = some (.agg [x, y, z]) := fun _ _ _ _ => rfl
 rw [hx, hx'] at h' ⊢
 unfold R
 rw [run_of t10]
 unfold abody
 have hle : Nat.ble [AV.agg [x, y, z], AV.agg [x', y', z']].length m10.N = true := rfl
 rw [hle]
 simp only [amE, reduceEqDiff, ↓reduceIte, reduceCtorEq, reduceAdd, m10, ld, h', eq]
end Go.AM.D16
