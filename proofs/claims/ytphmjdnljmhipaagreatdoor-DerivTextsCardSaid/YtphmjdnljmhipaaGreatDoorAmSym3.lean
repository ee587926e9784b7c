import Derived.Test.YtphmjdnljmhipaaGreatDoorAmFast2
import Derived.Test.YtphmjdnljmhipaaGreatDoorAmTbl
import Derived.KernelRfl
set_option linter.unusedSimpArgs false
set_option linter.unusedVariables false
set_option linter.defProp false
set_option maxRecDepth 100000
namespace Go.AM.D16
open Go Go.AM
open Nat (reduceEqDiff reduceAdd)
theorem run_of {tbl : Nat -> Option MFunc} {hand : Gam -> Nat -> Yenv -> Nat -> List AV -> St -> FR} {f : Nat} {mf : MFunc} (h : tbl f = some mf) (n : Nat) (Y : Yenv) (args : List AV) (st : St) :
  arunC tbl hand (n + 1) Y f args st = abody (gamT tbl hand n) Y n (defT tbl (gamT tbl hand n) Y n) mf args st := by
 simp only [arunC, h]; rfl
theorem body_ret {Γ : Gam} {Y : Yenv} {n : Nat} {DF : Nat -> List AV -> St -> DM -> Option (DM × St)} {mf : MFunc} {args : List AV} {st st' : St} {fr : Fr} {v : AV} (hle : args.length <= mf.N)
  (h : acode Γ Y n mf.code none (frOf 0 args Fr.nil) st = .ret fr st') (hd : fr.ds = []) (hr : ressA fr st' mf.res = some [v]) : abody Γ Y n DF mf args st = .ret v st' := by
 unfold abody
 rw [Nat.ble_eq_true_of_le hle]
 simp only [cond_true, h, endF, hd, aleaves, resultA, hr]
theorem t37 : tbl 37 = some m37 := by kernel_rfl
theorem t9 : tbl 9 = some m9 := by kernel_rfl
noncomputable abbrev gT (n : Nat) : Gam := gamT tbl hnd n
noncomputable abbrev R (n : Nat) (Y : Yenv) : Nat -> List AV -> St -> FR := arunC tbl hnd n Y
theorem cg_fn (n : Nat) (Y : Yenv) : ((gT n).cg Y).fn = R n Y := rfl
def cmpI (x y : Int) : Int := if x < y then .negSucc 0 else if y < x then .ofNat 1 else .ofNat 0
theorem wr_nat {i : Nat} (h : i <= 9223372036854775807) : wr .i64 (.ofNat i) = .ofNat i := by
 have : in64 (.ofNat i) = true := Nat.ble_eq_true_of_le h
 simp only [wr, this, cond_true]
theorem add1 {i : Nat} (h : i + 1 <= 9223372036854775807) : binB false .add (.int .i64 (.ofNat i)) (.int .i64 (.ofNat 1)) = some (.int .i64 (.ofNat (i + 1))) := by
 show some (AV.int .i64 (wr .i64 (.ofNat (i + 1)))) = _
 rw [wr_nat h]
theorem lssN (i n : Nat) : binB false .lss (.int .i64 (.ofNat i)) (.int .i64 (.ofNat n)) = some (.bool (decide (i < n))) := by
 show some (AV.bool (decide ((Int.ofNat i) < Int.ofNat n))) = _
 congr 2
 simp
theorem geqN (i n : Nat) : binB false .geq (.int .i64 (.ofNat i)) (.int .i64 (.ofNat n)) = some (.bool (decide (n <= i))) := by
 show some (AV.bool (decide ((Int.ofNat i) >= Int.ofNat n))) = _
 congr 2
 simp
def orI (a b c : Int) : Int := if a ≠ 0 then a else if b ≠ 0 then b else c
def Keeps (st st' : St) : Prop := st.next <= st'.next /\ ∀ id, id < st.next -> st'.get id = st.get id
theorem Keeps.refl (st : St) : Keeps st st := ⟨Nat.le_refl _, fun _ _ => rfl⟩
theorem Keeps.trans {a b c : St} (h : Keeps a b) (k : Keeps b c) : Keeps a c := ⟨Nat.le_trans h.1 k.1, fun id hi => (k.2 id (Nat.lt_of_lt_of_le hi h.1)).trans (h.2 id hi)⟩
theorem Keeps.new (st : St) (o : AO) : Keeps st (st.new o) := ⟨by simp, fun id hi => by rw [St.get_new, if_neg (by omega)]⟩
theorem Keeps.put {st st' : St} (h : Keeps st st') (id : Nat) (o : AO) (hid : st.next <= id) : Keeps st (st'.put id o) := ⟨h.1, fun i hi => by rw [St.get_put, if_neg (by omega)]; exact h.2 i hi⟩
def slAV (nl ex : Bool) (xs : List (List AV)) : AV := bif nl then .nilsl else .lst xs.length xs.flatten ex
theorem flat_at {xs : List (List AV)} (h3 : ∀ x ∈ xs, x.length = 3) : ∀ {i : Nat} {x : List AV}, xs[i]? = some x -> (xs.flatten.drop (i * 3)).take 3 = x := by
 induction xs with
 | nil => intro i x h; simp at h
 | cons y ys ih =>
  intro i x h
  have hy := h3 y (by simp)
  cases i with
  | zero =>
   simp only [List.getElem?_cons_zero, Option.some.injEq] at h; subst h
   simp only [List.flatten_cons, Nat.zero_mul, List.drop_zero]
   rw [List.take_append_of_le_length (by omega), List.take_of_length_le (by omega)]
  | succ i =>
   simp only [List.getElem?_cons_succ] at h
   have := ih (fun x hx => h3 x (by simp [hx])) h
   rw [<- this]
   congr 1
   simp only [List.flatten_cons]
   rw [show (i + 1) * 3 = y.length + i * 3 by omega, List.drop_append]
   simp
theorem mem_flat {x : List AV} : ∀ {xs : List (List AV)}, x ∈ xs -> x.length <= xs.flatten.length
 | y :: ys, h => by
  simp only [List.flatten_cons, List.length_append]
  rcases List.mem_cons.1 h with rfl | h
  ·omega
  ·have := mem_flat h; omega
theorem iaddr_sl {nl ex : Bool} {xs : List (List AV)} (h3 : ∀ x ∈ xs, x.length = 3) (hnl : nl = true -> xs = []) {i : Nat} {x : List AV} (hx : xs[i]? = some x) :
  iaddrA 3 (slAV nl ex xs) (.int .i64 (.ofNat i)) = some (.fptr xs.flatten (i * 3)) := by
 have hi := (List.getElem?_eq_some_iff.1 hx).1
 cases nl with
 | true => rw [hnl rfl] at hi; simp at hi
 | false =>
  simp only [slAV, cond_false, iaddrA]
  rw [Nat.ble_eq_true_of_le (show i + 1 <= xs.length from hi)]
  simp only [cond_true]
  split
  ·rename_i he
   have hm : x ∈ xs := List.mem_of_getElem? hx
   have h1 := h3 x hm
   have h2 := mem_flat hm
   rw [he, h1] at h2
   simp at h2
  ·rfl
theorem load_sl {xs : List (List AV)} (h3 : ∀ x ∈ xs, x.length = 3) {i : Nat} {x : List AV} (hx : xs[i]? = some x) (st : St) : loadA true 3 st (.fptr xs.flatten (i * 3)) = some (.agg x) := by
 simp only [loadA, cellsAt, Option.bind_some, flat_at h3 hx, ofCells, cond_true]
 rw [h3 x (List.mem_of_getElem? hx)]
 rfl
theorem len_sl (nl ex : Bool) (xs : List (List AV)) (hnl : nl = true -> xs = []) (st : St) : (bif lenFits 0 (slAV nl ex xs) then lenA st (slAV nl ex xs) else none) = some (.int .i64 (.ofNat xs.length)) := by
 cases nl with
 | true => rw [hnl rfl]; rfl
 | false => rfl
theorem store_new {st : St} {zs x : List AV} (hz : zs.length = 3) (hx : x.length = 3) (h1 : x.all AV.one = true) : storeA 3 (st.new (.row zs)) (.ptr st.next 0) (.agg x) = some ((st.new (.row zs)).put st.next (.row x)) := by
 simp only [storeA, St.get_new, if_true, AV.cells, hx, hz, h1]
 have : setCells zs 0 x = x := by
  simp only [setCells, List.take_zero, List.nil_append, Nat.zero_add]
  rw [List.drop_of_length_le (by omega)]; simp
 rw [this]; rfl
theorem load_row {st : St} {id : Nat} {x : List AV} (hg : st.get id = some (.row x)) (hx : x.length = 3) : loadA true 3 st (.ptr id 0) = some (.agg x) := by
 simp only [loadA, cellsAt, hg, Option.bind_some, List.drop_zero]
 rw [List.take_of_length_le (by omega)]
 simp only [ofCells, cond_true, hx]
 rfl
section
variable {n : Nat} {Y : Yenv} {zs : List AV} {nl1 ex1 nl2 ex2 : Bool} {xs ys : List (List AV)} {c : List AV -> List AV -> Int} {g : Nat}
end
end Go.AM.D16
set_option maxRecDepth 100000
namespace Go.AM.D16
open Go Go.AM
open Nat (reduceEqDiff reduceAdd)
def isSl : AV -> Bool
 | .lst _ _ _ => true
 | .nilsl => true
 | _ => false
theorem avBeq_len (n : Nat) : avBeq (.int .i64 (.ofNat n)) (.int .i64 (.ofNat n)) = true := by
 show (_ && Nat.beq n n) = true
 rw [Nat.beq_refl]; rfl
def okLin (fr : Fr) : MOp -> Bool
 | .alloc _ => false
 | .len _ x => isSl (ev fr x)
 | .load _ _ x => frzX fr x
 | _ => true
def dlin (Γ : Cg) : List (MOper × Nat) -> Fr -> St -> Option (Fr × St)
 | [], fr, st => some (fr, st)
 | z :: zs, fr, st => match z.1.guard with
  | some _ => none
  | none => bif okLin fr z.1.op then match opr Γ fr st z.1.op with
    | .val v st' => dlin Γ zs (Fr.put fr z.1.dst v) st'
    | _ => none else none
theorem arun_nil {Γ : Cg} {fr : Fr} {st : St} : arun Γ [] fr st = .ok fr st := rfl
theorem arun_nd {Γ : Cg} {d : Option Nat} {op : MOp} {g : Option (Nat × Bool)} {ms : List MOper} {fr : Fr} {st : St} (hd : op.isDefer = false) :
  arun Γ (⟨d, op, g⟩ :: ms) fr st = match wantedA fr g with
   | some true => (match opr Γ fr st op with
    | .val v st' => arun Γ ms (Fr.put fr d v) st'
    | .pan v st' => .pan fr v st'
    | .stuck => .stuck)
   | some false => arun Γ ms (Fr.put fr d .undef) st
   | none => .stuck := by
 conv => lhs; unfold arun
 rw [hd]
 rfl
section
variable {Γ : Cg} {dst : Option Nat} {gd : Option (Nat × Bool)} {ms : List MOper} {fr : Fr} {st : St}
theorem nd_mv {x} : arun Γ (⟨dst, (MOp.mv x), gd⟩ :: ms) fr st = match wantedA fr gd with
 | some true => (match opr Γ fr st (MOp.mv x) with
  | .val v st' => arun Γ ms (Fr.put fr dst v) st'
  | .pan v st' => .pan fr v st'
  | .stuck => .stuck)
 | some false => arun Γ ms (Fr.put fr dst .undef) st
 | none => .stuck := arun_nd rfl
theorem nd_pick {a b c} : arun Γ (⟨dst, (MOp.pick a b c), gd⟩ :: ms) fr st = match wantedA fr gd with
 | some true => (match opr Γ fr st (MOp.pick a b c) with
  | .val v st' => arun Γ ms (Fr.put fr dst v) st'
  | .pan v st' => .pan fr v st'
  | .stuck => .stuck)
 | some false => arun Γ ms (Fr.put fr dst .undef) st
 | none => .stuck := arun_nd rfl
theorem nd_alloc {x} : arun Γ (⟨dst, (MOp.alloc x), gd⟩ :: ms) fr st = match wantedA fr gd with
 | some true => (match opr Γ fr st (MOp.alloc x) with
  | .val v st' => arun Γ ms (Fr.put fr dst v) st'
  | .pan v st' => .pan fr v st'
  | .stuck => .stuck)
 | some false => arun Γ ms (Fr.put fr dst .undef) st
 | none => .stuck := arun_nd rfl
theorem nd_box {a x} : arun Γ (⟨dst, (MOp.box a x), gd⟩ :: ms) fr st = match wantedA fr gd with
 | some true => (match opr Γ fr st (MOp.box a x) with
  | .val v st' => arun Γ ms (Fr.put fr dst v) st'
  | .pan v st' => .pan fr v st'
  | .stuck => .stuck)
 | some false => arun Γ ms (Fr.put fr dst .undef) st
 | none => .stuck := arun_nd rfl
theorem nd_build {a b} : arun Γ (⟨dst, (MOp.build a b), gd⟩ :: ms) fr st = match wantedA fr gd with
 | some true => (match opr Γ fr st (MOp.build a b) with
  | .val v st' => arun Γ ms (Fr.put fr dst v) st'
  | .pan v st' => .pan fr v st'
  | .stuck => .stuck)
 | some false => arun Γ ms (Fr.put fr dst .undef) st
 | none => .stuck := arun_nd rfl
theorem nd_bslice {a b c} : arun Γ (⟨dst, (MOp.bslice a b c), gd⟩ :: ms) fr st = match wantedA fr gd with
 | some true => (match opr Γ fr st (MOp.bslice a b c) with
  | .val v st' => arun Γ ms (Fr.put fr dst v) st'
  | .pan v st' => .pan fr v st'
  | .stuck => .stuck)
 | some false => arun Γ ms (Fr.put fr dst .undef) st
 | none => .stuck := arun_nd rfl
theorem nd_load {a b c} : arun Γ (⟨dst, (MOp.load a b c), gd⟩ :: ms) fr st = match wantedA fr gd with
 | some true => (match opr Γ fr st (MOp.load a b c) with
  | .val v st' => arun Γ ms (Fr.put fr dst v) st'
  | .pan v st' => .pan fr v st'
  | .stuck => .stuck)
 | some false => arun Γ ms (Fr.put fr dst .undef) st
 | none => .stuck := arun_nd rfl
theorem nd_store {a b c} : arun Γ (⟨dst, (MOp.store a b c), gd⟩ :: ms) fr st = match wantedA fr gd with
 | some true => (match opr Γ fr st (MOp.store a b c) with
  | .val v st' => arun Γ ms (Fr.put fr dst v) st'
  | .pan v st' => .pan fr v st'
  | .stuck => .stuck)
 | some false => arun Γ ms (Fr.put fr dst .undef) st
 | none => .stuck := arun_nd rfl
theorem nd_nilchk {x} : arun Γ (⟨dst, (MOp.nilchk x), gd⟩ :: ms) fr st = match wantedA fr gd with
 | some true => (match opr Γ fr st (MOp.nilchk x) with
  | .val v st' => arun Γ ms (Fr.put fr dst v) st'
  | .pan v st' => .pan fr v st'
  | .stuck => .stuck)
 | some false => arun Γ ms (Fr.put fr dst .undef) st
 | none => .stuck := arun_nd rfl
theorem nd_bin {a b c d} : arun Γ (⟨dst, (MOp.bin a b c d), gd⟩ :: ms) fr st = match wantedA fr gd with
 | some true => (match opr Γ fr st (MOp.bin a b c d) with
  | .val v st' => arun Γ ms (Fr.put fr dst v) st'
  | .pan v st' => .pan fr v st'
  | .stuck => .stuck)
 | some false => arun Γ ms (Fr.put fr dst .undef) st
 | none => .stuck := arun_nd rfl
theorem nd_un {a b} : arun Γ (⟨dst, (MOp.un a b), gd⟩ :: ms) fr st = match wantedA fr gd with
 | some true => (match opr Γ fr st (MOp.un a b) with
  | .val v st' => arun Γ ms (Fr.put fr dst v) st'
  | .pan v st' => .pan fr v st'
  | .stuck => .stuck)
 | some false => arun Γ ms (Fr.put fr dst .undef) st
 | none => .stuck := arun_nd rfl
theorem nd_faddr {a b} : arun Γ (⟨dst, (MOp.faddr a b), gd⟩ :: ms) fr st = match wantedA fr gd with
 | some true => (match opr Γ fr st (MOp.faddr a b) with
  | .val v st' => arun Γ ms (Fr.put fr dst v) st'
  | .pan v st' => .pan fr v st'
  | .stuck => .stuck)
 | some false => arun Γ ms (Fr.put fr dst .undef) st
 | none => .stuck := arun_nd rfl
theorem nd_iaddr {a b c} : arun Γ (⟨dst, (MOp.iaddr a b c), gd⟩ :: ms) fr st = match wantedA fr gd with
 | some true => (match opr Γ fr st (MOp.iaddr a b c) with
  | .val v st' => arun Γ ms (Fr.put fr dst v) st'
  | .pan v st' => .pan fr v st'
  | .stuck => .stuck)
 | some false => arun Γ ms (Fr.put fr dst .undef) st
 | none => .stuck := arun_nd rfl
theorem nd_len {a b} : arun Γ (⟨dst, (MOp.len a b), gd⟩ :: ms) fr st = match wantedA fr gd with
 | some true => (match opr Γ fr st (MOp.len a b) with
  | .val v st' => arun Γ ms (Fr.put fr dst v) st'
  | .pan v st' => .pan fr v st'
  | .stuck => .stuck)
 | some false => arun Γ ms (Fr.put fr dst .undef) st
 | none => .stuck := arun_nd rfl
theorem nd_call {a b} : arun Γ (⟨dst, (MOp.call a b), gd⟩ :: ms) fr st = match wantedA fr gd with
 | some true => (match opr Γ fr st (MOp.call a b) with
  | .val v st' => arun Γ ms (Fr.put fr dst v) st'
  | .pan v st' => .pan fr v st'
  | .stuck => .stuck)
 | some false => arun Γ ms (Fr.put fr dst .undef) st
 | none => .stuck := arun_nd rfl
theorem nd_eqnil {a b c d e} : arun Γ (⟨dst, (MOp.eqnil a b c d e), gd⟩ :: ms) fr st = match wantedA fr gd with
 | some true => (match opr Γ fr st (MOp.eqnil a b c d e) with
  | .val v st' => arun Γ ms (Fr.put fr dst v) st'
  | .pan v st' => .pan fr v st'
  | .stuck => .stuck)
 | some false => arun Γ ms (Fr.put fr dst .undef) st
 | none => .stuck := arun_nd rfl
theorem nd_extract {a b} : arun Γ (⟨dst, (MOp.extract a b), gd⟩ :: ms) fr st = match wantedA fr gd with
 | some true => (match opr Γ fr st (MOp.extract a b) with
  | .val v st' => arun Γ ms (Fr.put fr dst v) st'
  | .pan v st' => .pan fr v st'
  | .stuck => .stuck)
 | some false => arun Γ ms (Fr.put fr dst .undef) st
 | none => .stuck := arun_nd rfl
theorem nd_field {a b c d} : arun Γ (⟨dst, (MOp.field a b c d), gd⟩ :: ms) fr st = match wantedA fr gd with
 | some true => (match opr Γ fr st (MOp.field a b c d) with
  | .val v st' => arun Γ ms (Fr.put fr dst v) st'
  | .pan v st' => .pan fr v st'
  | .stuck => .stuck)
 | some false => arun Γ ms (Fr.put fr dst .undef) st
 | none => .stuck := arun_nd rfl
theorem nd_append {a b c d e} : arun Γ (⟨dst, (MOp.append a b c d e), gd⟩ :: ms) fr st = match wantedA fr gd with
 | some true => (match opr Γ fr st (MOp.append a b c d e) with
  | .val v st' => arun Γ ms (Fr.put fr dst v) st'
  | .pan v st' => .pan fr v st'
  | .stuck => .stuck)
 | some false => arun Γ ms (Fr.put fr dst .undef) st
 | none => .stuck := arun_nd rfl
theorem nd_conv {a b} : arun Γ (⟨dst, (MOp.conv a b), gd⟩ :: ms) fr st = match wantedA fr gd with
 | some true => (match opr Γ fr st (MOp.conv a b) with
  | .val v st' => arun Γ ms (Fr.put fr dst v) st'
  | .pan v st' => .pan fr v st'
  | .stuck => .stuck)
 | some false => arun Γ ms (Fr.put fr dst .undef) st
 | none => .stuck := arun_nd rfl
theorem nd_mkif {a b} : arun Γ (⟨dst, (MOp.mkif a b), gd⟩ :: ms) fr st = match wantedA fr gd with
 | some true => (match opr Γ fr st (MOp.mkif a b) with
  | .val v st' => arun Γ ms (Fr.put fr dst v) st'
  | .pan v st' => .pan fr v st'
  | .stuck => .stuck)
 | some false => arun Γ ms (Fr.put fr dst .undef) st
 | none => .stuck := arun_nd rfl
end
noncomputable def amE :=
 And.intro @Go.AM.acode.eq_1 <| And.intro @Go.AM.acode.eq_2 <| And.intro @Go.AM.acode.eq_3 <| And.intro @Go.AM.acode.eq_4 <| And.intro @Go.AM.acode.eq_5 <| And.intro @Go.AM.acode.eq_6 <| And.intro @Go.AM.acode.eq_7 <| And.intro @Go.AM.acode.eq_8 <| And.intro @Go.AM.acode.eq_9 <| And.intro @Go.AM.acode.eq_10 <| And.intro @Go.AM.acode.eq_11 <| And.intro @Go.AM.opr.eq_1 <| And.intro @Go.AM.opr.eq_2 <| And.intro @Go.AM.aop.eq_1 <| And.intro @Go.AM.aop.eq_2 <| And.intro @Go.AM.aop.eq_3 <| And.intro @Go.AM.aop.eq_4 <| And.intro @Go.AM.aop.eq_5 <| And.intro @Go.AM.aop.eq_6 <| And.intro @Go.AM.aop.eq_7 <| And.intro @Go.AM.aop.eq_8 <| And.intro @Go.AM.aop.eq_9 <| And.intro @Go.AM.aop.eq_10 <| And.intro @Go.AM.aop.eq_11 <| And.intro @Go.AM.aop.eq_12 <| And.intro @Go.AM.aop.eq_13 <| And.intro @Go.AM.aop.eq_14 <| And.intro @Go.AM.aop.eq_15 <| And.intro @Go.AM.aop.eq_16 <| And.intro @Go.AM.aop.eq_17 <| And.intro @Go.AM.aop.eq_18 <| And.intro @Go.AM.aop.eq_19 <| And.intro @Go.AM.aop.eq_20 <| And.intro @Go.AM.aop.eq_21 <| And.intro @Go.AM.aop.eq_22 <| And.intro @Go.AM.aop.eq_23 <| And.intro @Go.AM.aop.eq_24 <| And.intro @Go.AM.aop.eq_25 <| And.intro @Go.AM.aop.eq_26 <| And.intro @Go.AM.aop.eq_27 <| And.intro @Go.AM.aop.eq_28 <| And.intro @Go.AM.aop.eq_29 <| And.intro @Go.AM.aop.eq_30 <| And.intro @Go.AM.aop.eq_31 <| And.intro @Go.AM.aop.eq_32 <| And.intro @Go.AM.aop.eq_33 <| And.intro @Go.AM.aop.eq_34 <| And.intro @Go.AM.aop.eq_35 <| And.intro @Go.AM.aop.eq_36 <| And.intro @Go.AM.aop.eq_37 <| And.intro @Go.AM.aop.eq_38 <| And.intro @Go.AM.aop.eq_39 <| And.intro @Go.AM.aop.eq_40 <| And.intro @Go.AM.aop.eq_41 <| And.intro @Go.AM.aop.eq_42 <| And.intro @Go.AM.aop.eq_43 <| And.intro @Go.AM.aop.eq_44 <| And.intro @Go.AM.aop.eq_45 <| And.intro @Go.AM.aop.eq_46 <| And.intro @Go.AM.aop.eq_47 <| And.intro @Go.AM.aop.eq_48 <| And.intro @Go.AM.ev.eq_1 <| And.intro @Go.AM.ev.eq_2 <| And.intro @Go.AM.frOf.eq_1 <| And.intro @Go.AM.frOf.eq_2 <| And.intro @Go.AM.Fr.put.eq_1 <| And.intro @Go.AM.Fr.put.eq_2 <| And.intro @Go.AM.wantedA.eq_1 <| And.intro @Go.AM.wantedA.eq_2 <| And.intro @Go.AM.OpR.of.eq_1 <| And.intro @Go.AM.OpR.of.eq_2 <| And.intro @Go.AM.OpR.ofSt.eq_1 <| And.intro @Go.AM.OpR.ofSt.eq_2 <| And.intro @Go.AM.callR.eq_1 <| And.intro @Go.AM.callR.eq_2 <| And.intro @Go.AM.callR.eq_3 <| And.intro @Go.AM.FR.toOp.eq_1 <| And.intro @Go.AM.FR.toOp.eq_2 <| And.intro @Go.AM.FR.toOp.eq_3 <| And.intro @Go.AM.endF.eq_1 <| And.intro @Go.AM.aleaves.eq_1 <| And.intro @Go.AM.aleaves.eq_2 <| And.intro @Go.AM.aleaves.eq_3 <| And.intro @Go.AM.resultA.eq_1 <| And.intro @Go.AM.ressA.eq_1 <| And.intro @Go.AM.ressA.eq_2 <| And.intro @Go.AM.resA.eq_1 <| And.intro @Go.AM.resA.eq_2 <| And.intro @Go.AM.Fr.nil.eq_1 <| And.intro @Go.AM.AV.cells.eq_1 <| And.intro @Go.AM.AV.cells.eq_2 <| And.intro @Go.AM.evParts.eq_1 <| And.intro @dlin.eq_1 <| And.intro @dlin.eq_2 <| And.intro @okLin.eq_1 <| And.intro @okLin.eq_2 <| And.intro @okLin.eq_3 <| And.intro @okLin.eq_4 <| And.intro @Go.AM.frzX.eq_1 <| And.intro @arun_nil <| And.intro @nd_mv <| And.intro @nd_pick <| And.intro @nd_alloc <| And.intro @nd_box <| And.intro @nd_build <| And.intro @nd_bslice <| And.intro @nd_load <| And.intro @nd_store <| And.intro @nd_nilchk <| And.intro @nd_bin <| And.intro @nd_un <| And.intro @nd_faddr <| And.intro @nd_iaddr <| And.intro @nd_len <| And.intro @nd_call <| And.intro @nd_eqnil <| And.intro @nd_extract <| And.intro @nd_field <| And.intro @nd_append <| And.intro @nd_conv <| And.intro @nd_mkif <| And.intro @Fr.get_set <| And.intro @Fr.set_ds <| And.intro @Option.getD_some.{0} <| And.intro @Option.bind_some.{0,0} <| And.intro @Option.map_some.{0,0} <| And.intro @cond_true.{1} <| And.intro @cond_false.{1} <| And.intro @List.map_cons.{0,0} <| And.intro @List.map_nil.{0,0} <| And.intro @List.nil_append.{0} <| And.intro @List.append_nil.{0} <| @List.cons_append.{0}
def CmpTo (n : Nat) (Y : Yenv) (g : Nat) (x y : List AV) (v : Int) : Prop := ∀ st, ∃ st', R n Y g [.agg x, .agg y] st = .ret (.int .i64 v) st' /\ Keeps st st'
theorem CmpTo.one {n : Nat} {Y : Yenv} {g : Nat} {x y : List AV} {v u : Int} (h : CmpTo n Y g x y v) (k : CmpTo n Y g x y u) : v = u := by
 obtain ⟨s1, h1, _⟩ := h ⟨0, .nil, .nil⟩
 obtain ⟨s2, h2, _⟩ := k ⟨0, .nil, .nil⟩
 rw [h1] at h2
 injection h2 with h2 _
 injection h2
inductive Tm where
 | mk (k n : Int) (nl ex : Bool) (l : List Tm)
mutual
def Tm.cells : Tm -> List AV
 | .mk k n nl ex l => [.int .i64 k, .int .i64 n, slAV nl ex (Tm.cellsL l)]
def Tm.cellsL : List Tm -> List (List AV)
 | [] => []
 | t :: l => Tm.cells t :: Tm.cellsL l
end
theorem Tm.cellsL_eq : ∀ l, Tm.cellsL l = l.map Tm.cells
 | [] => by simp only [Tm.cellsL, List.map_nil]
 | t :: l => by simp only [Tm.cellsL, List.map_cons, Tm.cellsL_eq l]
mutual
def Tm.ok : Tm -> Prop
 | .mk _ _ nl _ l => (nl = true -> l = []) /\ l.length <= 9223372036854775807 /\ Tm.okL l
def Tm.okL : List Tm -> Prop
 | [] => True
 | t :: l => t.ok /\ Tm.okL l
end
theorem Tm.okL_mem : ∀ {l : List Tm}, Tm.okL l -> ∀ t ∈ l, t.ok
 | t :: l, h, x, hx => by
  simp only [Tm.okL] at h
  rcases List.mem_cons.1 hx with rfl | hx
  ·exact h.1
  ·exact Tm.okL_mem h.2 x hx
mutual
def Tm.fz : Tm -> Nat
 | .mk _ _ _ _ l => 12 + l.length + Tm.fzL l
def Tm.fzL : List Tm -> Nat
 | [] => 0
 | t :: l => t.fz + Tm.fzL l
end
theorem Tm.fzL_mem : ∀ {l : List Tm} {t : Tm}, t ∈ l -> t.fz <= Tm.fzL l
 | x :: l, t, h => by
  simp only [Tm.fzL]
  rcases List.mem_cons.1 h with rfl | h
  ·omega
  ·have := Tm.fzL_mem h; omega
mutual
def cmpT : Tm -> Tm -> Int
 | .mk k n _ _ l, .mk k' n' _ _ l' => if orI (cmpI k k') (cmpI n n') (cmpI (.ofNat l.length) (.ofNat l'.length)) = 0 then cmpTs l l' else orI (cmpI k k') (cmpI n n') (cmpI (.ofNat l.length) (.ofNat l'.length))
def cmpTs : List Tm -> List Tm -> Int
 | [], [] => .ofNat 0
 | [], _ :: _ => .negSucc 0
 | _ :: _, [] => .ofNat 1
 | x :: xs, y :: ys => if cmpT x y = 0 then cmpTs xs ys else cmpT x y
end
theorem Tm.cells3 (t : Tm) : t.cells.length = 3 /\ t.cells.all AV.one = true := by
 cases t with
 | mk k n nl ex l =>
  simp only [Tm.cells]
  refine ⟨rfl, ?_⟩
  cases nl <;> rfl
def amB := And.intro @Bool.true_and <| And.intro @Bool.false_and <| And.intro @Bool.true_or <| And.intro @Bool.false_or <| And.intro @Bool.and_true <| And.intro @Bool.and_false <| And.intro @Bool.or_true <| @Bool.or_false
end Go.AM.D16
set_option maxRecDepth 100000
namespace Go.AM.D16
open Go Go.AM
open Nat (reduceEqDiff reduceAdd)
inductive Dv where
 | mk (r : Int) (nv ev : Bool) (vs : List Tm) (nl ex : Bool) (l : List Dv)
mutual
def Dv.cells : Dv -> List AV
 | .mk r nv ev vs nl ex l => [.int .i64 r, slAV nv ev (Tm.cellsL vs), slAV nl ex (Dv.cellsL l)]
def Dv.cellsL : List Dv -> List (List AV)
 | [] => []
 | t :: l => Dv.cells t :: Dv.cellsL l
end
theorem Dv.cellsL_eq : ∀ l, Dv.cellsL l = l.map Dv.cells
 | [] => by simp only [Dv.cellsL, List.map_nil]
 | t :: l => by simp only [Dv.cellsL, List.map_cons, Dv.cellsL_eq l]
mutual
def Dv.ok : Dv -> Prop
 | .mk _ nv _ vs nl _ l => (nv = true -> vs = []) /\ vs.length <= 9223372036854775807 /\ Tm.okL vs /\ (nl = true -> l = []) /\ l.length <= 9223372036854775807 /\ Dv.okL l
def Dv.okL : List Dv -> Prop
 | [] => True
 | t :: l => t.ok /\ Dv.okL l
end
theorem Dv.okL_mem : ∀ {l : List Dv}, Dv.okL l -> ∀ t ∈ l, t.ok
 | t :: l, h, x, hx => by
  simp only [Dv.okL] at h
  rcases List.mem_cons.1 hx with rfl | hx
  ·exact h.1
  ·exact Dv.okL_mem h.2 x hx
mutual
def Dv.fz : Dv -> Nat
 | .mk _ _ _ vs _ _ l => 20 + vs.length + Tm.fzL vs + l.length + Dv.fzL l
def Dv.fzL : List Dv -> Nat
 | [] => 0
 | t :: l => t.fz + Dv.fzL l
end
theorem Dv.fzL_mem : ∀ {l : List Dv} {t : Dv}, t ∈ l -> t.fz <= Dv.fzL l
 | x :: l, t, h => by
  simp only [Dv.fzL]
  rcases List.mem_cons.1 h with rfl | h
  ·omega
  ·have := Dv.fzL_mem h; omega
mutual
def cmpD : Dv -> Dv -> Int
 | .mk r _ _ vs _ _ l, .mk r' _ _ vs' _ _ l' => orI (cmpI r r') (cmpTs vs vs') (cmpDs l l')
def cmpDs : List Dv -> List Dv -> Int
 | [], [] => .ofNat 0
 | [], _ :: _ => .negSucc 0
 | _ :: _, [] => .ofNat 1
 | x :: xs, y :: ys => if cmpD x y = 0 then cmpDs xs ys else cmpD x y
end
theorem Dv.cells3 (t : Dv) : t.cells.length = 3 /\ t.cells.all AV.one = true := by
 cases t with
 | mk r nv ev vs nl ex l =>
  simp only [Dv.cells]
  refine ⟨rfl, ?_⟩
  cases nv <;> cases nl <;> rfl
end Go.AM.D16
