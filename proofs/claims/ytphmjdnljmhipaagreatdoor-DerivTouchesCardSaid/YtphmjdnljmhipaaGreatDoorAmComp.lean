import Derived.Test.YtphmjdnljmhipaaGreatDoorAmOp11
import Derived.Laws.Tables
namespace Go.AM
theorem Fr.get_set (fr : Fr) (n m : Nat) (o : Option AV) : (fr.set n o).get m = if m = n then o else fr.get m := Tr.get_set ..
theorem Fr.get_nil (n : Nat) : Fr.nil.get n = none := Tr.get_nil n
@[simp] theorem Fr.set_ds (fr : Fr) (n : Nat) (o : Option AV) : (fr.set n o).ds = fr.ds := rfl
mutual
def cv : Nat → Value → Option AV
  | 0, _ => none
  | f + 1, v => match v with
    | .bool b => some (.bool b)
    | .int k n => some (.int k n)
    | .string s => some (.str (s.data.toList.map (·.toNat)))
    | .pointer none => some .nilptr
    | .slice none 0 0 => some .nilsl
    | .map none => some .nilmap
    | .nilFunc => some .nilfn
    | .nilIface => some .niface
    | .iface t x => (cv f x).map (.iface t)
    | .agg cs => (cvL f cs.toList).map .agg
    | .tuple cs => (cvL f cs.toList).map .tuple
    | _ => none
def cvL : Nat → List Value → Option (List AV)
  | 0, _ => none
  | _ + 1, [] => some []
  | f + 1, v :: vs => (cv f v).bind fun x => (cvL f vs).map (x :: ·)
end
def cx : Operand → Option X
  | .tmp t => some (.t t)
  | .const v => (cv 400 v).map .c
  | .func f => some (.c (.func (.func f) [] []))
  | .global _ => none
def cxs : List Operand → Option (List X)
  | [] => some []
  | o :: os => (cx o).bind fun x => (cxs os).map (x :: ·)
def cxo : Option Operand → Option (Option X)
  | none => some none
  | some o => (cx o).map some
def cparts (place : Nat → Option (Nat × Nat)) : List (Nat × Operand) → Option (List (Nat × Nat × X))
  | [] => some []
  | (i, o) :: ps => (place i).bind fun p => (cx o).bind fun x => (cparts place ps).map ((p.1, p.2, x) :: ·)
def zcells (i : TypeInfo) : Option (List AV) := i.zero.bind fun z => cvL 400 z.cells.toList
def isConst : Operand → Bool
  | .const _ => true
  | _ => false
def keyStr : TypeDesc → Option Bool
  | .string => some true
  | .int _ => some false
  | _ => none
section
variable {E : Env} {w : World}
mutual
theorem cv_sound : ∀ (f : Nat) (v : Value) (x : AV), cv f v = some x → Rv E w x v
  | 0, _, _, h => by simp [cv] at h
  | f + 1, v, x, h => by
    unfold cv at h
    split at h <;> simp only [Option.some.injEq, Option.map_eq_some_iff, reduceCtorEq] at h
    · subst h; rfl
    · subst h; rfl
    · subst h; exact ⟨_, rfl, rfl⟩
    · subst h; rfl
    · subst h; rfl
    · subst h; rfl
    · subst h; rfl
    · subst h; rfl
    · obtain ⟨y, h, rfl⟩ := h; exact ⟨_, rfl, cv_sound f _ _ h⟩
    · obtain ⟨y, h, rfl⟩ := h; exact ⟨_, rfl, cvL_sound f _ _ h⟩
    · obtain ⟨y, h, rfl⟩ := h; exact ⟨_, rfl, cvL_sound f _ _ h⟩
theorem cvL_sound : ∀ (f : Nat) (vs : List Value) (xs : List AV), cvL f vs = some xs → RvL E w xs vs
  | 0, _, _, h => by simp [cvL] at h
  | f + 1, [], xs, h => by simp [cvL] at h; subst h; rfl
  | f + 1, v :: vs, xs, h => by
    simp only [cvL, Option.bind_eq_some_iff, Option.map_eq_some_iff] at h
    obtain ⟨x, h1, ys, h2, rfl⟩ := h
    exact ⟨v, vs, rfl, cv_sound f v x h1, cvL_sound f vs ys h2⟩
end
def RvF (E : Env) (w : World) (fr : Fr) (a : Act) : Prop := ∀ n, Rv E w ((fr.get n).getD .undef) (a.tmps.getD n undef)
variable {fr : Fr} {a : Act}
theorem cx_sound {o : Operand} {x : X} (hf : RvF E w fr a) (h : cx o = some x) : Rv E w (ev fr x) (a.eval o) := by
  cases o <;> simp only [cx, Option.some.injEq, Option.map_eq_some_iff, reduceCtorEq] at h
  · subst h; exact hf _
  · obtain ⟨y, h, rfl⟩ := h; exact cv_sound _ _ _ h
  · subst h; exact ⟨#[], #[], rfl, rfl, rfl⟩
theorem cxs_sound : ∀ {os : List Operand} {xs : List X}, RvF E w fr a → cxs os = some xs → RvL E w (xs.map (ev fr)) (os.map a.eval)
  | [], xs, _, h => by simp [cxs] at h; subst h; rfl
  | o :: os, xs, hf, h => by
    simp only [cxs, Option.bind_eq_some_iff, Option.map_eq_some_iff] at h
    obtain ⟨x, h1, ys, h2, rfl⟩ := h
    exact ⟨_, _, rfl, cx_sound hf h1, cxs_sound hf h2⟩
theorem cxo_sound {o : Option Operand} {x : Option X} (hf : RvF E w fr a) (h : cxo o = some x) : RvO E w (x.map (ev fr)) (o.map a.eval) := by
  cases o with
  | none => simp [cxo] at h; subst h; rfl
  | some o =>
    simp only [cxo, Option.map_eq_some_iff] at h
    obtain ⟨y, h, rfl⟩ := h
    exact ⟨_, rfl, cx_sound hf h⟩
theorem cparts_sound {place : Nat → Option (Nat × Nat)} : ∀ {ps : List (Nat × Operand)} {xs : List (Nat × Nat × X)}, RvF E w fr a → cparts place ps = some xs →
    RvParts E w (evParts fr xs) (ps.map fun p => (p.1, a.eval p.2)) place
  | [], xs, _, h => by simp [cparts] at h; subst h; rfl
  | (i, o) :: ps, xs, hf, h => by
    simp only [cparts, Option.bind_eq_some_iff, Option.map_eq_some_iff] at h
    obtain ⟨p, h0, x, h1, ys, h2, rfl⟩ := h
    exact ⟨i, a.eval o, _, rfl, h0, cx_sound hf h1, cparts_sound hf h2⟩
theorem zcells_sound {i : TypeInfo} {zs : List AV} (h : zcells i = some zs) : ∃ z, i.zero = some z ∧ ∀ E w, RvL E w zs z.cells.toList := by
  simp only [zcells, Option.bind_eq_some_iff] at h
  obtain ⟨z, h1, h2⟩ := h
  exact ⟨z, h1, fun E w => cvL_sound _ _ _ h2⟩
def OpOk (E : Env) (w : World) (r : OpR) (res : Result Next) : Prop :=
  match r with
  | .val v st => ∃ u w' E', (res = .ok (.value u) w' ∨ (res = .ok .skip w' ∧ u = undef)) ∧ Ext E w E' w' ∧ Sat E' st w' ∧ Rv E' w' v u
  | .pan v st => ∃ u w' E', res = .halt (.panic u) w' ∧ Ext E w E' w' ∧ Sat E' st w' ∧ Rv E' w' v u
  | .stuck => True
theorem OpOk.of {st : St} {r : Option AV} {s : Sem Value} {P : Program} (hs : Sat E st w) (h : ∀ v, r = some v → ∃ u, s.run P w = .ok u w ∧ Rv E w v u) :
    OpOk E w (OpR.of st r) ((do pure (.value (← s)) : Sem Next).run P w) := by
  cases r with
  | none => trivial
  | some v =>
    obtain ⟨u, h1, h2⟩ := h v rfl
    exact ⟨u, w, E, .inl (by simp [h1]), Ext.refl _ _, hs, h2⟩
theorem OpOk.of2 {r : Option (AV × St)} {s : Sem Value} {P : Program} (h : ∀ v st, r = some (v, st) → ∃ u w' E', s.run P w = .ok u w' ∧ Ext E w E' w' ∧ Sat E' st w' ∧ Rv E' w' v u) :
    OpOk E w (OpR.of2 r) ((do pure (.value (← s)) : Sem Next).run P w) := by
  cases r with
  | none => trivial
  | some q =>
    obtain ⟨v, st⟩ := q
    obtain ⟨u, w', E', h1, h2, h3, h4⟩ := h v st rfl
    exact ⟨u, w', E', .inl (by simp [h1]), h2, h3, h4⟩
theorem OpOk.ofSt {r : Option St} {s : Sem Unit} {P : Program} (h : ∀ st, r = some st → ∃ w', s.run P w = .ok () w' ∧ Sat E st w' ∧ Ext E w E w') :
    OpOk E w (OpR.ofSt r) ((do s; pure .skip : Sem Next).run P w) := by
  cases r with
  | none => trivial
  | some st =>
    obtain ⟨w', h1, h2, h3⟩ := h st rfl
    exact ⟨undef, w', E, .inr ⟨by simp [h1], rfl⟩, h3, h2, rfl⟩
end
end Go.AM
namespace Go.AM
def lenKind : TypeDesc → Option Nat
  | .slice _ => some 0
  | .string => some 1
  | .map _ _ => some 2
  | _ => none
def isBool : TypeDesc → Bool
  | .bool => true
  | _ => false
def isEq : BinOp → Bool
  | .eql => true
  | .neq => true
  | _ => false
def isU8 (P : Program) (e : TypeId) : Bool :=
  match P.underlying e with
  | some (.int .u8) => true
  | _ => false
def ptrSized (P : Program) (d : TypeDesc) : Bool :=
  match d with
  | .pointer q => (match P.info? q with | some i => !(i.size.beq 0) | none => false)
  | _ => false
def cbin (P : Program) (op : BinOp) (t : TypeId) (x y : Operand) : Option MOp :=
  (P.underlying t).bind fun d => (cx x).bind fun cx' => (cx y).bind fun cy' =>
  match nilClass d with
  | some c => bif isEq op && (!(c.beq 4) || isConst x || isConst y) then some (.eqnil c (ptrSized P d) op cx' cy') else none
  | none => some (.bin (isBool d) op cx' cy')
def cbuild (P : Program) (t : TypeId) (ps : Array (Nat × Operand)) : Option MOp :=
  (P.info? t).bind fun i => (zcells i).bind fun zs =>
  match P.underlying t with
  | some (.struct fs) => (fs.toList.mapM (fun f => (P.info? f.type).map fun i => (f.offset, i.size))).bind fun places =>
    (cparts (places.toArray[·]?) ps.toList).map (.build zs)
  | some (.array _ e) => (P.info? e).bind fun ie => (cparts (fun k => some (k * ie.size, ie.size)) ps.toList).map (.build zs)
  | _ => none
def zrow (n : Nat) (z : Value) (sz : Nat) : Array Value :=
  (Array.range (n * sz)).map ((if n * sz = 0 then #[] else z.cells)[· % (if n * sz = 0 then #[] else z.cells).size]!)
def cbslice (P : Program) (t : TypeId) (n : Nat) (ps : Array (Nat × Operand)) : Option MOp :=
  match P.underlying t with
  | some (.slice e) => (P.info? e).bind fun i => i.zero.bind fun z => (cvL 4000 (zrow n z i.size).toList).bind fun zs =>
    bif (n * i.size).ble 16777216 then (cparts (fun k => some (k * i.size, i.size)) ps.toList).map (.bslice n zs) else none
  | _ => none
def cappend (P : Program) (ts : Array TypeId) (x y : Operand) : Option MOp :=
  (ts[0]?).bind fun t => (ts[1]?).bind fun u => match P.underlying t with
    | some (.slice e) => (P.info? e).bind fun i => i.zero.bind fun z =>
      match P.underlying u with
      | some (.int _) => (zcells i).bind fun zs => (cx x).bind fun x => (cx y).map (.appendz i.bytes i.size zs x)
      | _ => bif z.cells.size.beq i.size && (match P.underlying u with | some (.slice _) => true | some .string => true | _ => false) then
        (cx x).bind fun x => (cx y).map (.append i.bytes i.size (bif isU8 P e then some e else none) x) else none
    | _ => none
def cbuiltin (P : Program) (b : Builtin) (ts : Array TypeId) (args : List Operand) : Option MOp :=
  match args with
  | [] => none
  | x :: xs => match b with
    | .max => (cx x).bind fun x => (cxs xs).map (.max x)
    | .min => (cx x).bind fun x => (cxs xs).map (.min x)
    | .len => match xs with
      | [] => (ts[0]?).bind fun t => (P.underlying t).bind fun d => (lenKind d).bind fun c => (cx x).map (.len c)
      | _ => none
    | .cap => match xs with
      | [] => (ts[0]?).bind fun t => match P.underlying t with
        | some (.slice _) => (cx x).map .cap
        | _ => none
      | _ => none
    | .panic => match xs with
      | [] => (cx x).map .panic
      | _ => none
    | .append => match xs with
      | [y] => cappend P ts x y
      | _ => none
    | .copy => match xs with
      | [y] => (ts[0]?).bind fun t => match P.underlying t with
        | some (.slice e) => (P.info? e).bind fun i => (cx x).bind fun x => (cx y).map (.copy i.size x)
        | _ => none
      | _ => none
    | .unsafeSliceData => match xs with
      | [] => (cx x).map .sdat
      | _ => none
    | .unsafeString => match xs with
      | [y] => (ts[0]?).bind fun pt => match P.underlying pt with
        | some (.pointer u) => (P.info? u).bind fun i => bif i.size.beq 1 then (cx x).bind fun x => (cx y).map (.ustr u x) else none
        | _ => none
      | _ => none
    | _ => none
def cconv (P : Program) (ds : TypeDesc) (t : TypeId) (x : Operand) : Option MOp :=
  match P.underlying t with
  | some (.int k) => (cx x).map (.conv k)
  | some (.slice e) => match ds with
    | .string => bif isU8 P e then (cx x).map .s2b else none
    | _ => none
  | some .string => match ds with
    | .slice e => bif isU8 P e then (cx x).map .b2s else none
    | _ => none
  | some .unsafePointer => match ds with
    | .pointer q => (P.info? q).bind fun i => bif i.size.beq 0 then none else (cx x).map .ptou
    | _ => none
  | some (.pointer u) => match ds with
    | .unsafePointer => (P.info? u).bind fun i => bif i.size.beq 0 then none else (cx x).map (.utop u i.size)
    | _ => none
  | _ => none
def cop1 (P : Program) (fz : Bool) (o : Oper) : Option MOp :=
  match o.op with
  | .move x => (cx x).map .mv
  | .assign x => (cx x).map .mv
  | .pick c a b => (cx c).bind fun c => (cx a).bind fun a => (cx b).map (.pick c a)
  | .alloc t => (P.info? t).bind fun i => (zcells i).map fun zs => bif fz then .allocT t zs else .alloc zs
  | .box _ x => (cx x).map (.box fz)
  | .build t ps => cbuild P t ps
  | .buildSlice t n ps => cbslice P t n ps
  | .load t x => (P.underlying t).bind fun d => (P.info? t).bind fun i => (cx x).map (.load (aggOf d) i.size)
  | .store t a x => (P.info? t).bind fun i => (cx a).bind fun a => (cx x).map (.store i.size a)
  | .nilCheck x => (cx x).map .nilchk
  | .binOp op t x y _ => cbin P op t x y
  | .unOp op _ x => (cx x).map (.un op)
  | .convert s t x => (P.underlying s).bind fun ds => cconv P ds t x
  | .makeInterface t x => (P.underlying t).bind fun d => bif notIface d then (cx x).map (.mkif t) else none
  | .makeFunc (.func f) xs ys => (cxs xs.toList).bind fun xs => (cxs ys.toList).map (.mkfn f xs)
  | .makeMap t none => match P.underlying t with
    | some (.map _ _) => some .mkmap
    | _ => none
  | .makeSlice t l c => match P.underlying t with
    | some (.slice e) => (P.info? e).bind fun i => (zcells i).bind fun zs => (cx l).bind fun l => (cx c).map (.mksl i.bytes i.size zs l)
    | _ => none
  | .slice t x lo hi mx => (cx x).bind fun x => (cxo lo).bind fun lo => (cxo hi).bind fun hi => (cxo mx).bind fun mx =>
    match P.underlying t with
    | some (.slice e) => (P.info? e).map fun i => .slice i.size x lo hi mx
    | some .string => match mx with
      | none => some (.sliceS x lo hi)
      | some _ => none
    | _ => none
  | .fieldAddr s x f => match P.underlying s with
    | some (.struct fs) => (fs[f]?).bind fun fd => (P.info? fd.type).bind fun i => bif i.size.beq 0 then none else (cx x).map (.faddr fd.offset)
    | _ => none
  | .field s x f => match P.underlying s with
    | some (.struct fs) => (fs[f]?).bind fun fd => (P.info? fd.type).bind fun i => (P.underlying fd.type).bind fun d => (cx x).map (.field (aggOf d) fd.offset i.size)
    | _ => none
  | .indexAddr t x i => (cx x).bind fun x => (cx i).bind fun i => match P.underlying t with
    | some (.slice e) => (P.info? e).map fun ie => .iaddr ie.size x i
    | some (.array n e) => (P.info? e).map fun ie => .aaddr n ie.size x i
    | _ => none
  | .index t x i => (cx x).bind fun x => (cx i).bind fun i => match P.underlying t with
    | some .string => some (.sidx x i)
    | some (.array n e) => (P.info? e).bind fun ie => (P.underlying e).map fun d => .aidx (aggOf d) n ie.size x i
    | _ => none
  | .lookup t m k ok => match P.underlying t with
    | some (.map kt et) => (P.underlying kt).bind fun d => (keyStr d).bind fun str => (P.info? et).bind fun i => i.zero.bind fun z => (cv 400 z).bind fun zero =>
      (cx m).bind fun m => (cx k).map (.lookup str zero ok m)
    | _ => none
  | .mapUpdate t m k v => match P.underlying t with
    | some (.map kt _) => (P.underlying kt).bind fun d => (keyStr d).bind fun str => (cx m).bind fun m => (cx k).bind fun k => (cx v).map (.mapup str m k)
    | _ => none
  | .typeAssert x _ t ok => (P.underlying t).bind fun d => bif notIface d then (P.info? t).bind fun i => i.zero.bind fun z => (cv 400 z).bind fun zero => (cx x).map (.tassert t zero ok) else none
  | .extract x i => (cx x).map (.extract i)
  | .panic x => (cx x).map .panic
  | .call { callee := .builtin b, args, argTypes } => cbuiltin P b argTypes args.toList
  | _ => none
def MOp.isCall : MOp → Bool
  | .call _ _ => true
  | _ => false
def MOp.special : MOp → Bool
  | .defer _ _ => true
  | .recov => true
  | _ => false
def ccall (o : Oper) : Option MOp :=
  match o.op with
  | .call { callee := .value f, args, argTypes := _ } => (cx f).bind fun f => (cxs args.toList).map (.call f)
  | _ => none
def cop (P : Program) (fz : Bool) (o : Oper) : Option MOp :=
  match ccall o with
  | some m => some m
  | none => (cop1 P fz o).bind fun m => bif m.isCall || m.special then none else some m
section
variable {E : Env} {w : World} {P : Program} {fr : Fr} {a : Act} {st : St}
theorem keyStr_desc {d : TypeDesc} {str : Bool} (h : keyStr d = some str) : keyDesc str d := by
  cases d <;> simp [keyStr] at h <;> subst h
  · exact .inr ⟨rfl, _, rfl⟩
  · exact .inl ⟨rfl, rfl⟩
theorem panic_sound {x : AV} {v : Value} (hs : Sat E st w) (hx : Rv E w x v) :
    OpOk E w (panicR st x) ((do pure (.value (← Instr.panic v)) : Sem Next).run P w) := by
  cases x <;> try exact trivial
  have h0 := hx
  obtain ⟨y, rfl, hy⟩ := hx
  exact ⟨_, w, E, by simp [Instr.panic], Ext.refl _ _, hs, h0⟩
theorem cbin_sound {op : BinOp} {t u : TypeId} {x y : Operand} {m : MOp} {o : Oper} (ho : o.op = .binOp op t x y u) (hf : RvF E w fr a) (hs : Sat E st w) (hc : cbin P op t x y = some m) :
    OpOk E w (aop fr st m) ((execOp a.eval o).run P w) := by
  simp only [cbin, Option.bind_eq_some_iff] at hc
  obtain ⟨d, hd, x', hx, y', hy, hc⟩ := hc
  have e1 : execOp a.eval o = (do pure (.value (← (do eqGuard op t x y (a.eval x) (a.eval y); binOp op t (a.eval x) (a.eval y) : Sem Value))) : Sem Next) := by simp only [execOp, ho]
  rw [e1]
  cases hn : nilClass d with
  | none =>
    simp only [hn, Option.some.injEq] at hc; subst hc
    refine OpOk.of hs fun v hv => ?_
    have hv' : binA op (ev fr x') (ev fr y') = some v ∧ ((∃ b, ev fr x' = .bool b) → isBool d = true) := by
      unfold binB at hv
      split at hv
      · cases hb : isBool d
        · simp [hb] at hv
        · rename_i he; simp only [hb, cond_true] at hv; exact ⟨hv, fun _ => rfl⟩
      · rename_i hne; exact ⟨hv, fun ⟨b, hb⟩ => absurd hb (hne b)⟩
    exact binA_sound (cx_sound hf hx) (cx_sound hf hy) hv'.1 fun hb => by
      have := hv'.2 hb
      cases d <;> simp [isBool] at this
      exact hd
  | some c =>
    simp only [hn] at hc
    cases hcond : (isEq op && (!(c.beq 4) || isConst x || isConst y))
    · simp [hcond] at hc
    · simp only [hcond, cond_true, Option.some.injEq] at hc; subst hc
      simp only [Bool.and_eq_true] at hcond
      have hop : op = .eql ∨ op = .neq := by
        cases op <;> first | exact .inl rfl | exact .inr rfl | (have := hcond.1; simp [isEq] at this; done)
      refine OpOk.of hs fun v hv => ?_
      cases hq : eqNilA c op (ev fr x') (ev fr y') with
      | none =>
        rw [hq] at hv
        simp only at hv
        cases hpz : ptrSized P d
        · simp [hpz] at hv
        · simp only [hpz, cond_true] at hv
          refine eqPtrA_sound hd hn hop (fun q hdq => ?_) (cx_sound hf hx) (cx_sound hf hy) hv
          subst hdq
          unfold ptrSized at hpz
          simp only at hpz
          split at hpz
          · rename_i i hi
            exact ⟨i, hi, fun h => by rw [h] at hpz; simp at hpz⟩
          · cases hpz
      | some v' =>
      rw [hq] at hv
      simp only [Option.some.injEq] at hv
      subst hv
      refine eqNilA_sound hd hn ?_ ?_ (cx_sound hf hx) (cx_sound hf hy) hq
      · cases op <;> first | exact .inl rfl | exact .inr rfl | (have := hcond.1; simp [isEq] at this; done)
      · intro h4; subst h4
        have := hcond.2
        simp at this
        rcases this with h | h
        · left; cases x <;> simp [isConst] at h; exact ⟨_, rfl⟩
        · right; cases y <;> simp [isConst] at h; exact ⟨_, rfl⟩
theorem cbuild_sound {t : TypeId} {ps : Array (Nat × Operand)} {m : MOp} {o : Oper} (ho : o.op = .build t ps) (hf : RvF E w fr a) (hs : Sat E st w) (hc : cbuild P t ps = some m) :
    OpOk E w (aop fr st m) ((execOp a.eval o).run P w) := by
  simp only [cbuild, Option.bind_eq_some_iff] at hc
  obtain ⟨i, hi, zs, hz, hc⟩ := hc
  obtain ⟨z, hz0, hzs⟩ := zcells_sound hz
  have e1 : execOp a.eval o = (do pure (.value (← Instr.build t (ps.map fun (i, x) => (i, a.eval x)))) : Sem Next) := by simp only [execOp, ho]
  rw [e1]
  have hps : (ps.map fun (i, x) => (i, a.eval x)).toList = ps.toList.map fun p => (p.1, a.eval p.2) := by simp
  cases hd : P.underlying t with
  | none => simp [hd] at hc
  | some d =>
    cases d <;> try (simp only [hd, reduceCtorEq] at hc; done)
    case array n e =>
      simp only [hd, Option.bind_eq_some_iff, Option.map_eq_some_iff] at hc
      obtain ⟨ie, hie, xs, hxs, rfl⟩ := hc
      refine OpOk.of hs fun v hv => ?_
      simp only [Option.map_eq_some_iff] at hv
      obtain ⟨r, hr, rfl⟩ := hv
      obtain ⟨out, h1, h2⟩ := fillA_sound (evParts fr xs) (ps.map fun (i, x) => (i, a.eval x)).toList zs r z.cells (by rw [hps]; exact cparts_sound hf hxs) (hzs E w) hr
      exact ⟨.agg out, run_build (P := P) w t _ out (by simp only [Program.built, hi, hd, hz0, hie]; exact h1), out, rfl, h2⟩
    case struct fs =>
      simp only [hd, Option.bind_eq_some_iff, Option.map_eq_some_iff] at hc
      obtain ⟨places, hpl, xs, hxs, rfl⟩ := hc
      refine OpOk.of hs fun v hv => ?_
      simp only [Option.map_eq_some_iff] at hv
      obtain ⟨r, hr, rfl⟩ := hv
      obtain ⟨out, h1, h2⟩ := fillA_sound (evParts fr xs) (ps.map fun (i, x) => (i, a.eval x)).toList zs r z.cells (by rw [hps]; exact cparts_sound hf hxs) (hzs E w) hr
      exact ⟨.agg out, run_build (P := P) w t _ out (by simp only [Program.built, hi, hd, hz0, hpl]; exact h1), out, rfl, h2⟩
theorem cbslice_sound {t : TypeId} {n : Nat} {ps : Array (Nat × Operand)} {m : MOp} {o : Oper} (ho : o.op = .buildSlice t n ps) (hf : RvF E w fr a) (hs : Sat E st w) (hc : cbslice P t n ps = some m) :
    OpOk E w (aop fr st m) ((execOp a.eval o).run P w) := by
  unfold cbslice at hc
  cases hd : P.underlying t with
  | none => simp [hd] at hc
  | some d =>
    cases d <;> simp only [hd, reduceCtorEq] at hc
    rename_i e
    simp only [Option.bind_eq_some_iff] at hc
    obtain ⟨i, hi, z, hz, zs, hzs, hc⟩ := hc
    cases hb : (n * i.size).ble 16777216
    · simp [hb] at hc
    · simp only [hb, cond_true, Option.map_eq_some_iff] at hc
      obtain ⟨xs, hxs, rfl⟩ := hc
      have e1 : execOp a.eval o = (do pure (.value (← Instr.buildSlice t n (ps.map fun (i, x) => (i, a.eval x)))) : Sem Next) := by simp only [execOp, ho]
      rw [e1]
      have hps : (ps.map fun (i, x) => (i, a.eval x)).toList = ps.toList.map fun p => (p.1, a.eval p.2) := by simp
      simp only [aop]
      cases hr : fillA zs (evParts fr xs) with
      | none => trivial
      | some r =>
        obtain ⟨w', E', h1, h2, h3, h4⟩ := bslice_sound (E := E) (w := w) (st := st) hd hi hz (Nat.le_of_ble_eq_true hb) (fun E w => cvL_sound _ _ _ hzs) (ps := evParts fr xs) (l := ps.map fun (i, x) => (i, a.eval x))
          (by rw [hps]; exact cparts_sound hf hxs) hr hs
        exact ⟨_, w', E', .inl (by simp [h1]), h2, h3, h4⟩
theorem cbuiltin_sound {b : Builtin} {ts : Array TypeId} {args : Array Operand} {m : MOp} {o : Oper} (ho : o.op = .call { callee := .builtin b, args, argTypes := ts }) (hf : RvF E w fr a) (hs : Sat E st w)
    (hc : cbuiltin P b ts args.toList = some m) : OpOk E w (aop fr st m) ((execOp a.eval o).run P w) := by
  have e1 : ∀ s : Sem Value, (∀ cs, builtin b ts o.type cs (args.map a.eval) = (do pure (.value (← s)) : Sem Next)) → execOp a.eval o = (do pure (.value (← s)) : Sem Next) := fun s hs => by
    simp only [execOp, ho, resolve, invoke]
    simp only [pure_bind]
    exact hs _
  have hargs : ∀ l, args.toList = l → args.map a.eval = (l.map a.eval).toArray := fun l hl => by
    apply Array.ext'; simp [hl]
  cases hl0 : args.toList with
  | nil => simp [hl0, cbuiltin] at hc
  | cons x xs =>
  rw [hl0] at hc
  cases b <;> simp only [cbuiltin] at hc <;> try (simp only [reduceCtorEq] at hc; done)
  case append =>
    cases xs with
    | nil => simp at hc
    | cons y ys =>
    cases ys with
    | cons _ _ => simp at hc
    | nil =>
    have hl := hl0
    simp only [cappend, Option.bind_eq_some_iff] at hc
    obtain ⟨t, ht0, u, hu0, hc⟩ := hc
    cases hd : P.underlying t with
    | none => simp [hd] at hc
    | some d =>
      cases d <;> try (simp only [hd, reduceCtorEq] at hc; done)
      rename_i e
      simp only [hd, Option.bind_eq_some_iff] at hc
      obtain ⟨i, hi, z, hz, hc⟩ := hc
      split at hc
      · rename_i ki hu
        simp only [Option.bind_eq_some_iff, Option.map_eq_some_iff] at hc
        obtain ⟨zs, hzs, x', hx, y', hy, rfl⟩ := hc
        obtain ⟨z', hz', hzs'⟩ := zcells_sound hzs
        rw [hz] at hz'; injection hz' with hz'; subst hz'
        rw [e1 (Builtin.append_ ts o.type (args.map a.eval)) fun cs => rfl, hargs _ hl]
        exact OpOk.of2 fun v st' hv => appendzA_sound (ty := o.type) ht0 hd hi hz hu0 hu hzs' hs (cx_sound hf hx) (cx_sound hf hy) hv
      cases hcond : (z.cells.size.beq i.size && (match P.underlying u with | some (.slice _) => true | some .string => true | _ => false))
      · simp [hcond] at hc
      · simp only [hcond, cond_true, Option.bind_eq_some_iff, Option.map_eq_some_iff] at hc
        obtain ⟨x', hx, y', hy, rfl⟩ := hc
        simp only [Bool.and_eq_true] at hcond
        have hzs := Nat.eq_of_beq_eq_true hcond.1
        obtain ⟨du, hu, hni⟩ : ∃ du, P.underlying u = some du ∧ sliceOrString du := by
          have := hcond.2
          cases hu : P.underlying u with
          | none => simp [hu] at this
          | some du => cases du <;> simp [hu] at this <;> first | exact ⟨_, rfl, .inl ⟨_, rfl⟩⟩ | exact ⟨_, rfl, .inr rfl⟩
        rw [e1 (Builtin.append_ ts o.type (args.map a.eval)) fun cs => rfl, hargs _ hl]
        simp only [aop]
        cases hcont : contentA i.size st (ev fr y') with
        | none => trivial
        | some p =>
          obtain ⟨n, ys⟩ := p
          simp only []
          cases happ : appendA i.bytes i.size st (ev fr x') n ys with
          | none => trivial
          | some q =>
            obtain ⟨v, st'⟩ := q
            obtain ⟨vs, h1, h2, h3, h4⟩ := contentA_sound (P := P) hs (cx_sound hf hy) hcont
            obtain ⟨q, w', E', k1, k2, k3, k4, k5⟩ := appendA_sound (ty := o.type) ht0 hd hi hz hu0 hu hni hzs hs (cx_sound hf hx) h1 h2 h3 h4 happ
            exact ⟨q, w', E', .inl (by simpa using congrArg (fun r => Result.andThen r fun v w => Result.ok (Next.value v) w) k1), k2, tagA_sound k3 (appendA_bt happ) hs (cx_sound hf hx) k4 k5 (fun t ht => by
              cases h8 : isU8 P e
              · simp [h8] at ht
              · simp only [h8, cond_true, Option.some.injEq] at ht; exact ht.symm), k4⟩
  case copy =>
    cases xs with
    | nil => simp at hc
    | cons y ys =>
    cases ys with
    | cons _ _ => simp at hc
    | nil =>
    have hl := hl0
    simp only [Option.bind_eq_some_iff] at hc
    obtain ⟨t, ht0, hc⟩ := hc
    cases hd : P.underlying t with
    | none => simp [hd] at hc
    | some d =>
      cases d <;> try (simp only [hd, reduceCtorEq] at hc; done)
      simp only [hd, Option.bind_eq_some_iff, Option.map_eq_some_iff] at hc
      obtain ⟨i, hi, x', hx, y', hy, rfl⟩ := hc
      rw [e1 (Builtin.copy_ ts o.type (args.map a.eval)) fun cs => rfl, hargs _ hl]
      exact OpOk.of2 fun v st' hv => copyA_sound (ty := o.type) ht0 hd hi hs (cx_sound hf hx) (cx_sound hf hy) hv
  case unsafeSliceData =>
    cases xs with
    | cons _ _ => simp at hc
    | nil =>
    have hl := hl0
    simp only [Option.map_eq_some_iff] at hc
    obtain ⟨x', hx, rfl⟩ := hc
    rw [e1 (Builtin.unsafeSliceData_ ts o.type (args.map a.eval)) fun cs => rfl, hargs _ hl]
    exact OpOk.of hs fun v hv => sdatA_sound (cx_sound hf hx) hv
  case unsafeString =>
    cases xs with
    | nil => simp at hc
    | cons y ys =>
    cases ys with
    | cons _ _ => simp at hc
    | nil =>
    have hl := hl0
    simp only [Option.bind_eq_some_iff] at hc
    obtain ⟨pt, ht0, hc⟩ := hc
    split at hc <;> try (simp only [reduceCtorEq] at hc; done)
    rename_i u hpt
    simp only [Option.bind_eq_some_iff] at hc
    obtain ⟨i, hi, hc⟩ := hc
    cases h1 : i.size.beq 1
    · simp [h1] at hc
    · simp only [h1, cond_true, Option.bind_eq_some_iff, Option.map_eq_some_iff] at hc
      obtain ⟨x', hx, y', hy, rfl⟩ := hc
      rw [e1 (Builtin.unsafeString_ ts o.type (args.map a.eval)) fun cs => rfl, hargs _ hl]
      exact OpOk.of2 fun v st' hv => ustrA_sound (ty := o.type) ht0 hpt hi (Nat.eq_of_beq_eq_true h1) hs (cx_sound hf hx) (cx_sound hf hy) hv
  case cap =>
    cases xs with
    | cons _ _ => simp at hc
    | nil =>
    have hl := hl0
    simp only [Option.bind_eq_some_iff] at hc
    obtain ⟨t, ht0, hc⟩ := hc
    cases hd : P.underlying t with
    | none => simp [hd] at hc
    | some d =>
      cases d <;> try (simp only [hd, reduceCtorEq] at hc; done)
      simp only [hd, Option.map_eq_some_iff] at hc
      obtain ⟨x', hx, rfl⟩ := hc
      rw [e1 (Builtin.cap_ ts o.type (args.map a.eval)) fun cs => rfl, hargs _ hl]
      exact OpOk.of hs fun v hv => capA_sound ht0 hd (cx_sound hf hx) hv
  case len =>
    cases xs with
    | cons _ _ => simp at hc
    | nil =>
    have hl := hl0
    simp only [Option.bind_eq_some_iff, Option.map_eq_some_iff] at hc
    obtain ⟨t, ht0, d, hd, c, hk, x', hx, rfl⟩ := hc
    rw [e1 (Builtin.len_ ts o.type (args.map a.eval)) fun cs => rfl, hargs _ hl]
    refine OpOk.of hs fun v hv => ?_
    cases hfit : lenFits c (ev fr x')
    · simp [hfit] at hv
    · simp only [hfit, cond_true] at hv
      have hcl : lenOk (ev fr x') d := by
        cases d <;> simp [lenKind] at hk <;> subst hk <;> cases hx' : ev fr x' <;> simp [hx', lenFits] at hfit <;> simp [lenOk]
      exact lenA_sound ht0 hd hcl hs (cx_sound hf hx) hv
  case max =>
    have hl := hl0
    simp only [Option.bind_eq_some_iff, Option.map_eq_some_iff] at hc
    obtain ⟨x', hx, xs', hxs, rfl⟩ := hc
    rw [e1 (Builtin.max_ ts o.type (args.map a.eval)) fun cs => rfl, hargs _ hl]
    refine OpOk.of hs fun v hv => ?_
    obtain ⟨q, h1, h2⟩ := foldA_sound (P := P) (f := maxA) (g := Builtin.max2) (fun x y r v u h1 h2 h3 => maxA_sound h1 h2 h3) _ _ v _ _ (cx_sound hf hx) (cxs_sound hf hxs) hv
    exact ⟨q, by simpa [Builtin.max_] using h1, h2⟩
  case min =>
    have hl := hl0
    simp only [Option.bind_eq_some_iff, Option.map_eq_some_iff] at hc
    obtain ⟨x', hx, xs', hxs, rfl⟩ := hc
    rw [e1 (Builtin.min_ ts o.type (args.map a.eval)) fun cs => rfl, hargs _ hl]
    refine OpOk.of hs fun v hv => ?_
    obtain ⟨q, h1, h2⟩ := foldA_sound (P := P) (f := minA) (g := Builtin.min2) (fun x y r v u h1 h2 h3 => minA_sound h1 h2 h3) _ _ v _ _ (cx_sound hf hx) (cxs_sound hf hxs) hv
    exact ⟨q, by simpa [Builtin.min_] using h1, h2⟩
  case panic =>
    cases xs with
    | cons _ _ => simp at hc
    | nil =>
    have hl := hl0
    simp only [Option.map_eq_some_iff] at hc
    obtain ⟨x', hx, rfl⟩ := hc
    rw [e1 (Instr.panic (a.eval x)) fun cs => by rw [hargs _ hl]; rfl]
    exact panic_sound hs (cx_sound hf hx)
theorem allocT_sound {t : TypeId} {i : TypeInfo} {z : Value} {zs : List AV} (hi : P.info? t = some i) (hz : i.zero = some z) (hzs : ∀ E w, RvL E w zs z.cells.toList) (hs : Sat E st w) :
    ∃ w' E', (Instr.alloc t true (.tuple #[])).run P w = .ok (.pointer (some ⟨w.heap.size, 0, none⟩)) w' ∧ Ext E w E' w' ∧ Sat E' ((st.new (.row zs)).tag st.next t) w' ∧
      Rv E' w' (.ptr st.next 0) (.pointer (some ⟨w.heap.size, 0, none⟩)) ∧ True := by
  obtain ⟨h1, h2⟩ := hs.alloc (.cells z.cells t) (.row zs) fun E' hx' => ⟨⟨z.cells, t, (0, 0), heap_alloc_at w _, by rw [(hzs E w).length]; simp, .inl rfl⟩,
    RvMem.new (vs := z.cells) (hzs _ _) (heap_alloc_at w _)⟩
  exact ⟨_, _, by simp [Instr.alloc, newVar, newRow, run_zeroValue' hi hz], h2, h1.tag (b := w.heap.size) (by simp [Env.link]) (shape_alloc w z.cells t (0, 0)), ⟨w.heap.size, by simp [Env.link], rfl⟩, trivial⟩
theorem cop1_sound {fz : Bool} {m : MOp} {o : Oper} (hf : RvF E w fr a) (hs : Sat E st w) (hc : cop1 P fz o = some m) :
    OpOk E w (aop fr st m) ((execOp a.eval o).run P w) := by
  unfold cop1 at hc
  split at hc <;> rename_i ho <;> try (simp only [reduceCtorEq] at hc; done)
  · -- move
    simp only [Option.map_eq_some_iff] at hc
    obtain ⟨x', hx, rfl⟩ := hc
    exact ⟨_, w, E, .inl (by simp [execOp, ho]), Ext.refl _ _, hs, cx_sound hf hx⟩
  · simp only [Option.map_eq_some_iff] at hc
    obtain ⟨x', hx, rfl⟩ := hc
    exact ⟨_, w, E, .inl (by simp [execOp, ho]), Ext.refl _ _, hs, cx_sound hf hx⟩
  · -- pick
    simp only [Option.bind_eq_some_iff, Option.map_eq_some_iff] at hc
    obtain ⟨c', hc', a', ha, b', hb, rfl⟩ := hc
    have h1 := cx_sound hf hc'
    simp only [aop]
    cases hcv : ev fr c' <;> try exact trivial
    rw [hcv] at h1
    rename_i cb
    have h1 : a.eval _ = .bool cb := h1
    refine ⟨_, w, E, .inl (by simp [execOp, ho, h1, asBool]; rfl), Ext.refl _ _, hs, ?_⟩
    cases cb
    · exact cx_sound hf hb
    · exact cx_sound hf ha
  · -- alloc
    simp only [Option.bind_eq_some_iff, Option.map_eq_some_iff] at hc
    obtain ⟨i, hi, zs, hz, rfl⟩ := hc
    obtain ⟨z, hz0, hzs⟩ := zcells_sound hz
    rename_i ta
    cases fz with
    | false =>
      obtain ⟨w', E', h1, h2, h3, h4⟩ := alloc_sound (E := E) (w := w) hi hz0 hzs hs
      exact ⟨_, w', E', .inl (by simp [execOp, ho, h1]), h2, h3, h4⟩
    | true =>
      obtain ⟨w', E', h1, h2, h3, h4, h5⟩ := allocT_sound (E := E) (w := w) hi hz0 hzs hs
      exact ⟨_, w', E', .inl (by simp [execOp, ho, h1]), h2, h3, h4⟩
  · -- box
    simp only [Option.map_eq_some_iff] at hc
    obtain ⟨x', hx, rfl⟩ := hc
    rename_i elem x0
    cases fz
    · obtain ⟨w', E', h1, h2, h3, h4⟩ := box_sound (P := P) (e := elem) hs (cx_sound hf hx)
      exact ⟨_, w', E', .inl (by simp [execOp, ho, h1]), h2, h3, h4⟩
    · obtain ⟨w', E', h1, h2, h3, h4⟩ := box_fz_sound (P := P) (e := elem) hs (cx_sound hf hx)
      exact ⟨_, w', E', .inl (by simp [execOp, ho, h1]), h2, h3, h4⟩
  · exact cbuild_sound ho hf hs hc
  · exact cbslice_sound ho hf hs hc
  · -- load
    simp only [Option.bind_eq_some_iff, Option.map_eq_some_iff] at hc
    obtain ⟨d, hd, i, hi, x', hx, rfl⟩ := hc
    simp only [execOp, ho]
    exact OpOk.of hs fun v hv => loadA_sound hd hi rfl hs (cx_sound hf hx) hv
  · -- store
    simp only [Option.bind_eq_some_iff, Option.map_eq_some_iff] at hc
    obtain ⟨i, hi, a', ha, x', hx, rfl⟩ := hc
    simp only [execOp, ho]
    exact OpOk.ofSt fun st' hv => storeA_sound hi rfl hs (cx_sound hf ha) (cx_sound hf hx) hv
  · -- nilCheck
    simp only [Option.map_eq_some_iff] at hc
    obtain ⟨x', hx, rfl⟩ := hc
    simp only [aop]
    cases hr : nilchkA (ev fr x') with
    | none => exact trivial
    | some r =>
      obtain ⟨h1, h2⟩ := nilchkA_sound (P := P) ho rfl (cx_sound hf hx) hr
      exact ⟨_, w, E, .inl h1, Ext.refl _ _, hs, h2⟩
  · exact cbin_sound ho hf hs hc
  · -- unOp
    simp only [Option.map_eq_some_iff] at hc
    obtain ⟨x', hx, rfl⟩ := hc
    simp only [execOp, ho]
    exact OpOk.of hs fun v hv => unA_sound (cx_sound hf hx) hv
  · -- convert
    simp only [Option.bind_eq_some_iff] at hc
    obtain ⟨ds, hds, hc⟩ := hc
    have hu8 : ∀ e, isU8 P e = true → P.underlying e = some (.int .u8) := fun e he => by
      unfold isU8 at he
      split at he
      · assumption
      · simp at he
    unfold cconv at hc
    split at hc <;> try (simp only [reduceCtorEq] at hc; done)
    · rename_i k hd
      simp only [Option.map_eq_some_iff] at hc
      obtain ⟨x', hx, rfl⟩ := hc
      simp only [execOp, ho]
      exact OpOk.of hs fun v hv => convA_sound hds hd (cx_sound hf hx) hv
    · rename_i e hd
      split at hc <;> try (simp only [reduceCtorEq] at hc; done)
      cases h8 : isU8 P e
      · simp [h8] at hc
      · simp only [h8, cond_true, Option.map_eq_some_iff] at hc
        obtain ⟨x', hx, rfl⟩ := hc
        simp only [execOp, ho]
        exact OpOk.of2 fun v st' hv => s2bA_sound hds hd (hu8 e h8) hs (cx_sound hf hx) hv
    · rename_i hd
      split at hc <;> try (simp only [reduceCtorEq] at hc; done)
      rename_i e
      cases h8 : isU8 P e
      · simp [h8] at hc
      · simp only [h8, cond_true, Option.map_eq_some_iff] at hc
        obtain ⟨x', hx, rfl⟩ := hc
        simp only [execOp, ho]
        exact OpOk.of hs fun v hv => b2sA_sound hds hd (hu8 e h8) hs (cx_sound hf hx) hv
    · rename_i hd
      split at hc <;> try (simp only [reduceCtorEq] at hc; done)
      simp only [Option.bind_eq_some_iff] at hc
      obtain ⟨i, hi, hc⟩ := hc
      cases h0 : i.size.beq 0
      · simp only [h0, cond_false, Option.map_eq_some_iff] at hc
        obtain ⟨x', hx, rfl⟩ := hc
        simp only [execOp, ho]
        exact OpOk.of hs fun v hv => ptouA_sound hds hd hi (fun h => by rw [h] at h0; simp at h0) hs (cx_sound hf hx) hv
      · simp [h0] at hc
    · rename_i u hd
      split at hc <;> try (simp only [reduceCtorEq] at hc; done)
      simp only [Option.bind_eq_some_iff] at hc
      obtain ⟨i, hi, hc⟩ := hc
      cases h0 : i.size.beq 0
      · simp only [h0, cond_false, Option.map_eq_some_iff] at hc
        obtain ⟨x', hx, rfl⟩ := hc
        simp only [execOp, ho]
        exact OpOk.of hs fun v hv => utopA_sound hds hd hi (fun h => by rw [h] at h0; simp at h0) hs (cx_sound hf hx) hv
      · simp [h0] at hc
  · -- makeInterface
    simp only [Option.bind_eq_some_iff] at hc
    obtain ⟨d, hd, hc⟩ := hc
    cases hni : notIface d
    · simp [hni] at hc
    · simp only [hni, cond_true, Option.map_eq_some_iff] at hc
      obtain ⟨x', hx, rfl⟩ := hc
      obtain ⟨h1, h2⟩ := makeIface_sound (P := P) hd hni (cx_sound hf hx)
      exact ⟨_, w, E, .inl (by simp [execOp, ho, h1]), Ext.refl _ _, hs, h2⟩
  · -- makeFunc
    simp only [Option.bind_eq_some_iff, Option.map_eq_some_iff] at hc
    obtain ⟨xs', hxs, ys', hys, rfl⟩ := hc
    rename_i f0 xs0 ys0
    refine ⟨.func (.func f0) (xs0.map a.eval) (ys0.map a.eval), w, E, .inl (by simp [execOp, ho, Instr.makeFunc]), Ext.refl _ _, hs, _, _, rfl, ?_, ?_⟩
    · have := cxs_sound hf hxs; simpa using this
    · have := cxs_sound hf hys; simpa using this
  · -- makeMap
    split at hc <;> try (simp only [reduceCtorEq] at hc; done)
    rename_i hd
    simp only [Option.some.injEq] at hc; subst hc
    obtain ⟨w', E', h1, h2, h3, h4⟩ := makeMap_sound (r := none) hd (by simp) hs
    exact ⟨_, w', E', .inl (by simp [execOp, ho, h1]), h2, h3, h4⟩
  · -- makeSlice
    split at hc <;> try (simp only [reduceCtorEq] at hc; done)
    rename_i hd
    simp only [Option.bind_eq_some_iff, Option.map_eq_some_iff] at hc
    obtain ⟨i, hi, zs, hzs, l', hl, c', hc', rfl⟩ := hc
    obtain ⟨z, hz, hzs'⟩ := zcells_sound hzs
    simp only [execOp, ho]
    exact OpOk.of2 fun v st' hv => msliceA_sound hd hi hz hzs' hs (cx_sound hf hl) (cx_sound hf hc') hv
  · -- slice
    simp only [Option.bind_eq_some_iff] at hc
    obtain ⟨x', hx, lo', hlo, hi', hhi, mx', hmx, hc⟩ := hc
    split at hc <;> try (simp only [reduceCtorEq] at hc; done)
    · rename_i hd
      simp only [Option.map_eq_some_iff] at hc
      obtain ⟨i, hi, rfl⟩ := hc
      simp only [execOp, ho]
      exact OpOk.of hs fun v hv => sliceA_sound hd hi (cx_sound hf hx) (cxo_sound hf hlo) (cxo_sound hf hhi) (cxo_sound hf hmx) hv
    · rename_i hd
      split at hc <;> try (simp only [reduceCtorEq] at hc; done)
      simp only [Option.some.injEq] at hc; subst hc
      have hm := cxo_sound hf hmx
      simp only [execOp, ho]
      refine OpOk.of hs fun v hv => ?_
      simp only [Option.map_none, RvO] at hm
      rw [hm]
      exact sliceSA_sound hd (cx_sound hf hx) (cxo_sound hf hlo) (cxo_sound hf hhi) hv
  · -- fieldAddr
    split at hc <;> try (simp only [reduceCtorEq] at hc; done)
    rename_i fs hd
    simp only [Option.bind_eq_some_iff] at hc
    obtain ⟨fd, hfd, i, hi, hc⟩ := hc
    cases hz : i.size.beq 0
    · simp only [hz, cond_false, Option.map_eq_some_iff] at hc
      obtain ⟨x', hx, rfl⟩ := hc
      simp only [execOp, ho]
      exact OpOk.of hs fun v hv => fieldAt_sound hd hfd hi (by rintro h; rw [h] at hz; simp at hz) (cx_sound hf hx) hv
    · simp [hz] at hc
  · -- field
    split at hc <;> try (simp only [reduceCtorEq] at hc; done)
    rename_i fs hd
    simp only [Option.bind_eq_some_iff, Option.map_eq_some_iff] at hc
    obtain ⟨fd, hfd, i, hi, d, hd2, x', hx, rfl⟩ := hc
    simp only [execOp, ho]
    exact OpOk.of hs fun v hv => fieldA_sound hd hfd hd2 hi (cx_sound hf hx) hv
  · -- indexAddr
    simp only [Option.bind_eq_some_iff] at hc
    obtain ⟨x', hx, i', hi', hc⟩ := hc
    simp only [execOp, ho]
    split at hc <;> try (simp only [reduceCtorEq] at hc; done)
    · rename_i hd
      simp only [Option.map_eq_some_iff] at hc
      obtain ⟨i, hi, rfl⟩ := hc
      exact OpOk.of hs fun v hv => iaddrA_sound hd hi (cx_sound hf hx) (cx_sound hf hi') hv
    · rename_i hd
      simp only [Option.map_eq_some_iff] at hc
      obtain ⟨i, hi, rfl⟩ := hc
      exact OpOk.of hs fun v hv => aaddrA_sound hd hi (cx_sound hf hx) (cx_sound hf hi') hv
  · -- index
    simp only [Option.bind_eq_some_iff] at hc
    obtain ⟨x', hx, i', hi', hc⟩ := hc
    simp only [execOp, ho]
    split at hc <;> try (simp only [reduceCtorEq] at hc; done)
    · rename_i hd
      simp only [Option.some.injEq] at hc; subst hc
      exact OpOk.of hs fun v hv => sindexA_sound hd (cx_sound hf hx) (cx_sound hf hi') hv
    · rename_i hd
      simp only [Option.bind_eq_some_iff, Option.map_eq_some_iff] at hc
      obtain ⟨i, hi, d, hd2, rfl⟩ := hc
      exact OpOk.of hs fun v hv => aindexA_sound hd hd2 hi (cx_sound hf hx) (cx_sound hf hi') hv
  · -- lookup
    split at hc <;> try (simp only [reduceCtorEq] at hc; done)
    rename_i hd
    simp only [Option.bind_eq_some_iff, Option.map_eq_some_iff] at hc
    obtain ⟨d, hk, str, hstr, i, hi, z, hz, zero, hzero, m', hm, k', hk', rfl⟩ := hc
    simp only [execOp, ho]
    exact OpOk.of hs fun v hv => lookupA_sound hd hk (keyStr_desc hstr) hi hz (cv_sound _ _ _ hzero) hs (cx_sound hf hm) (cx_sound hf hk') hv
  · -- mapUpdate
    split at hc <;> try (simp only [reduceCtorEq] at hc; done)
    rename_i hd
    simp only [Option.bind_eq_some_iff, Option.map_eq_some_iff] at hc
    obtain ⟨d, hk, str, hstr, m', hm, k', hk', v', hv', rfl⟩ := hc
    simp only [execOp, ho]
    exact OpOk.ofSt fun st' hv => mapupA_sound hd hk (keyStr_desc hstr) hs (cx_sound hf hm) (cx_sound hf hk') (cx_sound hf hv') hv
  · -- typeAssert
    simp only [Option.bind_eq_some_iff] at hc
    obtain ⟨d, hd, hc⟩ := hc
    cases hni : notIface d
    · simp [hni] at hc
    · simp only [hni, cond_true, Option.bind_eq_some_iff, Option.map_eq_some_iff] at hc
      obtain ⟨i, hi, z, hz, zero, hzero, x', hx, rfl⟩ := hc
      simp only [execOp, ho]
      exact OpOk.of hs fun v hv => tassertA_sound hd hni hi hz (cv_sound _ _ _ hzero) (cx_sound hf hx) hv
  · -- extract
    simp only [Option.map_eq_some_iff] at hc
    obtain ⟨x', hx, rfl⟩ := hc
    simp only [execOp, ho]
    exact OpOk.of hs fun v hv => extractA_sound (cx_sound hf hx) hv
  · -- panic
    simp only [Option.map_eq_some_iff] at hc
    obtain ⟨x', hx, rfl⟩ := hc
    simp only [execOp, ho]
    exact panic_sound hs (cx_sound hf hx)
  · exact cbuiltin_sound ho hf hs hc
theorem cop_call {fz : Bool} {o : Oper} {f : X} {xs : List X} (hc : cop P fz o = some (.call f xs)) :
    ∃ fo args ts, o.op = .call { callee := .value fo, args, argTypes := ts } ∧ cx fo = some f ∧ cxs args.toList = some xs := by
  unfold cop at hc
  cases hcc : ccall o with
  | none =>
    simp only [hcc, Option.bind_eq_some_iff] at hc
    obtain ⟨m, _, hc⟩ := hc
    cases hm : m.isCall
    · simp only [hm, Bool.false_or] at hc
      cases hm2 : m.special
      · simp only [hm2, cond_false, Option.some.injEq] at hc; subst hc; simp [MOp.isCall] at hm
      · simp [hm2] at hc
    · simp [hm] at hc
  | some m =>
    simp only [hcc, Option.some.injEq] at hc; subst hc
    unfold ccall at hcc
    split at hcc <;> try (simp only [reduceCtorEq] at hcc; done)
    rename_i fo args ts ho
    simp only [Option.bind_eq_some_iff, Option.map_eq_some_iff] at hcc
    obtain ⟨f', h1, xs', h2, h3⟩ := hcc
    injection h3 with h3 h4
    subst h3; subst h4
    exact ⟨fo, args, ts, ho, h1, h2⟩
theorem cop_special {fz : Bool} {o : Oper} {m : MOp} (hc : cop P fz o = some m) : m.special = false := by
  unfold cop at hc
  cases hcc : ccall o with
  | none =>
    simp only [hcc, Option.bind_eq_some_iff] at hc
    obtain ⟨m', _, hc⟩ := hc
    cases hm : m'.special
    · cases hm2 : m'.isCall
      · simp only [hm, hm2, Bool.or_self, cond_false, Option.some.injEq] at hc; subst hc; exact hm
      · simp [hm2] at hc
    · simp [hm] at hc
  | some m' =>
    simp only [hcc, Option.some.injEq] at hc; subst hc
    unfold ccall at hcc
    split at hcc <;> try (simp only [reduceCtorEq] at hcc; done)
    simp only [Option.bind_eq_some_iff, Option.map_eq_some_iff] at hcc
    obtain ⟨f', h1, xs', h2, rfl⟩ := hcc
    rfl
theorem cop_sound {fz : Bool} {m : MOp} {o : Oper} (hf : RvF E w fr a) (hs : Sat E st w) (hc : cop P fz o = some m) (hnc : m.isCall = false) :
    OpOk E w (aop fr st m) ((execOp a.eval o).run P w) := by
  unfold cop at hc
  cases hcc : ccall o with
  | none =>
    simp only [hcc, Option.bind_eq_some_iff] at hc
    obtain ⟨m', h1, hc⟩ := hc
    simp only [cond_eq_ite, Option.ite_none_left_eq_some, Option.some.injEq] at hc
    obtain ⟨_, rfl⟩ := hc
    exact cop1_sound hf hs h1
  | some m' =>
    simp only [hcc, Option.some.injEq] at hc; subst hc
    unfold ccall at hcc
    split at hcc <;> try (simp only [reduceCtorEq] at hcc; done)
    simp only [Option.bind_eq_some_iff, Option.map_eq_some_iff] at hcc
    obtain ⟨f', h1, xs', h2, rfl⟩ := hcc
    simp [MOp.isCall] at hnc
end
end Go.AM
