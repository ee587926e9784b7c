import Derived.Test.YtphmjdnljmhipaaGreatDoorAmEv
namespace Go.AM
noncomputable section
theorem kif_eq {α : Type} (c : Bool) (t e : α) : kif c t e = bif c then t else e := by cases c <;> rfl
theorem getK_getN {α : Type} : ∀ (t : Tr α) (f n : Nat), n ≤ f → getK t n = Tr.getN f t n
  | .nil, f, n, _ => by rw [Tr.getN_nil]; rfl
  | .node o l r, 0, n, h => by
    obtain rfl : n = 0 := by omega
    rfl
  | .node o l r, f + 1, n, h => by
    show (@Bool.rec (fun _ => Option α) (@Bool.rec (fun _ => Option α) (getK r ((n.div 2).sub 1)) (getK l (n.div 2)) ((n.mod 2).beq 1)) o (n.beq 0)) = _
    unfold Tr.getN
    have e2 : n.div 2 = n / 2 := rfl
    cases hb : n.beq 0
    · have hn : n ≠ 0 := fun e => by subst e; simp at hb
      cases ho : (n.mod 2).beq 1
      · exact getK_getN r f _ (by show (n.div 2) - 1 ≤ f; rw [e2]; omega)
      · exact getK_getN l f _ (by rw [e2]; omega)
    · rfl
theorem getK_eq {α : Type} (t : Tr α) (n : Nat) : getK t n = t.get n := getK_getN t n n (Nat.le_refl _)
theorem setN_more {α : Type} : ∀ (f g n : Nat) (t : Tr α) (v : Option α), n ≤ f → n ≤ g → Tr.setN f t n v = Tr.setN g t n v
  | 0, 0, n, t, v, _, _ => rfl
  | 0, g + 1, n, t, v, h, _ => by
    obtain rfl : n = 0 := by omega
    simp [Tr.setN, Nat.beq]
  | f + 1, 0, n, t, v, _, h => by
    obtain rfl : n = 0 := by omega
    simp [Tr.setN, Nat.beq]
  | f + 1, g + 1, n, t, v, h1, h2 => by
    have e2 : n.div 2 = n / 2 := rfl
    simp only [Tr.setN]
    cases hb : n.beq 0
    · have hn : n ≠ 0 := fun e => by subst e; simp at hb
      simp only [cond_false]
      rw [setN_more f g (n.div 2) t.left v (by rw [e2]; omega) (by rw [e2]; omega), setN_more f g ((n.div 2).pred) t.right v (by rw [e2, Nat.pred_eq_sub_one]; omega) (by rw [e2, Nat.pred_eq_sub_one]; omega)]
    · rfl
theorem setK_setN {α : Type} : ∀ (t : Tr α) (f n : Nat) (v : Option α), n ≤ f → setK t n v = Tr.setN f t n v
  | .nil, f, n, v, h => setN_more n f n .nil v (Nat.le_refl _) h
  | .node o l r, 0, n, v, h => by
    obtain rfl : n = 0 := by omega
    rfl
  | .node o l r, f + 1, n, v, h => by
    show (@Bool.rec (fun _ => Tr α) (@Bool.rec (fun _ => Tr α) (.node o l (setK r ((n.div 2).sub 1) v)) (.node o (setK l (n.div 2) v) r) ((n.mod 2).beq 1)) (.node v l r) (n.beq 0)) = _
    unfold Tr.setN
    have e2 : n.div 2 = n / 2 := rfl
    cases hb : n.beq 0
    · have hn : n ≠ 0 := fun e => by subst e; simp at hb
      cases ho : (n.mod 2).beq 1
      · rw [setK_setN r f _ v (by show (n.div 2) - 1 ≤ f; rw [e2]; omega)]; rfl
      · rw [setK_setN l f _ v (by rw [e2]; omega)]; rfl
    · rfl
theorem setK_eq {α : Type} (t : Tr α) (n : Nat) (v : Option α) : setK t n v = t.set n v := setK_setN t n n v (Nat.le_refl _)
theorem dropK_eq {α : Type} : ∀ (l : List α) (n : Nat), dropK l n = l.drop n
  | [], n => by simp [dropK]
  | a :: l, 0 => rfl
  | a :: l, n + 1 => dropK_eq l n
theorem takeK_eq {α : Type} : ∀ (l : List α) (n : Nat), takeK l n = l.take n
  | [], n => by simp [takeK]
  | a :: l, 0 => rfl
  | a :: l, n + 1 => by
    show a :: takeK l n = _
    rw [takeK_eq l n]; rfl
theorem lenK_eq {α : Type} : ∀ (l : List α) (n : Nat), lenK l n = l.length.beq n
  | [], 0 => rfl
  | [], n + 1 => rfl
  | a :: l, 0 => rfl
  | a :: l, n + 1 => lenK_eq l n
theorem nthK_eq {α : Type} : ∀ (l : List α) (n : Nat), nthK l n = l[n]?
  | [], n => by simp [nthK]
  | a :: l, 0 => rfl
  | a :: l, n + 1 => by
    show nthK l n = _
    rw [nthK_eq l n]; simp
theorem evK_eq (x : X) (fr : Fr) : evK x fr = ev fr x := by
  cases x with
  | t n =>
    show (@Option.rec AV (fun _ => AV) .undef (fun v => v) (getK fr.t n)) = ((fr.get n).getD .undef)
    rw [getK_eq]
    show _ = ((fr.t.get n).getD .undef)
    cases fr.t.get n <;> rfl
  | c v => rfl
theorem ofK_eq (st : St) (o : Option AV) : ofK st o = OpR.of st o := by cases o <;> rfl
theorem ofStK_eq (o : Option St) : ofStK o = OpR.ofSt o := by cases o <;> rfl
theorem getO_eq (st : St) (id : Nat) : getO st id = st.get id := getK_eq _ _
theorem putO_eq (st : St) (id : Nat) (o : AO) : putO st id o = st.put id o := by unfold putO; rw [setK_eq]; rfl
theorem newO_eq (st : St) (o : AO) : newO st o = st.new o := by unfold newO; rw [setK_eq]; rfl
theorem ofCellsK_eq (agg : Bool) (n : Nat) (l : List AV) : ofCellsK agg n l = ofCells agg n l := by
  cases agg
  · cases l with
    | nil => rfl
    | cons c l => cases l <;> rfl
  · show (@Bool.rec (fun _ => Option AV) none (some (.agg l)) (lenK l n)) = bif l.length.beq n then some (.agg l) else none
    rw [lenK_eq]; cases l.length.beq n <;> rfl
theorem loadK_eq (agg : Bool) (n : Nat) (st : St) (v : AV) : loadK agg n st v = loadA agg n st v := by
  unfold loadK loadA
  cases v <;> try rfl
  · rename_i id off
    show (@Option.rec (List AV) (fun _ => Option AV) none (fun cs => ofCellsK agg n (takeK (dropK cs off) n)) (rowK (getO st id))) = _
    rw [getO_eq]
    simp only [cellsAt]
    generalize st.get id = q
    cases q with
    | none => rfl
    | some o =>
      cases o <;> try rfl
      · show ofCellsK agg n (takeK (dropK _ off) n) = _
        rw [ofCellsK_eq, takeK_eq, dropK_eq]; rfl
      · show ofCellsK agg n (takeK (dropK _ off) n) = _
        rw [ofCellsK_eq, takeK_eq, dropK_eq]; rfl
  · show ofCellsK agg n (takeK (dropK _ _) n) = _
    rw [ofCellsK_eq, takeK_eq, dropK_eq]; rfl
theorem layK_eq : ∀ (xs cs : List AV), layK xs cs = xs ++ cs.drop xs.length
  | [], cs => rfl
  | x :: xs, cs => by
    show x :: layK xs (@List.rec AV (fun _ => List AV) [] (fun _ l _ => l) cs) = _
    rw [layK_eq xs]
    cases cs with
    | nil => simp
    | cons c cs => simp
theorem setCK_eq : ∀ (cs : List AV) (off : Nat) (xs : List AV), off ≤ cs.length → setCK cs off xs = setCells cs off xs
  | [], off, xs, h => by
    simp only [List.length_nil, Nat.le_zero_eq] at h
    subst h
    show layK xs [] = _
    rw [layK_eq]; simp [setCells]
  | c :: cs, 0, xs, h => by
    show layK xs (c :: cs) = _
    rw [layK_eq]; simp [setCells]
  | c :: cs, n + 1, xs, h => by
    show c :: setCK cs n xs = _
    rw [setCK_eq cs n xs (by simpa using h)]
    simp only [setCells, List.take_succ_cons, List.cons_append]
    congr 3
    rw [show n + 1 + xs.length = (n + xs.length) + 1 by omega, List.drop_succ_cons]
theorem storeK_eq (n : Nat) (st : St) (a x : AV) : storeK n st a x = storeA n st a x := by
  unfold storeK storeA
  cases a <;> try rfl
  rename_i id off
  show (@Option.rec (List AV) (fun _ => Option St) none (fun cs => kif (lenK x.cells n && (off.add n).ble cs.length && x.cells.all AV.one) (some (putO st id (.row (setCK cs off x.cells)))) none) (rowWK (getO st id))) = _
  rw [getO_eq]
  simp only []
  generalize st.get id = q
  cases q with
  | none => rfl
  | some o =>
    cases o <;> try rfl
    rename_i cs
    show kif (lenK x.cells n && (off.add n).ble cs.length && x.cells.all AV.one) (some (putO st id (.row (setCK cs off x.cells)))) none = _
    rw [kif_eq, lenK_eq]
    simp only []
    have e1 : off.add n = off + n := rfl
    rw [e1]
    cases hc : (x.cells.length.beq n && (off + n).ble cs.length && x.cells.all AV.one)
    · rfl
    · simp only [Bool.and_eq_true] at hc
      have := Nat.le_of_ble_eq_true hc.1.2
      simp only [cond_true]
      rw [putO_eq, setCK_eq cs off _ (by omega)]
theorem aopK_eq (m : MOp) (fr : Fr) (st : St) : aopK m fr st = aop fr st m := by
  cases m <;> try rfl
  case mv x => show OpR.val (evK x fr) st = _; rw [evK_eq]; rfl
  case pick c a b =>
    show pickK (evK c fr) (evK a fr) (evK b fr) st = _
    rw [evK_eq, evK_eq, evK_eq]
    simp only [aop, pickK]
    cases ev fr c <;> try rfl
    simp only [kif_eq]
  case alloc zs => show OpR.val (.ptr st.next 0) (newO st (.row zs)) = _; rw [newO_eq]; rfl
  case box fz x =>
    show @Bool.rec (fun _ => OpR) (.val (.ptr st.next 0) (newO st (.row (evK x fr).cells))) (.val (.fptr (evK x fr).cells 0) st) fz = _
    rw [evK_eq, newO_eq]
    cases fz <;> rfl
  case load agg n x => show ofK st (loadK agg n st (evK x fr)) = _; rw [ofK_eq, loadK_eq, evK_eq]; rfl
  case store n a x => show ofStK (storeK n st (evK a fr) (evK x fr)) = _; rw [ofStK_eq, storeK_eq, evK_eq, evK_eq]; rfl
  case nilchk x => show ofK st (nilchkA (evK x fr)) = _; rw [ofK_eq, evK_eq]; rfl
  case bin b op x y => show ofK st (binB b op (evK x fr) (evK y fr)) = _; rw [ofK_eq, evK_eq, evK_eq]; rfl
  case un op x => show ofK st (unA op (evK x fr)) = _; rw [ofK_eq, evK_eq]; rfl
  case conv k x => show ofK st (convA k (evK x fr)) = _; rw [ofK_eq, evK_eq]; rfl
  case mkif t x => show OpR.val (.iface t (evK x fr)) st = _; rw [evK_eq]; rfl
  case faddr off x => show ofK st (faddrA off (evK x fr)) = _; rw [ofK_eq, evK_eq]; rfl
  case field agg off n x => show ofK st (fieldA agg off n (evK x fr)) = _; rw [ofK_eq, evK_eq]; rfl
  case iaddr sz x i => show ofK st (iaddrA sz (evK x fr) (evK i fr)) = _; rw [ofK_eq, evK_eq, evK_eq]; rfl
  case aaddr n sz x i => show ofK st (aaddrA n sz (evK x fr) (evK i fr)) = _; rw [ofK_eq, evK_eq, evK_eq]; rfl
  case sidx x i => show ofK st (sindexA (evK x fr) (evK i fr)) = _; rw [ofK_eq, evK_eq, evK_eq]; rfl
  case extract i x => show ofK st (extractA i (evK x fr)) = _; rw [ofK_eq, evK_eq]; rfl
  case len c x => show ofK st (lenOpK c (evK x fr) st) = _; rw [ofK_eq, evK_eq]; unfold lenOpK; rw [kif_eq]; rfl
end
end Go.AM
namespace Go.AM
noncomputable section
theorem mapK_eq {α β : Type} (f : α → β) : ∀ (l : List α), mapK f l = l.map f
  | [] => rfl
  | a :: l => by
    show f a :: mapK f l = _
    rw [mapK_eq f l]; rfl
theorem oprK_eq (Γ : Cg) (m : MOp) (fr : Fr) (st : St) : oprK Γ m fr st = opr Γ fr st m := by
  unfold oprK
  cases hc : callArgs m with
  | none =>
    show aopK m fr st = _
    rw [aopK_eq]
    cases m <;> first | rfl | (cases hc; done)
  | some p =>
    cases m <;> try (cases hc; done)
    rename_i f xs
    have hc : some (f, xs) = some p := hc
    injection hc with hc
    subst hc
    show callR Γ (evK f fr) (mapK (fun x => evK x fr) xs) st = _
    rw [mapK_eq, evK_eq]
    have : (fun x => evK x fr) = ev fr := by funext x; exact evK_eq x fr
    rw [this]; rfl
theorem putK_eq (fr : Fr) (d : Option Nat) (v : AV) : putK fr d v = Fr.put fr d v := by
  cases d with
  | none => rfl
  | some d =>
    show Fr.mk (setK fr.t d (some v)) fr.ds = _
    rw [setK_eq]; rfl
theorem wantedK_eq (fr : Fr) (g : Option (Nat × Bool)) : wantedK fr g = wantedA fr g := by cases g <;> rfl
theorem arunK_eq (Γ : Cg) : ∀ (ms : List MOper) (fr : Fr) (st : St), arunK Γ ms fr st = arun Γ ms fr st
  | [], fr, st => rfl
  | m :: ms, fr, st => by
    show (@Option.rec Bool (fun _ => RR) .stuck
      (fun b => @Bool.rec (fun _ => RR) (arunK Γ ms (putK fr m.dst .undef) st)
        (@OpR.rec (fun _ => RR) (fun v st' => arunK Γ ms (putK fr m.dst v) st') (fun v st' => .pan fr v st')
          (@Option.rec Fr (fun _ => RR) .stuck (fun fr' => arunK Γ ms (putK fr' m.dst .undef) st) (deferA fr m.op)) (oprK Γ m.op fr st)) b)
      (wantedK fr m.guard)) = _
    rw [wantedK_eq, oprK_eq]
    have ih := arunK_eq Γ ms
    simp only [arun, putK_eq]
    cases wantedA fr m.guard with
    | none => rfl
    | some b =>
      cases b with
      | false => exact ih _ _
      | true =>
        simp only []
        cases hd : m.op.isDefer with
        | true =>
          have : opr Γ fr st m.op = .stuck := by
            cases hm : m.op <;> rw [hm] at hd <;> first | rfl | cases hd
          rw [this]
          simp only [cond_true]
          cases deferA fr m.op with
          | none => rfl
          | some fr' => exact ih _ _
        | false =>
          simp only [cond_false]
          have hn : deferA fr m.op = none := by
            cases hm : m.op <;> rw [hm] at hd <;> first | rfl | cases hd
          rw [hn]
          cases opr Γ fr st m.op with
          | val v st' => exact ih _ _
          | pan v st' => rfl
          | stuck => rfl
theorem oprDK_eq (Γ : Cg) (id : Nat) (m : MOp) (fr : Fr) (st : St) : oprDK Γ id m fr st = oprD Γ id fr st m := by
  unfold oprDK
  cases hc : allocOf m with
  | none =>
    show oprK Γ m fr st = _
    rw [oprK_eq]
    cases m <;> first | rfl | (cases hc; done)
  | some zs =>
    cases m <;> try (cases hc; done)
    rename_i zs'
    have hc : some zs' = some zs := hc
    injection hc with hc
    subst hc
    show allocD id st zs' = _
    unfold allocD
    rw [getO_eq]; rfl
theorem nextK_eq (id : Nat) (m : MOp) : nextK id m = nextId id m := by cases m <;> rfl
theorem preK_eq : ∀ (zs : List (MOper × Nat)) (st : St), preK zs st = preA zs st
  | [], _ => rfl
  | z :: zs, st => by
    show (@Option.rec (List AV) (fun _ => St) (preK zs st) (fun cs => preK zs (newO st (.row cs))) (allocOf z.1.op)) = _
    unfold preA
    have ih := preK_eq zs
    cases z.1.op <;> first | exact ih st | (show preK zs (newO st _) = _; rw [newO_eq]; exact ih _)
theorem drunK_eq (Γ : Cg) : ∀ (zs : List (MOper × Nat)) (i id : Nat) (fr : Fr) (st : St) (pan : Option Nat), drunK Γ zs i id fr st pan = drun Γ zs i id fr st pan
  | [], _, _, _, _, _ => rfl
  | z :: zs, i, id, fr, st, pan => by
    have ih := drunK_eq Γ zs
    show (@Bool.rec (fun _ => Option DR)
      (@Option.rec Bool (fun _ => Option DR) none
        (fun b => @Bool.rec (fun _ => Option DR) (DR.cons (.val fr st .undef st) (drunK Γ zs i.succ (nextK id z.1.op) (putK fr z.1.dst .undef) st pan))
          (@OpR.rec (fun _ => Option DR) (fun v st' => DR.cons (.val fr st v st') (drunK Γ zs i.succ (nextK id z.1.op) (putK fr z.1.dst v) st' pan))
            (fun v st' => @Option.rec Nat (fun _ => Option DR) (DR.cons (.pan fr st v st') (drunK Γ zs i.succ (nextK id z.1.op) fr st (some i))) (fun _ => none) pan)
            none (oprDK Γ id z.1.op fr st)) b)
        (wantedK fr z.1.guard))
      (DR.cons .dead (drunK Γ zs i.succ (nextK id z.1.op) fr st pan)) (deadA pan z.2)) = _
    simp only [wantedK_eq, oprDK_eq, nextK_eq, putK_eq, ih, drun]
    cases deadA pan z.2 with
    | true => rfl
    | false =>
      simp only [cond_false]
      cases wantedA fr z.1.guard with
      | none => rfl
      | some b =>
        cases b with
        | false => rfl
        | true =>
          simp only []
          cases oprD Γ id fr st z.1.op with
          | val v st' => rfl
          | pan v st' => cases pan <;> rfl
          | stuck => rfl
theorem sameK_eq (Γ : Cg) (id : Nat) (m : MOp) (fr : Fr) (st : St) (v : AV) : sameK Γ id m fr st v = sameAt Γ id fr st m v := by
  unfold sameK sameAt
  rw [oprDK_eq]
  cases oprD Γ id fr st m <;> rfl
theorem frzK_eq (m : MOp) (fr : Fr) : frzK m fr = frzLoad m fr := by
  cases m <;> try rfl
  rename_i agg n x
  show @PV.rec (fun _ => Bool) (fun _ _ => false) (fun _ _ => true) false (pvK (evK x fr)) = frzX fr x
  rw [evK_eq]
  unfold frzX
  cases ev fr x <;> rfl
theorem chkK_eq (Γ : Cg) (zs : List (MOper × Nat)) (its : List DIt) (id : Nat) (stE : St) (q : Nat × Option Nat) : chkK Γ zs its id stE q = chkB Γ zs its id stE q := by
  unfold chkK chkB
  have hb : ∀ (a b : Bool), @Bool.rec (fun _ => Bool) b true a = (a || b) := fun a b => by cases a <;> rfl
  simp only [nthK_eq, wantedK_eq, sameK_eq, frzK_eq, hb] <;> rfl
theorem adrawK_eq (Γ : Cg) (zs : List (MOper × Nat)) (chk : List (Nat × Option Nat)) (fr : Fr) (st : St) : adrawK Γ zs chk fr st = adraw Γ zs chk fr st := by
  unfold adrawK adraw
  rw [drunK_eq, preK_eq]
  have : ∀ its stE, chkK Γ zs its st.next stE = chkB Γ zs its st.next stE := fun its stE => by funext q; exact chkK_eq Γ zs its st.next stE q
  simp only [this] <;> rfl
theorem aloopK_eq (body : Fr → St → CR) : ∀ (n : Nat) (fr : Fr) (st : St), aloopK body n fr st = aloop body n fr st
  | 0, _, _ => rfl
  | n + 1, fr, st => by
    show (@CR.rec (fun _ => CR) (fun fr st => aloopK body n fr st) (fun i fr st => .exit i fr st) (fun fr st => .ret fr st) (fun fr v st => .pan fr v st) .stuck (body fr st)) = _
    unfold aloop
    cases body fr st <;> first | rfl | exact aloopK_eq body n _ _
theorem acodeK_eq (Γ : Gam) (Y : Yenv) (n : Nat) (mc : MCode) : ∀ (ro : Option Nat) (fr : Fr) (st : St), acodeK Γ Y n mc ro fr st = acode Γ Y n mc ro fr st := by
  induction mc with
  | skip => intro ro fr st; rfl
  | region ms =>
    intro ro fr st
    show rrK (arunK (Γ.cg Y) ms fr st) = _
    rw [arunK_eq]
    unfold acode
    cases arun (Γ.cg Y) ms fr st <;> rfl
  | draw zs chk =>
    intro ro fr st
    show rrK (adrawK (Γ.cg Y) zs chk fr st) = _
    rw [adrawK_eq]
    unfold acode
    cases adraw (Γ.cg Y) zs chk fr st <;> rfl
  | seq a b iha ihb =>
    intro ro fr st
    show (@CR.rec (fun _ => CR) (fun fr st => acodeK Γ Y n b ro fr st) (fun i fr st => .exit i fr st) (fun fr st => .ret fr st) (fun fr v st => .pan fr v st) .stuck (acodeK Γ Y n a ro fr st)) = _
    rw [iha]
    simp only [acode]
    cases acode Γ Y n a ro fr st <;> first | rfl | exact ihb ro _ _
  | cond c a b iha ihb =>
    intro ro fr st
    show condK (evK c fr) (acodeK Γ Y n a ro fr st) (acodeK Γ Y n b ro fr st) = _
    rw [iha, ihb, evK_eq]
    simp only [acode]
    unfold condK
    cases ev fr c <;> rfl
  | block id c ih =>
    intro ro fr st
    show (@CR.rec (fun _ => CR) (fun fr st => .norm fr st) (fun i fr st => @Bool.rec (fun _ => CR) (.exit i fr st) (.norm fr st) (i.beq id)) (fun fr st => .ret fr st) (fun fr v st => .pan fr v st) .stuck (acodeK Γ Y n c ro fr st)) = _
    rw [ih]
    simp only [acode]
    cases acode Γ Y n c ro fr st <;> try rfl
    rename_i i _ _
    simp only []
    cases i.beq id <;> rfl
  | loop c ih =>
    intro ro fr st
    show aloopK (acodeK Γ Y n c ro) n fr st = _
    rw [aloopK_eq]
    have : acodeK Γ Y n c ro = acode Γ Y n c ro := by funext fr st; exact ih ro fr st
    rw [this, acode]
  | exit id => intro ro fr st; rfl
  | ret => intro ro fr st; rfl
  | rfun x ps a b iha ihb =>
    intro ro fr st
    have e1 : ∀ r, acodeK Γ Y n a r = acode Γ Y n a r := fun r => by funext fr st; exact iha r fr st
    have e2 : ∀ r, acodeK Γ Y n b r = acode Γ Y n b r := fun r => by funext fr st; exact ihb r fr st
    show (match evK x fr with
      | .func (.func g) first captured => bif Γ.ent g && roOk ro st then
          match Γ.call (Yenv.set Y st.next (aroundA (acodeK Γ Y n a (some st.next)) (acodeK Γ Y n b (some st.next)) st.next fr ps)) g (first ++ [AV.yld st.next] ++ captured) (st.new (.loop .ready)) with
          | .ret _ st2 => endLoopA st.next (markA ro fr) st2
          | .pan v st2 => .pan (markA ro fr) v st2
          | .stuck => .stuck
        else .stuck
      | _ => .stuck) = _
    rw [evK_eq, e1, e2]; rfl
  | bad => intro ro fr st; rfl
theorem abodyK_eq (Γ : Gam) (Y : Yenv) (n : Nat) (DF : Nat → List AV → St → DM → Option (DM × St)) (mf : MFunc) (args : List AV) (st : St) : abodyK Γ Y n DF mf args st = abody Γ Y n DF mf args st := by
  unfold abodyK abody
  rw [kif_eq, acodeK_eq]
  cases args.length.ble mf.N
  · rfl
  · simp only [cond_true]
    cases acode Γ Y n mf.code none (frOf 0 args Fr.nil) st <;> rfl
theorem arunCK_eq (tbl : Nat → Option MFunc) (hand : Gam → Nat → Yenv → Nat → List AV → St → FR) : ∀ n, arunCK tbl hand n = arunC tbl hand n
  | 0 => rfl
  | n + 1 => by
    have ih := arunCK_eq tbl hand n
    funext Y f args st
    show (@Option.rec MFunc (fun _ => FR) (hand ⟨arunCK tbl hand n, entT tbl⟩ n Y f args st) (fun mf => abodyK ⟨arunCK tbl hand n, entT tbl⟩ Y n (defT tbl ⟨arunCK tbl hand n, entT tbl⟩ Y n) mf args st) (tbl f)) = _
    rw [ih]
    unfold arunC
    cases tbl f with
    | none => rfl
    | some mf => exact abodyK_eq _ _ _ _ _ _ _
theorem gamK_eq (tbl : Nat → Option MFunc) (hand : Gam → Nat → Yenv → Nat → List AV → St → FR) (n : Nat) : gamK tbl hand n = gamT tbl hand n := by
  unfold gamK gamT; rw [arunCK_eq]
theorem runSegK_eq (Γ : Gam) (n : Nat) : ∀ (j : Nat) (mc : MCode) (fr : Fr) (st : St), runSegK Γ n j mc fr st = runSeg Γ n j mc fr st
  | 0, _, _, _ => by simp only [runSegK, runSeg]
  | j + 1, mc, fr, st => by
    cases mc <;> simp only [runSegK, runSeg, acodeK_eq]
    cases acode Γ Y0 n _ none fr st <;> first | rfl | exact runSegK_eq Γ n j _ _ _
theorem pieceK_of {tbl : Nat → Option MFunc} {hand : Gam → Nat → Yenv → Nat → List AV → St → FR} {k n j : Nat} {mc : MCode} {F : Fr} {L : St} {F' : Fr} {L' : St} (h : pieceK (gamK tbl hand k) n j mc F L F' L' = true) : pieceB (gamT tbl hand k) n j mc F L F' L' = true := by
  unfold pieceK at h
  unfold pieceB
  rw [runSegK_eq, gamK_eq] at h
  exact h
theorem lastK_of {tbl : Nat → Option MFunc} {hand : Gam → Nat → Yenv → Nat → List AV → St → FR} {k n : Nat} {mc : MCode} {F : Fr} {L : St} {res : List MRes} {v : AV} (h : lastK (gamK tbl hand k) n mc F L res v = true) : lastB (gamT tbl hand k) n mc F L res v = true := by
  unfold lastK at h
  unfold lastB
  rw [acodeK_eq, gamK_eq] at h
  exact h
end
end Go.AM
