import Derived.Test.YtphmjdnljmhipaaGreatDoorAmDraw2
import Derived.RangeFuncNested
import Derived.Laws.ResultCell
import Derived.RecoverIn
namespace Go.AM
theorem Sat.allocDz {E : Env} {st : St} {w : World} (h : Sat E st w) : Sat { E with Dz := fun b => b = w.heap.size \/ E.Dz b } st (w.alloc (.deferred (some []))) ∧
  Ext E w { E with Dz := fun b => b = w.heap.size \/ E.Dz b } (w.alloc (.deferred (some []))) := by
 have hx : Ext E w { E with Dz := fun b => b = w.heap.size \/ E.Dz b } (w.alloc (.deferred (some []))) := Ext.alloc _ (fun _ _ h => h) (fun _ h => h) (fun _ h => h) (fun _ _ => rfl) (fun _ h => .inr h) h.fz
 refine ⟨⟨fun id b hb => ?_, fun b hb => ?_, fun id o' b h1 h2 => ?_, h.sep, h.lv, h.rs, fun b hb => ?_, BtOk.mono h.bt hx.toExt0 rfl⟩, hx⟩
 ·have := h.dom id b hb; simp; omega
 ·have := h.fz b hb; simp; omega
 ·exact ObjR.mono hx (heap_push_old w _ b (h.dom id b h2).2) (h.obj id o' b h1 h2)
 ·rcases hb with rfl | hb
  ·exact ⟨heap_alloc_at w _, fun hf => by have := h.fz _ hf; omega⟩
  ·obtain ⟨h1, h2⟩ := h.dz b hb
   exact ⟨by rw [heap_push_old w _ b (Array.getElem?_eq_some_iff.1 h1).1]; exact h1, h2⟩
theorem Sat.shutDz {E : Env} {st : St} {w : World} (h : Sat E st w) {D : Nat} (hD : E.Dz D) :
  Sat { E with Dz := fun b => b ≠ D /\ E.Dz b } st (w.putObj D (.deferred none)) /\ Ext0 E w { E with Dz := fun b => b ≠ D /\ E.Dz b } (w.putObj D (.deferred none)) := by
 obtain ⟨h1, h2⟩ := h.dz D hD
 have hne : ∀ k, k ≠ D -> (w.putObj D (.deferred none)).heap[k]? = w.heap[k]? := fun k hk => World.putObj_heap_other hk
 have hx : Ext0 E w { E with Dz := fun b => b ≠ D /\ E.Dz b } (w.putObj D (.deferred none)) := ⟨fun _ _ h => h, fun _ h => h, fun b hb => hne b (by rintro rfl; exact h2 hb), by simp, fun b s hs => by
  by_cases hb : b = D
  ·subst hb; unfold World.shape? at hs; rw [h1] at hs; cases hs
  ·rw [shape_of_heap (hne b hb)]; exact hs, rfl, rfl, rfl, fun _ _ => rfl⟩
 refine ⟨⟨fun id b hb => ?_, fun b hb => ?_, fun id o b g1 g2 => ?_, h.sep, h.lv, h.rs, fun b hb => ?_, BtOk.mono h.bt hx rfl⟩, hx⟩
 ·have := h.dom id b hb; simp; exact this
 ·have := h.fz b hb; simp; exact this
 ·have g3 := h.obj id o b g1 g2
  refine ObjR.mono0 hx (hne b ?_) g3
  rintro rfl
  cases o with
  | fro cs => exact h2 g3.1
  | row cs => obtain ⟨⟨_, _, _, h4, _⟩, _⟩ := g3; rw [h1] at h4; cases h4
  | map es => obtain ⟨_, _, h4, _⟩ := g3; rw [h1] at h4; cases h4
  | loop s => obtain ⟨_, h4, _⟩ := g3; rw [h1] at h4; cases h4
 ·obtain ⟨h3, h4⟩ := h.dz b hb.2
  exact ⟨by rw [hne b hb.1]; exact h3, h4⟩
def Env.loop (E : Env) (id b : Nat) (r : Loop) : Env := { E.link id b with lr := fun k => if k = b then r else E.lr k }
theorem Sat.newLoop {E : Env} {st : St} {w : World} (h : Sat E st w) (r : Loop) (h1 : r.state = .ready) (h2 : r.pending = none) :
  Sat (E.loop st.next w.heap.size r) (st.new (.loop .ready)) (w.alloc (.loop r)) /\ Ext E w (E.loop st.next w.heap.size r) (w.alloc (.loop r)) := by
 have hx1 : Ext E w { E with lr := fun k => if k = w.heap.size then r else E.lr k } w := ⟨⟨fun _ _ h => h, fun _ h => h, fun _ _ => rfl, Nat.le_refl _, fun _ _ h => h, rfl, rfl, rfl, fun b hb => if_neg (by omega)⟩, fun _ h => h, fun _ h => h⟩
 have hs1 : Sat { E with lr := fun k => if k = w.heap.size then r else E.lr k } st w := ⟨h.dom, h.fz, fun id o b g1 g2 => ObjR.mono hx1 rfl (h.obj id o b g1 g2), h.sep, h.lv, h.rs, h.dz, BtOk.mono h.bt hx1.toExt0 rfl⟩
 obtain ⟨h3, h4⟩ := hs1.alloc' (.loop r) (.loop .ready) fun _ => ⟨r, heap_alloc_at w _, by
  show r = { (if w.heap.size = w.heap.size then r else E.lr w.heap.size) with state := .ready, pending := none }
  rw [if_pos rfl, <- h1, <- h2]⟩
 exact ⟨h3, hx1.trans h4⟩
theorem loopAt_get {st : St} {id : Nat} {s : LS} (h : loopAt st id = some s) : st.get id = some (.loop s) := by
 unfold loopAt at h
 split at h
 ·rename_i h1; injection h with h; subst h; exact h1
 ·cases h
theorem Sat.loop {E : Env} {st : St} {w : World} (h : Sat E st w) {id b : Nat} {s : LS} (hl : loopAt st id = some s) (hb : E.β id = some b) : ∃ r, w.heap[b]? = some (.loop r) /\ s.ok (E.lr b) r :=
 h.obj id _ b (loopAt_get hl) hb
theorem Sat.putLoop {E : Env} {st : St} {w : World} (h : Sat E st w) {id b : Nat} {s s' : LS} {r r' : Loop} (hl : loopAt st id = some s) (hb : E.β id = some b) (hr : w.heap[b]? = some (.loop r)) (hok : s'.ok (E.lr b) r') :
  Sat E (st.put id (.loop s')) (w.putObj b (.loop r')) /\ Ext E w E (w.putObj b (.loop r')) := by
 have hlt := (Array.getElem?_eq_some_iff.1 hr).1
 refine h.write id b (.loop s) (.loop s') (loopAt_get hl) rfl hb (fun k hk => World.putObj_heap_other hk) (by simp) (fun q hq => ?_) rfl rfl rfl rfl fun _ => ⟨r', World.putObj_heap_same hlt, hok⟩
 unfold World.shape? at hq
 rw [hr] at hq; cases hq
end Go.AM
namespace Go.AM
def CReach (P : Program) (E : Env) (w : World) (N B : Nat) (r : CR) : Exit -> Act -> World -> Prop := fun e a' w' =>
 match r with
 | .norm fr st => e = .normal /\ ∃ E', Ext E w E' w' /\ Sat E' st w' /\ RvA P E' w' N B fr a'
 | .exit id fr st => e = .exit id /\ ∃ E', Ext E w E' w' /\ Sat E' st w' /\ RvA P E' w' N B fr a'
 | .ret fr st => e = .ret /\ ∃ E', Ext E w E' w' /\ Sat E' st w' /\ RvA P E' w' N B fr a'
 | .pan fr v st => ∃ u E', e = .panic [{ v := u, recovered := false }] /\ Ext E w E' w' /\ Sat E' st w' /\ Rv E' w' v u /\ RvP P E' w' B fr a'
 | .stuck => False
structure GSound (P : Program) (Γ : Gam) : Prop where
 call : ∀ (Y : Yenv) (E : Env) (w : World), (∀ E' w', Ext E w E' w' -> YldOk P Y E' w') -> FnOk P (Γ.call Y) E w
 ent : ∀ f, Γ.ent f = true -> Enters P f
def YSound (P : Program) (Y : Yenv) (E : Env) (w : World) : Prop := ∀ E' w', Ext E w E' w' -> YldOk P Y E' w'
def ROk (E : Env) : Option Nat -> Option Nat -> Prop
 | none, none => True
 | some id, some b => E.β id = some b
 | _, _ => False
section
variable {P : Program} {Γ : Gam}
theorem YSound.mono {Y : Yenv} {E E' : Env} {w w' : World} (h : YSound P Y E w) (hx : Ext E w E' w') : YSound P Y E' w' := fun _ _ h2 => h _ _ (hx.trans h2)
theorem ROk.mono {E E' : Env} {w w' : World} (hx : Ext E w E' w') : ∀ {ro b0 : Option Nat}, ROk E ro b0 -> ROk E' ro b0
 | none, none, _ => trivial
 | some _, some _, h => hx.β _ _ h
 | none, some _, h => h.elim
 | some _, none, h => h.elim
theorem GSound.sound (hG : GSound P Γ) {Y : Yenv} {E : Env} {w : World} (hY : YSound P Y E w) : SoundC P (Γ.cg Y) E w :=
 ⟨fun E' w' hx => hG.call Y E' w' (hY.mono hx), fun E' w' hx => hY E' w' hx⟩
theorem CReach.mono {E E1 : Env} {w w1 : World} {N B : Nat} {r : CR} (h : Ext E w E1 w1) {e : Exit} {a : Act} {w' : World} (hr : CReach P E1 w1 N B r e a w') : CReach P E w N B r e a w' := by
 cases r with
 | norm fr st => obtain ⟨h1, E', h2, h3⟩ := hr; exact ⟨h1, E', h.trans h2, h3⟩
 | exit id fr st => obtain ⟨h1, E', h2, h3⟩ := hr; exact ⟨h1, E', h.trans h2, h3⟩
 | ret fr st => obtain ⟨h1, E', h2, h3⟩ := hr; exact ⟨h1, E', h.trans h2, h3⟩
 | pan fr v st => obtain ⟨u, E', h1, h2, h3⟩ := hr; exact ⟨u, E', h1, h.trans h2, h3⟩
 | stuck => exact hr.elim
def CSound (P : Program) (Y : Yenv) (N : Nat) (ro b0 : Option Nat) (c : Code) (run : Fr -> St -> CR) : Prop :=
 ∀ (B : Nat) (E : Env) (w : World) (fr : Fr) (a : Act) (st : St) (r : CR), YSound P Y E w -> ROk E ro b0 -> run fr st = r -> r ≠ .stuck -> RvA P E w N B fr a -> Sat E st w -> c.wpIn (FR0 b0) 0 P (CReach P E w N B r) a w
theorem roundsIn_mono {F : Fence} {k : Nat} {c : Code} {Q Q' : Exit -> Act -> World -> Prop} (hq : ∀ e a w, Q e a w -> Q' e a w) : ∀ (n : Nat) (a : Act) (w : World), Code.roundsIn F k P c Q n a w -> Code.roundsIn F k P c Q' n a w
 | 0, _, _, h => h.elim
 | n + 1, a, w, h => by
  rw [roundsIn_succ] at h ⊢
  refine wpIn_mono h fun e a' w' h' => ?_
  cases e with
  | normal => exact roundsIn_mono hq n a' w' h'
  | _ => exact hq _ _ _ h'
theorem aloop_sound {Y : Yenv} {N : Nat} {ro b0 : Option Nat} {c : Code} {body : Fr -> St -> CR} (hb : CSound P Y N ro b0 c body) : ∀ (n : Nat), ∀ (B : Nat) (E : Env) (w : World) (fr : Fr) (a : Act) (st : St) (r : CR), YSound P Y E w -> ROk E ro b0 -> aloop body n fr st = r -> r ≠ .stuck ->
  RvA P E w N B fr a -> Sat E st w -> Code.roundsIn (FR0 b0) 0 P c (CReach P E w N B r) n a w
 | 0, B, E, w, fr, a, st, r, _, _, hr, hst, _, _ => by simp only [aloop] at hr; exact absurd hr.symm hst
 | n + 1, B, E, w, fr, a, st, r, hY, hro, hr, hst, hf, hs => by
  simp only [aloop] at hr
  rw [roundsIn_succ]
  cases hbr : body fr st with
  | stuck => simp only [hbr] at hr; exact absurd hr.symm hst
  | norm fr' st' =>
   simp only [hbr] at hr
   refine wpIn_mono (hb B E w fr a st _ hY hro hbr (by simp) hf hs) fun e a' w' ⟨he, E', h1, h2, h3⟩ => ?_
   subst he
   simp only [Exit.then]
   exact roundsIn_mono (fun _ _ _ hq => CReach.mono h1 hq) n _ _ (aloop_sound hb n B E' w' fr' a' st' r (hY.mono h1) (hro.mono h1) hr hst h3 h2)
  | exit id fr' st' =>
   simp only [hbr] at hr; subst hr
   refine wpIn_mono (hb B E w fr a st _ hY hro hbr (by simp) hf hs) fun e a' w' h => ?_
   obtain ⟨he, h'⟩ := h
   subst he
   exact ⟨rfl, h'⟩
  | ret fr' st' =>
   simp only [hbr] at hr; subst hr
   refine wpIn_mono (hb B E w fr a st _ hY hro hbr (by simp) hf hs) fun e a' w' h => ?_
   obtain ⟨he, h'⟩ := h
   subst he
   exact ⟨rfl, h'⟩
  | pan fr' v st' =>
   simp only [hbr] at hr; subst hr
   refine wpIn_mono (hb B E w fr a st _ hY hro hbr (by simp) hf hs) fun e a' w' h => ?_
   obtain ⟨u, E', he, h'⟩ := h
   subst he
   exact ⟨u, E', rfl, h'⟩
theorem copers_get {ops : Array Oper} {N : Nat} {rd : Bool} {pol : Nat -> Bool} : ∀ (os : List Oper) (i : Nat) (ms : List MOper), copers P ops N rd pol i os = some ms -> ∀ (j : Nat) (o : Oper), os[j]? = some o -> ∃ m, ms[j]? = some m /\ coper P ops N rd (pol (i + j)) o = some m
 | [], _, _, _, j, o, ho => by simp at ho
 | o :: os, i, ms, h, j, o', ho => by
  simp only [copers, Option.bind_eq_some_iff, Option.map_eq_some_iff] at h
  obtain ⟨m, hm, ms', hms, rfl⟩ := h
  cases j with
  | zero =>
   simp only [List.getElem?_cons_zero, Option.some.injEq] at ho
   subst ho
   exact ⟨m, rfl, hm⟩
  | succ j =>
   simp only [List.getElem?_cons_succ] at ho ⊢
   obtain ⟨m', h1, h2⟩ := copers_get os (i + 1) ms' hms j o' ho
   exact ⟨m', h1, by rw [show i + (j + 1) = i + 1 + j by omega]; exact h2⟩
theorem allocsB_get : ∀ (os : List Oper) (ms : List MOper), allocsB os ms = true -> ∀ (j : Nat) (o : Oper) (m : MOper), os[j]? = some o -> ms[j]? = some m -> allocB o m.op = true
 | [], _, _, j, o, m, ho, _ => by simp at ho
 | _ :: _, [], _, j, o, m, _, hm => by simp at hm
 | o :: os, m :: ms, h, j, o', m', ho, hm => by
  simp only [allocsB, Bool.and_eq_true] at h
  cases j with
  | zero =>
   simp only [List.getElem?_cons_zero, Option.some.injEq] at ho hm
   subst ho; subst hm; exact h.1
  | succ j => exact allocsB_get os ms h.2 j o' m' (by simpa using ho) (by simpa using hm)
theorem setMany_ds : ∀ (ps : List Nat) (xs : List AV) (fr : Fr), (setMany ps xs fr).ds = fr.ds
 | [], _, _ => by unfold setMany; rfl
 | p :: ps, [], _ => by unfold setMany; rfl
 | p :: ps, x :: xs, fr => by unfold setMany; rw [setMany_ds ps xs]; rfl
theorem setMany_sound {E : Env} {w : World} {N : Nat} {D : List Deferred} : ∀ (ps : List Nat) (xs : List AV) (vs : List Value) (fr : Fr) (t : Array Value), (∀ p ∈ ps, p < N) -> RvL E w xs vs -> t.size = N -> RvF E w fr { tmps := t, defers := D } ->
  RvF E w (setMany ps xs fr) { tmps := (ps.zip vs).foldl (fun t (p, v) => t.setIfInBounds p v) t, defers := D } /\ ((ps.zip vs).foldl (fun t (p, v) => t.setIfInBounds p v) t).size = N
 | [], xs, vs, fr, t, _, _, hN, hf => by unfold setMany; simpa using ⟨hf, hN⟩
 | p :: ps, [], vs, fr, t, _, hv, hN, hf => by
  have : vs = [] := hv
  subst this
  unfold setMany; simpa using ⟨hf, hN⟩
 | p :: ps, x :: xs, vs, fr, t, hp, hv, hN, hf => by
  obtain ⟨v, vs', rfl, h1, h2⟩ := hv
  unfold setMany
  simp only [List.zip_cons_cons, List.foldl_cons]
  have hp0 := hp p (by simp)
  refine setMany_sound ps xs vs' _ _ (fun q hq => hp q (by simp [hq])) h2 (by simpa using hN) ?_
  have := RvF.put (d := some p) hf h1 (by show (p + 1).ble t.size = true; exact Nat.ble_eq_true_of_le (by omega))
  exact this
theorem foldl_zip_list (ps : Array Tmp) (vs : Array Value) (t : Array Value) : (ps.zip vs).foldl (fun t (p, v) => t.setIfInBounds p v) t = (ps.toList.zip vs.toList).foldl (fun t (p, v) => t.setIfInBounds p v) t := by
 rw [<- Array.foldl_toList, Array.toList_zip]
theorem around_sound {Y : Yenv} {N n : Nat} {E0 : Env} {w0 : World} {id l : Nat} {rec : Loop} {fr : Fr} {a : Act} {ps : Array Tmp} {asg body : Code} {A Bd : Fr -> St -> CR}
  (hA : CSound P Y N (some id) (some l) asg A) (hB : CSound P Y N (some id) (some l) body Bd) (hY : YSound P Y E0 w0) (hβ : E0.β id = some l) (hl : l < w0.heap.size) (hlr : E0.lr l = rec)
  (h1 : rec.tmps = a.tmps) (h2 : rec.params = ps) (h3 : rec.assign = asg) (h4 : rec.body = body) (hf : RvF E0 w0 fr a) (hN : a.tmps.size = N) (hps : ∀ p ∈ ps.toList, p < N) :
  ∀ E w, Ext E0 w0 E w -> ∀ (args : List AV) (st : St) (vs : Array Value), RvL E w args vs.toList -> Sat E st w -> ∀ v st', aroundA A Bd id fr ps.toList args st = .ret v st' -> YCall P l vs w (RetR E w v st') := by
 intro E w hx args st vs ha hs v st' hr
 have hβ' := hx.β _ _ hβ
 have hlr' : E.lr l = rec := by rw [hx.lr l hl]; exact hlr
 unfold aroundA at hr
 cases hlen : args.length.beq ps.toList.length
 ·simp only [hlen, cond_false, reduceCtorEq] at hr
 ·simp only [hlen, cond_true] at hr
  have hlen := Nat.eq_of_beq_eq_true hlen
  have hvl := ha.length
  split at hr <;> try (simp only [reduceCtorEq] at hr; done)
  rename_i hlo
  obtain ⟨r, hr1, hr2⟩ := hs.loop hlo hβ'
  rw [hlr'] at hr2
  have hr2 : r = { rec with state := .ready, pending := none } := hr2
  have hvs : vs.size = r.params.size := by rw [hr2, h2]; simp only [Array.length_toList] at hvl hlen; omega
  refine ⟨_, _, _, _, run_yield hr1 hvs, ?_⟩
  split at hr <;> try (simp only [reduceCtorEq] at hr; done)
  rename_i fr1 st1 hasg
  split at hr <;> try (simp only [reduceCtorEq] at hr; done)
  rename_i hlo1
  have hrt : r.tmps = a.tmps := by rw [hr2]; exact h1
  have hrp : r.params = ps := by rw [hr2]; exact h2
  have hra : r.assign = asg := by rw [hr2]; exact h3
  have hrb : r.body = body := by rw [hr2]; exact h4
  rw [hrt, hrp, hra, hrb, foldl_zip_list]
  obtain ⟨hf1, hf2⟩ := setMany_sound (D := []) (N := N) ps.toList args vs.toList { fr with ds := [] } a.tmps hps ha hN (fun n => Rv.mono hx _ _ (hf n))
  have hA0 : RvA P E w N 0 (setMany ps.toList args { fr with ds := [] }) { tmps := (ps.toList.zip vs.toList).foldl (fun t (p, v) => t.setIfInBounds p v) a.tmps, defers := [] } :=
   ⟨hf1, hf2, by rw [setMany_ds]; rfl, Nat.zero_le _⟩
  refine roundIn_of_wpIn (F := Fence.wide) trivial ?_
  refine wpIn_mono (hA 0 E w _ _ st _ (hY.mono hx) hβ' hasg (by simp) hA0 hs) fun e a1 w1 ⟨he, E1, x1, s1, f1⟩ => ?_
  subst he
  have hβ1 := x1.β _ _ hβ'
  have hlr1 : E1.lr l = rec := by rw [x1.lr l (Array.getElem?_eq_some_iff.1 hr1).1]; exact hlr'
  obtain ⟨q, hq1, hq2⟩ := s1.loop hlo1 hβ1
  rw [hlr1] at hq2
  have hq2 : q = { rec with state := .ready, pending := none } := hq2
  obtain ⟨s2, x2⟩ := s1.putLoop (s' := .busy) (r' := { q with state := .busy }) hlo1 hβ1 hq1 (by
   rw [hlr1]
   show { q with state := .busy } = { rec with state := .busy, pending := none }
   rw [hq2])
  refine ⟨_, run_beginRound hq1 (by rw [hq2]), ?_⟩
  have fin : ∀ (jump : Option Code) (s : LS) (a2 : Act) (w2 : World) (E2 : Env) (st2 : St) (b : Bool), jump.isNone = b -> (∀ r0 r : Loop, r = { r0 with state := .busy, pending := none } -> s.ok r0 { r with state := if jump.isNone then .ready else .done, pending := jump }) ->
    Ext E1 (w1.putObj l (.loop { q with state := .busy })) E2 w2 -> Sat E2 st2 w2 -> loopAt st2 id = some .busy -> ∃ u w3, (Instr.endRound l jump).run P w2 = .ok u w3 /\ RetR E w (.bool b) (st2.put id (.loop s)) (.returned u) w3 := fun jump s a2 w2 E2 st2 b hb hok y1 y2 y3 => by
   have hβ2 := y1.β _ _ hβ1
   have hlr2 : E2.lr l = rec := by
    rw [y1.lr l (by simp; exact (Array.getElem?_eq_some_iff.1 hq1).1)]; exact hlr1
   obtain ⟨p, hp1, hp2⟩ := y2.loop y3 hβ2
   rw [hlr2] at hp2
   have hp2 : p = { rec with state := .busy, pending := none } := hp2
   obtain ⟨s3, x3⟩ := y2.putLoop (s' := s) (r' := { p with state := if jump.isNone then .ready else .done, pending := jump }) y3 hβ2 hp1 (by rw [hlr2]; exact hok rec p hp2)
   exact ⟨_, _, run_endRound jump hp1, .bool jump.isNone, E2, rfl, ((x1.trans x2).trans y1).trans x3, s3, by rw [hb]; rfl⟩
  cases hbd : Bd fr1 (st1.put id (.loop .busy)) with
  | stuck => rw [hbd] at hr; cases hr
  | pan _ _ _ => rw [hbd] at hr; cases hr
  | norm fr2 st2 =>
   rw [hbd] at hr
   simp only [endRoundA] at hr
   split at hr <;> try (simp only [reduceCtorEq] at hr; done)
   rename_i hlo2
   injection hr with e1 e2; subst e1; subst e2
   refine wpIn_mono (hB 0 E1 _ _ _ _ _ ((hY.mono hx).mono (x1.trans x2)) hβ1 hbd (by simp) (f1.mono x2) s2) fun e a2 w2 ⟨he, E2, y1, y2, y3⟩ => ?_
   subst he
   exact fin none .ready a2 w2 E2 st2 true rfl (fun r0 r h => by rw [h]; rfl) y1 y2 hlo2
  | ret fr2 st2 =>
   rw [hbd] at hr
   simp only [endRoundA] at hr
   split at hr <;> try (simp only [reduceCtorEq] at hr; done)
   rename_i hlo2
   injection hr with e1 e2; subst e1; subst e2
   refine wpIn_mono (hB 0 E1 _ _ _ _ _ ((hY.mono hx).mono (x1.trans x2)) hβ1 hbd (by simp) (f1.mono x2) s2) fun e a2 w2 ⟨he, E2, y1, y2, y3⟩ => ?_
   subst he
   exact fin (some .ret) .ret a2 w2 E2 st2 false rfl (fun r0 r h => by rw [h]; rfl) y1 y2 hlo2
  | exit id' fr2 st2 =>
   rw [hbd] at hr
   simp only [endRoundA] at hr
   split at hr <;> try (simp only [reduceCtorEq] at hr; done)
   rename_i hlo2
   injection hr with e1 e2; subst e1; subst e2
   refine wpIn_mono (hB 0 E1 _ _ _ _ _ ((hY.mono hx).mono (x1.trans x2)) hβ1 hbd (by simp) (f1.mono x2) s2) fun e a2 w2 ⟨he, E2, y1, y2, y3⟩ => ?_
   subst he
   exact fin (some (.exit id')) (.exit id') a2 w2 E2 st2 false rfl (fun r0 r h => by rw [h]; rfl) y1 y2 hlo2
theorem rfun_sound {Y : Yenv} {N n B : Nat} {ro b0 : Option Nat} {g : Operand} {ps : Array Tmp} {asg body : Code} {A Bd : Fr -> St -> CR} (hG : GSound P Γ) {E E1 : Env} {w w1 : World} {fr : Fr} {a : Act} {st : St} {gf : Nat} {first captured : List AV} {v1 v2 : Array Value} {mark : List Deferred} {rec : Loop} {r : CR}
  (hA : ∀ l, CSound P Y N (some st.next) (some l) asg A) (hB : ∀ l, CSound P Y N (some st.next) (some l) body Bd) (hY : YSound P Y E w) (hps : ∀ p ∈ ps.toList, p < N)
  (hg : a.eval g = .func (.func gf) v1 v2) (h1 : RvL E w first v1.toList) (h2 : RvL E w captured v2.toList) (hent : Γ.ent gf = true) (hf : RvA P E w N B fr a)
  (hx1 : Ext E w E1 w1) (hs1 : Sat E1 st w1) (hrs : rec.state = .ready) (hrp : rec.pending = none) (hrt : rec.tmps = a.tmps) (hrps : rec.params = ps) (hra : rec.assign = asg) (hrb : rec.body = body)
  (hd : ∀ E' w', Ext E1 w1 E' w' -> RvD P E' w' B w'.heap.size (markA ro fr).ds (mark ++ a.defers))
  (hr : (match Γ.call (Yenv.set Y st.next (aroundA A Bd st.next fr ps.toList)) gf (first ++ [.yld st.next] ++ captured) (st.new (.loop .ready)) with
    | .ret _ st2 => endLoopA st.next (markA ro fr) st2
    | .pan v st2 => .pan (markA ro fr) v st2
    | .stuck => .stuck) = r) (hst : r ≠ .stuck) :
  ∃ (d : Deferred) (w₁' : World) (f : FuncId) (args : Array Value) (w₂ : World), (resolve a.eval (rangeCall g w1.heap.size) 0).run P (w1.alloc (.loop rec)) = .ok d w₁' ∧
   (invoke d.target d.args).run P w₁' = .ok (.enter f args) w₂ /\ CallsIn (FR0 b0) (0 - 1) P f args w₂ (rangePost (FR0 b0) 0 P w1.heap.size (CReach P E w N B r) { a with defers := mark ++ a.defers }) := by
 obtain ⟨hs2, hx2⟩ := hs1.newLoop rec hrs hrp
 have hx := hx1.trans hx2
 have hβ : (E1.loop st.next w1.heap.size rec).β st.next = some w1.heap.size := by simp [Env.loop, Env.link]
 have hlr : (E1.loop st.next w1.heap.size rec).lr w1.heap.size = rec := by simp [Env.loop]
 have hargs : RvL (E1.loop st.next w1.heap.size rec) (w1.alloc (.loop rec)) (first ++ [.yld st.next] ++ captured) (v1 ++ #[Value.func (.yield w1.heap.size) #[] #[]] ++ v2).toList := by
  simp only [Array.toList_append]
  have hy : RvL (E1.loop st.next w1.heap.size rec) (w1.alloc (.loop rec)) [.yld st.next] [Value.func (.yield w1.heap.size) #[] #[]] := ⟨_, _, rfl, ⟨_, hβ, rfl⟩, rfl⟩
  exact ((RvL.mono hx _ _ h1).append hy).append (RvL.mono hx _ _ h2)
 have hres : (resolve a.eval (rangeCall g w1.heap.size) 0).run P (w1.alloc (.loop rec)) = .ok { target := .fn (.func gf) v2, args := v1 ++ #[Value.func (.yield w1.heap.size) #[] #[]] } (w1.alloc (.loop rec)) := by
  simp only [resolve, hg, Deferred.ofValue]
  simp [Act.eval]
 have hen := hG.ent gf hent
 refine ⟨_, _, gf, v1 ++ #[Value.func (.yield w1.heap.size) #[] #[]] ++ v2, _, hres, by simp only [invoke]; exact hen _ _, ?_⟩
 have hYS : YSound P (Yenv.set Y st.next (aroundA A Bd st.next fr ps.toList)) (E1.loop st.next w1.heap.size rec) (w1.alloc (.loop rec)) := by
  intro E' w' hx' id b args s vs hb ha hs v st' hret
  unfold Yenv.set at hret
  cases hid : id.beq st.next
  ·rw [hid] at hret
   exact hY E' w' (hx.trans hx') id b args s vs hb ha hs v st' hret
  ·rw [hid] at hret
   have := Nat.eq_of_beq_eq_true hid
   subst this
   have hb' := hx'.β _ _ hβ
   rw [hb] at hb'; injection hb' with hb'; subst hb'
   exact around_sound (n := n) (hA _) (hB _) (hY.mono hx) hβ (by simp) hlr hrt hrps hra hrb (hf.f.mono hx) hf.n hps E' w' hx' args s vs ha hs v st' hret
 have hS := hG.call _ _ _ hYS gf _ (st.new (.loop .ready)) _ hargs hs2
 have noval : ∀ R : Ending -> World -> Prop, CallOk P gf (v1 ++ #[Value.func (.yield w1.heap.size) #[] #[]] ++ v2) (w1.alloc (.loop rec)) R -> Calls P gf (v1 ++ #[Value.func (.yield w1.heap.size) #[] #[]] ++ v2) (w1.alloc (.loop rec)) R := fun R h => by
  rcases h with ⟨_, h⟩ | ⟨v, w', h, _⟩
  ·exact h
  ·rw [hen] at h; cases h
 cases hc : Γ.call (Yenv.set Y st.next (aroundA A Bd st.next fr ps.toList)) gf (first ++ [.yld st.next] ++ captured) (st.new (.loop .ready)) with
 | stuck => rw [hc] at hr; exact absurd hr.symm hst
 | pan v st2 =>
  rw [hc] at hr
  simp only at hr
  subst hr
  refine (callsIn_wide (n := 0)).2 ((noval _ (hS.2 v st2 hc)).mono fun e w3 ⟨u, E3, h3, h4, h5, h6⟩ => ?_)
  subst h3
  exact ⟨u, E3, rfl, hx.trans h4, h5, h6, ⟨fun n v hn => by
   have : fr.get n = some v := by cases ro <;> exact hn
   exact Rv.mono (hx.trans h4) _ _ (hf.f.part n v this), hd E3 w3 (hx2.trans h4)⟩⟩
 | ret v st2 =>
  rw [hc] at hr
  simp only at hr
  refine (callsIn_wide (n := 0)).2 ((noval _ (hS.1 v st2 hc)).mono fun e w3 ⟨u, E3, h3, h4, h5, h6⟩ => ?_)
  subst h3
  have hβ3 := h4.β _ _ hβ
  have hlr3 : E3.lr w1.heap.size = rec := by rw [h4.lr _ (by simp)]; exact hlr
  have act : ∀ w4, Ext E3 w3 E3 w4 -> RvA P E3 w4 N B (markA ro fr) { a with defers := mark ++ a.defers } := fun w4 h7 =>
   ⟨fun n => by
    have := hf.f.mono ((hx.trans h4).trans h7) n
    cases ro <;> exact this, hf.n, hd E3 w4 ((hx2.trans h4).trans h7), Nat.le_trans hf.b ((hx.trans h4).trans h7).size⟩
  unfold endLoopA at hr
  cases hlo : loopAt st2 st.next with
  | none => rw [hlo] at hr; exact absurd hr.symm hst
  | some s =>
   rw [hlo] at hr
   obtain ⟨q, hq1, hq2⟩ := h5.loop hlo hβ3
   rw [hlr3] at hq2
   obtain ⟨s3, x3⟩ := h5.putLoop (s' := .fin) (r' := { q with state := .exhausted }) hlo hβ3 hq1 trivial
   cases s with
   | busy => exact absurd hr.symm hst
   | fin => exact absurd hr.symm hst
   | ready =>
    simp only at hr; subst hr
    have hq2 : q = { rec with state := .ready, pending := none } := hq2
    exact ⟨none, _, by rw [run_endLoop hq1 (by rw [hq2]; simp), hq2], rfl, E3, (hx.trans h4).trans x3, s3, act _ x3⟩
   | ret =>
    simp only at hr; subst hr
    have hq2 : q = { rec with state := .done, pending := some .ret } := hq2
    exact ⟨some .ret, _, by rw [run_endLoop hq1 (by rw [hq2]; simp), hq2], wpIn_ret ⟨rfl, E3, (hx.trans h4).trans x3, s3, act _ x3⟩⟩
   | exit e =>
    simp only at hr; subst hr
    have hq2 : q = { rec with state := .done, pending := some (.exit e) } := hq2
    exact ⟨some (.exit e), _, by rw [run_endLoop hq1 (by rw [hq2]; simp), hq2], wpIn_exit ⟨rfl, E3, (hx.trans h4).trans x3, s3, act _ x3⟩⟩
theorem acode_sound {N n : Nat} {pol : Nat -> Nat -> Bool} {Y : Yenv} (hG : GSound P Γ) : ∀ (c : Code) (rd : Bool) (ro b0 : Option Nat), (rd = false -> b0 = none) -> CSound P Y N ro b0 c (acode Γ Y n (ccode P N pol rd c) ro) := by
 intro c
 induction c with
 | skip => intro rd ro b0 _ B E w fr a st r hY hro hr _ hf hs; simp only [ccode, acode] at hr; subst hr; exact wpIn_skip ⟨rfl, E, Ext.refl _ _, hs, hf⟩
 | ret => intro rd ro b0 _ B E w fr a st r hY hro hr _ hf hs; simp only [ccode, acode] at hr; subst hr; exact wpIn_ret ⟨rfl, E, Ext.refl _ _, hs, hf⟩
 | exit id => intro rd ro b0 _ B E w fr a st r hY hro hr _ hf hs; simp only [ccode, acode] at hr; subst hr; exact wpIn_exit ⟨rfl, E, Ext.refl _ _, hs, hf⟩
 | region id ops draw =>
  intro rd ro b0 hrd B E w fr a st r hY hro hr hst hf hs
  have hΓ := hG.sound hY
  cases draw with
  | true =>
   simp only [ccode] at hr
   cases hms : copers P ops N rd (pol id) 0 ops.toList with
   | none => simp only [hms, acode] at hr; exact absurd hr.symm hst
   | some ms =>
    simp only [hms] at hr
    generalize hzs : ms.zip (ancsGo ops.toList []) = zs at hr
    unfold cdraw at hr
    cases hb : (P.follows .mixedOrders && drawB ops zs && allocsB ops.toList ms)
    ·rw [hb] at hr; simp only [cond_false, acode] at hr; exact absurd hr.symm hst
    ·rw [hb] at hr
     simp only [cond_true, acode] at hr
     simp only [Bool.and_eq_true] at hb
     have hd := drawOk_of hb.1.2
     have hops : OpsOk P ops N zs := fun i o ho => by
      obtain ⟨m, h1, h2⟩ := copers_get _ _ _ hms i o (by simpa using ho)
      have hi : i < ops.size := (Array.getElem?_eq_some_iff.1 ho).1
      obtain ⟨z, hz⟩ : ∃ z, zs[i]? = some z := ⟨_, List.getElem?_eq_getElem (by rw [hd.len]; exact hi)⟩
      have hzm : z.1 = m := by
       rw [<- hzs] at hz
       have := List.getElem?_zip_eq_some.1 hz
       rw [h1] at this
       exact (Option.some.inj this.1).symm
      have hal := allocsB_get _ _ hb.2 i o m (by simpa using ho) h1
      simp only [coper, Option.bind_eq_some_iff] at h2
      obtain ⟨g, hg, h2⟩ := h2
      cases hdst : dstOk N o.dst
      ·simp [hdst] at h2
      ·simp only [hdst, cond_true, Option.some.injEq] at h2
       have hmg : m.guard = g := by rw [<- h2]
       have hmd : m.dst = o.dst := by rw [<- h2]
       have hmo : m.op = match cspec rd o with | some m => m | none => (cop P (pol id (0 + i)) o).getD .bad := by rw [<- h2]; rfl
       have hmo' : m.op = (cop P (pol id (0 + i)) o).getD .bad := by
        cases hsp : cspec rd o with
        | none => rw [hsp] at hmo; exact hmo
        | some m' =>
         exfalso
         rw [hsp] at hmo
         simp only at hmo
         have : m'.special = true := by
          unfold cspec at hsp
          split at hsp
          ·cases rd with
           | true => cases hsp
           | false =>
            simp only [cond_false, Option.bind_eq_some_iff, Option.map_eq_some_iff] at hsp
            obtain ⟨f, _, xs, _, rfl⟩ := hsp
            rfl
          ·injection hsp with hsp; subst hsp; rfl
          ·cases hsp
         rw [hmo] at hal
         cases m' <;> simp [MOp.special] at this <;> simp [allocB, MOp.special] at hal
       refine ⟨z, _, hz, by rw [hzm]; exact hmd, by rw [hzm]; exact hmo', by rw [hzm, hmg]; exact hg, rfl, fun cs hcs => ?_⟩
       rw [hzm] at hcs
       simp only [allocB, hcs] at hal
       split at hal
       ·exact ⟨_, by assumption⟩
       ·cases hal
     cases har : adraw (Γ.cg Y) zs (chkOf ops.size zs) fr st with
     | stuck => simp only [har] at hr; exact absurd hr.symm hst
     | ok fr' st' =>
      simp only [har] at hr; subst hr
      exact wpIn_mono (adraw_sound (id := id) hb.1.1 hΓ hd hops har (by simp) hf hs) fun _ _ _ h => h
     | pan fr' v st' =>
      simp only [har] at hr; subst hr
      exact wpIn_mono (adraw_sound (id := id) hb.1.1 hΓ hd hops har (by simp) hf hs) fun _ _ _ h => h
  | false =>
   simp only [ccode] at hr
   cases hms : copers P ops N rd (pol id) 0 ops.toList with
   | none => simp only [hms, acode] at hr; exact absurd hr.symm hst
   | some ms =>
    simp only [hms, acode] at hr
    refine wpIn_region_list ?_
    cases har : arun (Γ.cg Y) ms fr st with
    | stuck => simp only [har] at hr; exact absurd hr.symm hst
    | ok fr' st' =>
     simp only [har] at hr; subst hr
     exact wpListIn_mono (fun e a' w' h => h) _ _ _ (arun_sound hrd ops.toList 0 ms E w fr a st _ hΓ hms har (by simp) hf hs)
    | pan fr' v st' =>
     simp only [har] at hr; subst hr
     exact wpListIn_mono (fun e a' w' h => h) _ _ _ (arun_sound hrd ops.toList 0 ms E w fr a st _ hΓ hms har (by simp) hf hs)
 | seq c d ihc ihd =>
  intro rd ro b0 hrd B E w fr a st r hY hro hr hst hf hs
  simp only [ccode, acode] at hr
  refine wpIn_seq ?_
  cases hcr : acode Γ Y n (ccode P N pol rd c) ro fr st with
  | stuck => simp only [hcr] at hr; exact absurd hr.symm hst
  | norm fr' st' =>
   simp only [hcr] at hr
   refine wpIn_mono (ihc rd ro b0 hrd B E w fr a st _ hY hro hcr (by simp) hf hs) fun e a' w' ⟨he, E', h1, h2, h3⟩ => ?_
   subst he
   exact wpIn_mono (ihd rd ro b0 hrd B E' w' fr' a' st' r (hY.mono h1) (hro.mono h1) hr hst h3 h2) fun _ _ _ hq => CReach.mono h1 hq
  | exit id fr' st' =>
   simp only [hcr] at hr; subst hr
   refine wpIn_mono (ihc rd ro b0 hrd B E w fr a st _ hY hro hcr (by simp) hf hs) fun e a' w' h => ?_
   obtain ⟨he, h'⟩ := h
   subst he
   exact ⟨rfl, h'⟩
  | ret fr' st' =>
   simp only [hcr] at hr; subst hr
   refine wpIn_mono (ihc rd ro b0 hrd B E w fr a st _ hY hro hcr (by simp) hf hs) fun e a' w' h => ?_
   obtain ⟨he, h'⟩ := h
   subst he
   exact ⟨rfl, h'⟩
  | pan fr' v st' =>
   simp only [hcr] at hr; subst hr
   refine wpIn_mono (ihc rd ro b0 hrd B E w fr a st _ hY hro hcr (by simp) hf hs) fun e a' w' h => ?_
   obtain ⟨u, E', he, h'⟩ := h
   subst he
   exact ⟨u, E', rfl, h'⟩
 | cond co c d ihc ihd =>
  intro rd ro b0 hrd B E w fr a st r hY hro hr hst hf hs
  simp only [ccode] at hr
  cases hco : cx co with
  | none => simp only [hco, acode] at hr; exact absurd hr.symm hst
  | some x =>
   simp only [hco, acode] at hr
   have hx := cx_sound hf.f hco
   cases hev : ev fr x <;> simp only [hev] at hr <;> try exact absurd hr.symm hst
   rename_i b
   rw [hev] at hx
   have hx : a.eval co = .bool b := hx
   cases b with
   | true => exact wpIn_cond_true hx (ihc rd ro b0 hrd B E w fr a st r hY hro hr hst hf hs)
   | false => exact wpIn_cond_false hx (ihd rd ro b0 hrd B E w fr a st r hY hro hr hst hf hs)
 | block id c ih =>
  intro rd ro b0 hrd B E w fr a st r hY hro hr hst hf hs
  simp only [ccode, acode] at hr
  refine wpIn_block ?_
  cases hcr : acode Γ Y n (ccode P N pol rd c) ro fr st with
  | stuck => simp only [hcr] at hr; exact absurd hr.symm hst
  | norm fr' st' =>
   simp only [hcr] at hr; subst hr
   refine wpIn_mono (ih rd ro b0 hrd B E w fr a st _ hY hro hcr (by simp) hf hs) fun e a' w' ⟨he, h'⟩ => ?_
   subst he
   exact ⟨rfl, h'⟩
  | exit id' fr' st' =>
   simp only [hcr] at hr
   refine wpIn_mono (ih rd ro b0 hrd B E w fr a st _ hY hro hcr (by simp) hf hs) fun e a' w' ⟨he, h'⟩ => ?_
   subst he
   simp only [Exit.inBlock]
   cases hid : id'.beq id
   ·have hne : ¬ id' = id := fun h => by subst h; simp at hid
    rw [if_neg hne]
    simp only [hid, cond_false] at hr; subst hr
    exact ⟨rfl, h'⟩
   ·have he := Nat.eq_of_beq_eq_true hid
    rw [if_pos he]
    simp only [hid, cond_true] at hr; subst hr
    exact ⟨rfl, h'⟩
  | ret fr' st' =>
   simp only [hcr] at hr; subst hr
   refine wpIn_mono (ih rd ro b0 hrd B E w fr a st _ hY hro hcr (by simp) hf hs) fun e a' w' ⟨he, h'⟩ => ?_
   subst he
   exact ⟨rfl, h'⟩
  | pan fr' v st' =>
   simp only [hcr] at hr; subst hr
   refine wpIn_mono (ih rd ro b0 hrd B E w fr a st _ hY hro hcr (by simp) hf hs) fun e a' w' h => ?_
   obtain ⟨u, E', he, h'⟩ := h
   subst he
   exact ⟨u, E', rfl, h'⟩
 | loop c ih =>
  intro rd ro b0 hrd B E w fr a st r hY hro hr hst hf hs
  simp only [ccode, acode] at hr
  exact wpIn_loop_rounds n (aloop_sound (ih rd ro b0 hrd) n B E w fr a st r hY hro hr hst hf hs)
 | rangeFunc g ps asg body iha ihb =>
  intro rd ro b0 hrd B E w fr a st r hY hro hr hst hf hs
  simp only [ccode] at hr
  cases hg : cx g with
  | none => simp only [hg, acode] at hr; exact absurd hr.symm hst
  | some x =>
   simp only [hg] at hr
   cases hps : (ps.toList.all fun p => (p + 1).ble N)
   ·simp only [hps, cond_false, acode] at hr; exact absurd hr.symm hst
   ·simp only [hps, cond_true, acode] at hr
    have hps' : ∀ p ∈ ps.toList, p < N := fun p hp => by
     have := List.all_eq_true.1 hps p hp
     exact Nat.le_of_ble_eq_true this
    have hgv := cx_sound hf.f hg
    cases hev : ev fr x <;> simp only [hev] at hr <;> try exact absurd hr.symm hst
    rename_i fn first captured
    cases fn <;> simp only at hr <;> try exact absurd hr.symm hst
    rename_i gf
    rw [hev] at hgv
    obtain ⟨v1, v2, e1, h1, h2⟩ := hgv
    cases hcond : (Γ.ent gf && roOk ro st)
    ·simp only [hcond, cond_false] at hr; exact absurd hr.symm hst
    ·simp only [hcond, cond_true] at hr
     simp only [Bool.and_eq_true] at hcond
     refine wpIn_rangeFunc fun fn _ => ?_
     cases ro with
     | none =>
      cases b0 with
      | some b => exact hro.elim
      | none =>
       obtain ⟨hs1, hx1⟩ := hs.allocDz
       obtain ⟨d, w1', f, args, w2, q1, q2, q3⟩ := rfun_sound (n := n) (ro := none) (b0 := none) (g := g) (mark := [{ target := .collected w.heap.size, args := #[] }])
        (rec := { state := .ready, pending := none, fn, tmps := a.tmps, params := ps, assign := asg, body, defers := w.heap.size }) hG (fun l => iha true _ (some l) (by simp)) (fun l => ihb true _ (some l) (by simp)) hY hps' e1 h1 h2 hcond.1 hf hx1 hs1 rfl rfl rfl rfl rfl rfl
        (fun E' w' hx' => ⟨_, _, w.heap.size, rfl, rfl, hf.b, by have := hx'.size; simp at this; omega, hx'.Dz _ (.inl rfl), hf.d.mono (hx1.trans hx') (Nat.le_refl _)⟩) hr hst
       have hsz : (w.alloc (.deferred (some []))).heap.size = w.heap.size + 1 := by simp
       rw [hsz] at q1 q3
       exact ⟨_, _, _, d, w1', f, args, w2, run_enterLoop_outer _ _ _ _ _, q1, fun _ _ => trivial, q2, noDepth none, q3⟩
     | some id0 =>
      cases b0 with
      | none => exact hro.elim
      | some b =>
       have hro' : E.β id0 = some b := hro
       obtain ⟨s0, hl0⟩ := Option.isSome_iff_exists.1 hcond.2
       obtain ⟨r0, hr0, _⟩ := hs.loop hl0 hro'
       obtain ⟨d, w1', f, args, w2, q1, q2, q3⟩ := rfun_sound (n := n) (ro := some id0) (b0 := some b) (g := g) (mark := [])
        (rec := { state := .ready, pending := none, fn, tmps := a.tmps, params := ps, assign := asg, body, defers := r0.defers }) hG (fun l => iha true _ (some l) (by simp)) (fun l => ihb true _ (some l) (by simp)) hY hps' e1 h1 h2 hcond.1 hf (Ext.refl _ _) hs rfl rfl rfl rfl rfl rfl
        (fun E' w' hx' => hf.d.mono hx' hx'.size) hr hst
       exact ⟨_, _, _, d, w1', f, args, w2, run_enterLoop_inner hr0 _ _ _ _ _, q1, fun _ _ => trivial, q2, noDepth (some b), q3⟩
 | _ => intro rd ro b0 _ B E w fr a st r _ _ hr hst; simp only [ccode, acode] at hr; exact absurd hr.symm hst
end
end Go.AM
namespace Go.AM
def abody (Γ : Gam) (Y : Yenv) (n : Nat) (DF : Nat -> List AV -> St -> DM -> Option (DM × St)) (mf : MFunc) (args : List AV) (st : St) : FR :=
 bif args.length.ble mf.N then match acode Γ Y n mf.code none (frOf 0 args Fr.nil) st with
  | .norm fr st => endF DF mf fr st .ret
  | .ret fr st => endF DF mf fr st .ret
  | .pan fr v st => endF DF mf fr st (.pan v)
  | _ => .stuck
 else .stuck
def arunC (tbl : Nat -> Option MFunc) (hand : Gam -> Nat -> Yenv -> Nat -> List AV -> St -> FR) : Nat -> Yenv -> Nat -> List AV -> St -> FR
 | 0, _, _, _, _ => .stuck
 | n + 1, Y, f, args, st => match tbl f with
  | some mf => abody ⟨arunC tbl hand n, entT tbl⟩ Y n (defT tbl ⟨arunC tbl hand n, entT tbl⟩ Y n) mf args st
  | none => hand ⟨arunC tbl hand n, entT tbl⟩ n Y f args st
def gamT (tbl : Nat -> Option MFunc) (hand : Gam -> Nat -> Yenv -> Nat -> List AV -> St -> FR) (n : Nat) : Gam := ⟨arunC tbl hand n, entT tbl⟩
def TblOk (P : Program) (tbl : Nat -> Option MFunc) : Prop := ∀ f mf, tbl f = some mf -> ∃ fn pol, P.funcs[f]? = some fn /\ cfunc P pol fn = some mf
def HandOk (P : Program) (hand : Gam -> Nat -> Yenv -> Nat -> List AV -> St -> FR) : Prop := ∀ Γ n, GSound P Γ -> ∀ (Y : Yenv) (E : Env) (w : World), YSound P Y E w -> FnOk P (hand Γ n Y) E w
section
variable {P : Program} {Γ : Gam}
theorem frOf_get : ∀ (xs : List AV) (i n : Nat) (fr : Fr), (frOf i xs fr).get n = if i <= n /\ n < i + xs.length then xs[n - i]? else fr.get n
 | [], i, n, fr => by simp only [frOf, List.length_nil, Nat.add_zero]; rw [if_neg (by omega)]
 | x :: xs, i, n, fr => by
  simp only [frOf]
  rw [frOf_get xs (i + 1) n]
  by_cases h : n = i
  ·subst h
   rw [if_neg (by omega), if_pos (by simp), Fr.get_set]
   simp
  ·by_cases h2 : i + 1 <= n /\ n < i + 1 + xs.length
   ·rw [if_pos h2, if_pos (by simp only [List.length_cons]; omega)]
    rw [show n - i = (n - (i + 1)) + 1 by omega]; simp
   ·rw [if_neg h2, if_neg (by simp only [List.length_cons]; omega), Fr.get_set, if_neg h]
theorem frOf_sound {E : Env} {w : World} {args : List AV} {vs : Array Value} {N : Nat} (h : RvL E w args vs.toList) :
  RvF E w (frOf 0 args Fr.nil) { tmps := vs ++ Array.replicate (N - vs.size) undef, defers := [] } := by
 intro n
 rw [frOf_get]
 have hl := h.length
 simp only [Array.length_toList] at hl
 by_cases hn : n < args.length
 ·rw [if_pos (by omega)]
  simp only [Nat.sub_zero]
  obtain ⟨v, h1, h2⟩ := h.get n (List.getElem?_eq_getElem hn)
  rw [List.getElem?_eq_getElem hn]
  simp only [Option.getD_some]
  have : (vs ++ Array.replicate (N - vs.size) undef).getD n undef = v := by
   rw [Array.getD_eq_getD_getElem?, Array.getElem?_append_left (by omega)]
   have : vs[n]? = some v := by simpa using h1
   rw [this]; rfl
  rw [this]; exact h2
 ·rw [if_neg (by omega), Fr.get_nil]
  simp only [Option.getD_none]
  have : (vs ++ Array.replicate (N - vs.size) undef).getD n undef = undef := by
   rw [Array.getD_eq_getD_getElem?, Array.getElem?_append_right (by omega)]
   cases hq : (Array.replicate (N - vs.size) undef)[n - vs.size]? with
   | none => rfl
   | some q =>
    have := Array.getElem?_eq_some_iff.1 hq
    obtain ⟨_, h3⟩ := this
    simp at h3; simp [h3]
  rw [this]; rfl
def resSem (tmps : Array Value) : ResultVar -> Sem Value
 | .tmp t => pure (tmps.getD t undef)
 | .cell b t => do loadVar t (<- asAddr (tmps.getD b undef))
theorem results_eq (fn : Func) (tmps : Array Value) : results fn tmps = (do
  let vs <- fn.results.mapM (resSem tmps)
  pure (if h : vs.size = 1 then vs[0] else .tuple vs)) := by
 unfold results
 have : (fun x => resSem tmps x) = (fun (x : ResultVar) => (match x with
   | .tmp t => pure (tmps.getD t undef)
   | .cell a t => do loadVar t (<- asAddr (tmps.getD a undef)) : Sem Value)) := by
  funext r; cases r <;> rfl
 show _ = (do
  let vs <- fn.results.mapM (fun x => resSem tmps x)
  pure (if h : vs.size = 1 then vs[0] else .tuple vs))
 rw [this]; rfl
theorem ressA_sound {E : Env} {w : World} {fr : Fr} {a : Act} {st : St} (hf : ∀ n v, fr.get n = some v -> Rv E w v (a.tmps.getD n undef)) (hs : Sat E st w) : ∀ (rs : List ResultVar) (ms : List MRes) (l : List AV), cress P rs = some ms -> ressA fr st ms = some l ->
  ∃ vs, (rs.mapM (resSem a.tmps)).run P w = .ok vs w /\ RvL E w l vs
 | [], ms, l, hc, hr => by
  simp only [cress, Option.some.injEq] at hc; subst hc
  simp only [ressA, Option.some.injEq] at hr; subst hr
  exact ⟨[], by simp, rfl⟩
 | r :: rs, ms, l, hc, hr => by
  simp only [cress, Option.bind_eq_some_iff, Option.map_eq_some_iff] at hc
  obtain ⟨m, h1, ms', h2, rfl⟩ := hc
  simp only [ressA, Option.bind_eq_some_iff, Option.map_eq_some_iff] at hr
  obtain ⟨v, h3, l', h4, rfl⟩ := hr
  obtain ⟨vs, h5, h6⟩ := ressA_sound hf hs rs ms' l' h2 h4
  cases r with
  | tmp t =>
   simp only [cres, Option.some.injEq] at h1; subst h1
   simp only [resA] at h3
   exact ⟨_ :: vs, by rw [List.mapM_cons]; simp only [resSem, Sem.run_bind, Sem.run_pure, Result.andThen, h5], _, _, rfl, hf t v h3, h6⟩
  | cell b t =>
   simp only [cres, Option.bind_eq_some_iff, Option.map_eq_some_iff] at h1
   obtain ⟨d, hd, i, hi, rfl⟩ := h1
   simp only [resA, Option.bind_eq_some_iff] at h3
   obtain ⟨x, h3x, h3⟩ := h3
   obtain ⟨u, h7, h8⟩ := loadA_sound (P := P) hd hi rfl hs (hf b x h3x) h3
   have h9 : (resSem a.tmps (.cell b t)).run P w = .ok u w := by
    show (asAddr (a.tmps.getD b undef) >>= fun x => loadVar t x).run P w = _
    revert h7
    generalize a.tmps.getD b undef = q
    intro h7
    cases q with
    | pointer o =>
     cases o with
     | none => simp [Instr.loadAt, Instr.sureAddr] at h7
     | some ad => simpa [Instr.loadAt, Instr.sureAddr, asAddr] using h7
    | _ => simp [Instr.loadAt, Instr.sureAddr] at h7
   refine ⟨u :: vs, ?_, u, vs, rfl, h8, h6⟩
   rw [List.mapM_cons]
   simp only [Sem.run_bind, h9, Sem.run_pure, Result.andThen, h5]
theorem results_run {w : World} {fn : Func} {tmps : Array Value} {vs : List Value} (h : (fn.results.toList.mapM (resSem tmps)).run P w = .ok vs w) :
  (results fn tmps).run P w = .ok (if h : vs.toArray.size = 1 then vs.toArray[0] else .tuple vs.toArray) w := by
 have hm : (fn.results.mapM (resSem tmps)).run P w = .ok vs.toArray w := by
  rw [Array.mapM_eq_mapM_toList]
  simp only [Sem.run_map, h, Result.andThen]
 rw [results_eq]
 simp only [Sem.run_bind, hm, Result.andThen, Sem.run_pure]
theorem resultA_sound {E : Env} {w : World} {fr : Fr} {a : Act} {st st' : St} {fn : Func} {ms : List MRes} {v : AV} (hf : ∀ n v, fr.get n = some v -> Rv E w v (a.tmps.getD n undef)) (hs : Sat E st w) (hc : cress P fn.results.toList = some ms)
  (hr : resultA fr st ms = .ret v st') : ∃ u, (results fn a.tmps).run P w = .ok u w /\ Rv E w v u /\ st' = st := by
 unfold resultA at hr
 cases hl : ressA fr st ms with
 | none => simp [hl] at hr
 | some l =>
  obtain ⟨vs, h1, h2⟩ := ressA_sound hf hs _ _ l hc hl
  rw [results_run h1]
  simp only [hl] at hr
  have hlen := h2.length
  split at hr
  ·rename_i v' he
   injection he with he; subst he
   injection hr with e1 e2; subst e1; subst e2
   obtain ⟨x, xs, rfl, h3, h4⟩ := h2
   cases h4
   exact ⟨x, by simp, h3, rfl⟩
  ·rename_i vs' hne he
   injection he with he; subst he
   injection hr with e1 e2; subst e1; subst e2
   have : vs.length ≠ 1 := fun h1 => by
    rw [<- hlen] at h1
    cases l with
    | nil => simp at h1
    | cons c cs => cases cs with
     | nil => exact hne c rfl
     | cons _ _ => simp at h1
   exact ⟨.tuple vs.toArray, by simp [this], ⟨vs.toArray, rfl, by simpa using h2⟩, rfl⟩
  ·simp at hr
def DMR (E : Env) (w : World) : DM -> FrameMode -> Prop
 | .ret, u => u = .returning
 | .pan v, u => ∃ x, u = .panicking [{ v := x, recovered := false }] /\ Rv E w v x
 | .recd, u => ∃ x, u = .panicking [{ v := x, recovered := true }]
theorem DMR.mono {E E' : Env} {w w' : World} (hx : Ext E w E' w') : ∀ {m : DM} {u : FrameMode}, DMR E w m u -> DMR E' w' m u
 | .ret, _, h => h
 | .pan _, _, ⟨x, h1, h2⟩ => ⟨x, h1, Rv.mono hx _ _ h2⟩
 | .recd, _, h => h
theorem DMR.run {E : Env} {w : World} {m : DM} {u : FrameMode} (h : DMR E w m u) : u ≠ .run := by
 cases m with
 | ret => rw [show u = _ from h]; simp
 | pan v => obtain ⟨x, rfl, _⟩ := h; simp
 | recd => obtain ⟨x, rfl⟩ := h; simp
theorem DMR.settle {E : Env} {w : World} {m : DM} {u : FrameMode} (h : DMR E w m u) : DMR E w (settleA m) (settle u) := by
 cases m with
 | ret => rw [show u = _ from h]; rfl
 | pan v => obtain ⟨x, rfl, h⟩ := h; exact ⟨x, rfl, h⟩
 | recd => obtain ⟨x, rfl⟩ := h; rfl
def SReach (P : Program) (E : Env) (w : World) (N B : Nat) (c₀ : Frame) (cs0 : List Frame) (r : CR) (m : DM) : Exit -> Act -> List Frame -> World -> Prop := fun e a' cs' w' =>
 ∃ u, cs' = { c₀ with mode := u } :: cs0 ∧
  match r with
  | .norm fr st => e = .normal /\ ∃ E', Ext E w E' w' /\ Sat E' st w' /\ RvA P E' w' N B fr a' /\ DMR E' w' m u
  | .ret fr st => e = .ret /\ ∃ E', Ext E w E' w' /\ Sat E' st w' /\ RvA P E' w' N B fr a' /\ DMR E' w' m u
  | _ => False
theorem SReach.mono {E E1 : Env} {w w1 : World} {N B : Nat} {c₀ : Frame} {cs0 : List Frame} {r : CR} {m : DM} (h : Ext E w E1 w1) {e : Exit} {a : Act} {cs : List Frame} {w' : World} (hr : SReach P E1 w1 N B c₀ cs0 r m e a cs w') : SReach P E w N B c₀ cs0 r m e a cs w' := by
 obtain ⟨u, h1, h2⟩ := hr
 cases r with
 | norm fr st => obtain ⟨h3, E', h4, h5⟩ := h2; exact ⟨u, h1, h3, E', h.trans h4, h5⟩
 | ret fr st => obtain ⟨h3, E', h4, h5⟩ := h2; exact ⟨u, h1, h3, E', h.trans h4, h5⟩
 | _ => exact h2.elim
theorem wpSIn_mono {F : Fence} {n : Nat} {c : Code} {Q Q' : Exit -> Act -> List Frame -> World -> Prop} {a : Act} {cs : List Frame} {w : World} (h : c.wpSIn F n P Q a cs w) (hq : ∀ e a cs w, Q e a cs w -> Q' e a cs w) : c.wpSIn F n P Q' a cs w :=
 fun b k hb hr hF hroom => let ⟨e, a', cs', w', l, q, r⟩ := h b k hb hr hF hroom; ⟨e, a', cs', w', l, hq _ _ _ _ q, r⟩
theorem recoverD_pan {c₀ : Frame} {cs : List Frame} {x : Value} : recoverD ({ c₀ with mode := .panicking [{ v := x, recovered := false }] } :: cs) = some (x, { c₀ with mode := .panicking [{ v := x, recovered := true }] } :: cs) := rfl
theorem wpOpsSIn_mono {F : Fence} {n : Nat} {ops : Array Oper} {Q Q' : Exit -> Act -> List Frame -> World -> Prop} (hq : ∀ e a cs w, Q e a cs w -> Q' e a cs w) : ∀ (l : List Nat) (a : Act) (cs : List Frame) (w : World), wpOpsSIn F n P ops Q l a cs w -> wpOpsSIn F n P ops Q' l a cs w
  | [], _, _, _, h => hq _ _ _ _ h
  | i :: l, a, cs, w, h => by
   unfold wpOpsSIn at *
   split
   ·rename_i ho; simp only [ho] at h; exact wpOpsSIn_mono hq l _ _ _ h
   ·rename_i o ho
    simp only [ho] at h
    refine ⟨h.1, ?_⟩
    have h := h.2
    split
    ·rename_i hw
     simp only [hw, if_true] at h
     generalize (execOp a.eval o).run P w = r at *
     cases r with
     | ok x w' =>
      cases x with
      | recover =>
       simp only at h ⊢
       split
       ·rename_i hrd; simp only [hrd] at h; exact wpOpsSIn_mono hq l _ _ _ h
       ·rename_i hrd; simp only [hrd] at h; exact wpOpsSIn_mono hq l _ _ _ h
      | value v => exact wpOpsSIn_mono hq l _ _ _ h
      | skip => exact wpOpsSIn_mono hq l _ _ _ h
      | _ => exact h.elim
     | halt x w' =>
      cases x with
      | panic v => exact hq _ _ _ _ h
      | _ => exact h.elim
    ·rename_i hw; simp only [hw] at h; exact wpOpsSIn_mono hq l _ _ _ h
theorem arunS_sound {ops : Array Oper} {N B : Nat} {rd : Bool} {pol : Nat -> Bool} {c₀ : Frame} {cs0 : List Frame} : ∀ (os : List Oper) (i : Nat) (ms : List MOper) (E : Env) (w : World) (fr fr' : Fr) (a : Act) (st st' : St) (m m' : DM) (u : FrameMode),
  (∀ k, k < os.length -> ops[i + k]? = os[k]?) -> copers P ops N rd pol i os = some ms -> arunS ms fr st m = some (fr', st', m') -> RvA P E w N B fr a -> Sat E st w -> DMR E w m u ->
  wpOpsSIn (FR0 none) 0 P ops (SReach P E w N B c₀ cs0 (.norm fr' st') m') (List.range' i os.length) a ({ c₀ with mode := u } :: cs0) w
 | [], i, ms, E, w, fr, fr', a, st, st', m, m', u, _, hc, hr, hf, hs, hm => by
  simp only [copers, Option.some.injEq] at hc; subst hc
  simp only [arunS, Option.some.injEq, Prod.mk.injEq] at hr
  obtain ⟨rfl, rfl, rfl⟩ := hr
  exact ⟨u, rfl, rfl, E, Ext.refl _ _, hs, hf, hm⟩
 | o :: os, i, ms, E, w, fr, fr', a, st, st', m, m', u, hk, hc, hr, hf, hs, hm => by
  have h0 := hk 0 (by simp)
  simp only [Nat.add_zero, List.getElem?_cons_zero] at h0
  have hk' : ∀ k, k < os.length -> ops[i + 1 + k]? = os[k]? := fun k hlt => by
   have := hk (k + 1) (by simp; omega)
   rw [show i + 1 + k = i + (k + 1) by omega, this]; simp
  simp only [copers, Option.bind_eq_some_iff, Option.map_eq_some_iff] at hc
  obtain ⟨mo, hmo, ms', hms, rfl⟩ := hc
  simp only [coper, Option.bind_eq_some_iff] at hmo
  obtain ⟨g, hg, hmo⟩ := hmo
  simp only [List.length_cons, List.range'_succ, wpOpsSIn, h0]
  refine ⟨fun _ _ => trivial, ?_⟩
  cases hd : dstOk N o.dst
  ·simp [hd] at hmo
  ·simp only [hd, cond_true, Option.some.injEq] at hmo
   have hmg : mo.guard = g := by rw [<- hmo]
   have hmd : mo.dst = o.dst := by rw [<- hmo]
   have hmop : mo.op = match cspec rd o with | some m => m | none => (cop P (pol i) o).getD .bad := by rw [<- hmo]; rfl
   simp only [arunS, hmg, hmd] at hr
   cases hw : wantedA fr g with
   | none => simp [hw] at hr
   | some b =>
    have hwant := wanted_sound hf.f hg hw
    cases b with
    | false =>
     simp only [hw] at hr
     simp only [hwant, Bool.false_eq_true, if_false]
     exact arunS_sound os (i + 1) ms' E w _ fr' _ st st' m m' u hk' hms hr (hf.put rfl hd) hs hm
    | true =>
     simp only [hw] at hr
     simp only [hwant, if_true]
     cases hrec : mo.op.isRecov with
     | true =>
      simp only [hrec, cond_true] at hr
      have hrun : (execOp a.eval o).run P w = .ok .recover w := by
       cases hsp : cspec rd o with
       | none =>
        rw [hsp] at hmop
        simp only at hmop
        cases hc : cop P (pol i) o with
        | none => rw [hc] at hmop; rw [hmop] at hrec; cases hrec
        | some m1 =>
         rw [hc] at hmop
         have := cop_special hc
         rw [hmop] at hrec
         simp only [Option.getD_some] at hrec
         cases m1 <;> simp [MOp.isRecov, MOp.special] at hrec this
       | some m1 =>
        unfold cspec at hsp
        split at hsp
        ·cases rd with
         | true => cases hsp
         | false =>
          rw [show cspec false o = some m1 by unfold cspec; simp only [*]] at hmop
          simp only [cond_false, Option.bind_eq_some_iff, Option.map_eq_some_iff] at hsp
          obtain ⟨f, _, xs, _, rfl⟩ := hsp
          simp only at hmop
          rw [hmop] at hrec; cases hrec
        ·rename_i ho
         simp [execOp, ho, resolve, invoke, builtin]
        ·cases hsp
      rw [hrun]
      simp only
      cases m with
      | ret =>
       have hu : u = .returning := hm
       subst hu
       simp only at hr
       simp only [recoverD]
       exact arunS_sound os (i + 1) ms' E w _ fr' _ st st' .ret m' .returning hk' hms hr (hf.put rfl hd) hs rfl
      | recd =>
       obtain ⟨x, hu⟩ := hm
       subst hu
       simp only at hr
       simp only [recoverD]
       exact arunS_sound os (i + 1) ms' E w _ fr' _ st st' .recd m' _ hk' hms hr (hf.put rfl hd) hs ⟨x, rfl⟩
      | pan v =>
       obtain ⟨x, hu, hx⟩ := hm
       subst hu
       simp only at hr
       rw [recoverD_pan]
       exact arunS_sound os (i + 1) ms' E w _ fr' _ st st' .recd m' _ hk' hms hr (hf.put hx hd) hs ⟨x, rfl⟩
     | false =>
      simp only [hrec, cond_false] at hr
      cases ho : aop fr st mo.op with
      | stuck => simp [ho] at hr
      | pan v st2 => simp [ho] at hr
      | val v st2 =>
       simp only [ho] at hr
       have hop : mo.op = (cop P (pol i) o).getD .bad := by
        cases hsp : cspec rd o with
        | none => rw [hsp] at hmop; exact hmop
        | some m1 =>
         exfalso
         rw [hsp] at hmop
         simp only at hmop
         rw [hmop] at ho hrec
         unfold cspec at hsp
         split at hsp
         ·cases rd with
          | true => cases hsp
          | false =>
           simp only [cond_false, Option.bind_eq_some_iff, Option.map_eq_some_iff] at hsp
           obtain ⟨f, _, xs, _, rfl⟩ := hsp
           cases ho
         ·injection hsp with hsp; subst hsp; cases hrec
         ·cases hsp
       cases hc : cop P (pol i) o with
       | none => rw [hc] at hop; rw [hop] at ho; cases ho
       | some m1 =>
        rw [hc] at hop
        simp only [Option.getD_some] at hop
        rw [hop] at ho
        have hnc : m1.isCall = false := by
         cases m1 <;> first | rfl | cases ho
        have hok := cop_sound hf.f hs hc hnc
        rw [ho] at hok
        obtain ⟨q, w', E', k1, k2, k3, k4⟩ := hok
        have go : wpOpsSIn (FR0 none) 0 P ops (SReach P E w N B c₀ cs0 (.norm fr' st') m') (List.range' (i + 1) os.length) (a.put o.dst q) ({ c₀ with mode := u } :: cs0) w' :=
         wpOpsSIn_mono (fun _ _ _ _ hq => SReach.mono k2 hq) _ _ _ _ (arunS_sound os (i + 1) ms' E' w' _ fr' _ st2 st' m m' u hk' hms hr ((hf.mono k2).put k4 hd) k3 (hm.mono k2))
        rcases k1 with k1 | ⟨k1, k5⟩
        ·rw [k1]; exact go
        ·rw [k1]; subst k5; exact go
def CR.fine : CR -> Bool
 | .norm _ _ => true
 | .ret _ _ => true
 | _ => false
theorem acodeS_sound {N n B : Nat} {pol : Nat -> Nat -> Bool} {Y : Yenv} (hG : GSound P Γ) {c₀ : Frame} {cs0 : List Frame} : ∀ (c : Code) (E : Env) (w : World) (fr : Fr) (a : Act) (st : St) (m m' : DM) (u : FrameMode) (r : CR),
  YSound P Y E w -> acodeS Γ Y n (ccode P N pol false c) fr st m = (r, m') -> r.fine = true -> RvA P E w N B fr a -> Sat E st w -> DMR E w m u -> c.wpSIn (FR0 none) 0 P (SReach P E w N B c₀ cs0 r m') a ({ c₀ with mode := u } :: cs0) w := by
 intro c
 have plain : ∀ (c : Code) (E : Env) (w : World) (fr : Fr) (a : Act) (st : St) (m m' : DM) (u : FrameMode) (r : CR), YSound P Y E w -> (acode Γ Y n (ccode P N pol false c) none fr st, m) = (r, m') -> r.fine = true -> RvA P E w N B fr a -> Sat E st w -> DMR E w m u ->
   c.wpSIn (FR0 none) 0 P (SReach P E w N B c₀ cs0 r m') a ({ c₀ with mode := u } :: cs0) w := fun c E w fr a st m m' u r hY hr hfine hf hs hm => by
  simp only [Prod.mk.injEq] at hr
  obtain ⟨hr, rfl⟩ := hr
  refine wpSIn_of_wpIn rfl (wpIn_mono (acode_sound hG c false none none (fun _ => rfl) B E w fr a st r hY trivial hr (by rintro rfl; cases hfine) hf hs) fun e a' w' h => ?_)
  refine ⟨u, rfl, ?_⟩
  cases r with
  | norm fr' st' => obtain ⟨h1, E', h2, h3, h4⟩ := h; exact ⟨h1, E', h2, h3, h4, hm.mono h2⟩
  | ret fr' st' => obtain ⟨h1, E', h2, h3, h4⟩ := h; exact ⟨h1, E', h2, h3, h4, hm.mono h2⟩
  | _ => cases hfine
 induction c with
 | seq c d ihc ihd =>
  intro E w fr a st m m' u r hY hr hfine hf hs hm
  simp only [ccode, acodeS] at hr
  refine wpSIn_seq ?_
  cases hcr : acodeS Γ Y n (ccode P N pol false c) fr st m with
  | mk r1 m1 =>
   rw [hcr] at hr
   cases r1 with
   | norm fr1 st1 =>
    simp only at hr
    refine wpSIn_mono (ihc E w fr a st m m1 u _ hY hcr rfl hf hs hm) fun e a' cs' w' ⟨u1, h1, he, E', h2, h3, h4, h5⟩ => ?_
    subst he; subst h1
    exact wpSIn_mono (ihd E' w' fr1 a' st1 m1 m' u1 r (hY.mono h2) hr hfine h4 h3 h5) fun _ _ _ _ hq => SReach.mono h2 hq
   | ret fr1 st1 =>
    simp only [Prod.mk.injEq] at hr
    obtain ⟨rfl, rfl⟩ := hr
    refine wpSIn_mono (ihc E w fr a st m m1 u _ hY hcr rfl hf hs hm) fun e a' cs' w' h => ?_
    obtain ⟨u1, h1, he, h2⟩ := h
    subst he
    exact ⟨u1, h1, rfl, h2⟩
   | exit _ _ _ => simp only [Prod.mk.injEq] at hr; obtain ⟨rfl, rfl⟩ := hr; cases hfine
   | pan _ _ _ => simp only [Prod.mk.injEq] at hr; obtain ⟨rfl, rfl⟩ := hr; cases hfine
   | stuck => simp only [Prod.mk.injEq] at hr; obtain ⟨rfl, rfl⟩ := hr; cases hfine
 | cond co c d ihc ihd =>
  intro E w fr a st m m' u r hY hr hfine hf hs hm
  simp only [ccode] at hr
  cases hco : cx co with
  | none => simp only [hco, acodeS, acode, Prod.mk.injEq] at hr; obtain ⟨rfl, rfl⟩ := hr; cases hfine
  | some x =>
   simp only [hco, acodeS] at hr
   have hx := cx_sound hf.f hco
   cases hev : ev fr x <;> simp only [hev, Prod.mk.injEq] at hr <;> try (obtain ⟨rfl, rfl⟩ := hr; cases hfine; done)
   rename_i b
   rw [hev] at hx
   have hx : a.eval co = .bool b := hx
   refine wpSIn_cond hx ?_
   cases b with
   | true => exact ihc E w fr a st m m' u r hY hr hfine hf hs hm
   | false => exact ihd E w fr a st m m' u r hY hr hfine hf hs hm
 | region id ops draw =>
  intro E w fr a st m m' u r hY hr hfine hf hs hm
  cases draw with
  | true =>
   refine plain (.region id ops true) E w fr a st m m' u r hY ?_ hfine hf hs hm
   rw [<- hr]
   simp only [ccode]
   cases copers P ops N false (pol id) 0 ops.toList with
   | none => rfl
   | some ms =>
    simp only
    unfold cdraw
    cases (P.follows .mixedOrders && drawB ops (ms.zip (ancsGo ops.toList [])) && allocsB ops.toList ms) <;> rfl
  | false =>
   simp only [ccode] at hr
   cases hms : copers P ops N false (pol id) 0 ops.toList with
   | none => simp only [hms, acodeS, acode, Prod.mk.injEq] at hr; obtain ⟨rfl, rfl⟩ := hr; cases hfine
   | some ms =>
    simp only [hms, acodeS] at hr
    cases hany : (ms.any fun o => o.op.isRecov) with
    | false =>
     rw [hany] at hr
     refine plain (.region id ops false) E w fr a st m m' u r hY ?_ hfine hf hs hm
     simp only [ccode, hms]
     exact hr
    | true =>
     rw [hany] at hr
     simp only [cond_true] at hr
     cases har : arunS ms fr st m with
     | none => rw [har] at hr; simp only [Prod.mk.injEq] at hr; obtain ⟨rfl, rfl⟩ := hr; cases hfine
     | some q =>
      obtain ⟨fr1, st1, m1⟩ := q
      rw [har] at hr
      simp only [Prod.mk.injEq] at hr
      obtain ⟨rfl, rfl⟩ := hr
      refine wpSIn_region ?_
      have := arunS_sound (c₀ := c₀) (cs0 := cs0) ops.toList 0 ms E w fr fr1 a st st1 m m1 u (fun k _ => by simp) hms har hf hs hm
      rw [List.range_eq_range']
      simpa using this
 | skip => intro E w fr a st m m' u r hY hr hfine hf hs hm; exact plain _ E w fr a st m m' u r hY hr hfine hf hs hm
 | ret => intro E w fr a st m m' u r hY hr hfine hf hs hm; exact plain _ E w fr a st m m' u r hY hr hfine hf hs hm
 | exit id => intro E w fr a st m m' u r hY hr hfine hf hs hm; exact plain _ E w fr a st m m' u r hY hr hfine hf hs hm
 | block id c _ => intro E w fr a st m m' u r hY hr hfine hf hs hm; exact plain _ E w fr a st m m' u r hY hr hfine hf hs hm
 | loop c _ => intro E w fr a st m m' u r hY hr hfine hf hs hm; exact plain _ E w fr a st m m' u r hY hr hfine hf hs hm
 | rangeFunc g ps asg body _ _ =>
  intro E w fr a st m m' u r hY hr hfine hf hs hm
  refine plain (.rangeFunc g ps asg body) E w fr a st m m' u r hY ?_ hfine hf hs hm
  rw [<- hr]
  simp only [ccode]
  cases cx g with
  | none => rfl
  | some x =>
   simp only
   cases (ps.toList.all fun p => Nat.ble (p + 1) N) <;> rfl
 | _ => intro E w fr a st m m' u r hY hr hfine; simp only [ccode, acodeS, acode, Prod.mk.injEq] at hr; obtain ⟨rfl, rfl⟩ := hr; cases hfine
theorem start_act {E : Env} {w : World} {args : List AV} {vs : Array Value} {N B : Nat} (ha : RvL E w args vs.toList) (hle : args.length <= N) (hB : B <= w.heap.size) :
  RvA P E w N B (frOf 0 args Fr.nil) { tmps := vs ++ Array.replicate (N - vs.size) undef, defers := [] } := by
 have hlen := ha.length
 simp only [Array.length_toList] at hlen
 refine ⟨frOf_sound ha, by simp; omega, ?_, hB⟩
 have : ∀ (l : List AV) (i : Nat) (fr : Fr), (frOf i l fr).ds = fr.ds := fun l => by
  induction l with
  | nil => intro i fr; rfl
  | cons x xs ih => intro i fr; unfold frOf; rw [ih]; rfl
 rw [this]; rfl
theorem cfunc_parts {fn : Func} {mf : MFunc} {pol : Nat -> Nat -> Bool} (hc : cfunc P pol fn = some mf) : ∃ c rs, fn.body = some c /\ (fn.name == "runtime.NumGoroutine") = false /\ cress P fn.results.toList = some rs /\ mf = { N := fn.ntmps, code := ccode P fn.ntmps pol false c, res := rs } := by
 simp only [cfunc, Option.bind_eq_some_iff] at hc
 obtain ⟨c, hb, hc⟩ := hc
 cases hname : fn.name == "runtime.NumGoroutine"
 ·simp only [hname, cond_false, Option.map_eq_some_iff] at hc
  obtain ⟨rs, hrs, rfl⟩ := hc
  exact ⟨c, rs, hb, rfl, hrs, rfl⟩
 ·simp [hname] at hc
theorem enters_of {f : Nat} {fn : Func} {c : Code} (hf : P.funcs[f]? = some fn) (hb : fn.body = some c) (hname : (fn.name == "runtime.NumGoroutine") = false) : Enters P f := fun args w => by
 simp only [callFunc, Sem.run_bind, run_program, Result.andThen, hf, hname, hb, Bool.false_eq_true, if_false, Option.isNone_some]
 rfl
theorem adef_sound {f n : Nat} {fn : Func} {mf : MFunc} {pol : Nat -> Nat -> Bool} {Y : Yenv} (hG : GSound P Γ) (hf : P.funcs[f]? = some fn) (hc : cfunc P pol fn = some mf) {args : List AV} {st st' : St} {m m' : DM} {E : Env} {w : World} {vs : Array Value} {u : FrameMode}
  (hY : YSound P Y E w) (ha : RvL E w args vs.toList) (hs : Sat E st w) (hm : DMR E w m u) (hr : adefF Γ Y n mf args st m = some (m', st')) :
  CallsDIn (FR0 none) 0 P f vs u w fun e u' w' => ∃ v E', e = .returned v /\ Ext E w E' w' /\ Sat E' st' w' /\ DMR E' w' m' (settle u') := by
 obtain ⟨c, rs, hb, hname, hrs, rfl⟩ := cfunc_parts hc
 unfold adefF at hr
 simp only at hr
 cases hle : args.length.ble fn.ntmps
 ·simp [hle] at hr
 ·simp only [hle, cond_true] at hr
  have hle := Nat.le_of_ble_eq_true hle
  have hstart : RvA P E w fn.ntmps 0 (frOf 0 args Fr.nil) { tmps := vs ++ Array.replicate (fn.ntmps - vs.size) undef, defers := [] } := start_act ha hle (Nat.zero_le _)
  have fin : ∀ (fr1 : Fr) (st1 : St) (m1 : DM) (a' : Act) (w' : World) (E' : Env) (u1 : FrameMode), endD { N := fn.ntmps, code := ccode P fn.ntmps pol false c, res := rs } fr1 st1 m1 = some (m', st') -> Ext E w E' w' -> Sat E' st1 w' -> RvA P E' w' fn.ntmps 0 fr1 a' -> DMR E' w' m1 u1 ->
    a'.defers = [] /\ ∃ v, (results fn a'.tmps).run P w' = .ok v w' /\ ∃ v' E', Ending.returned v = .returned v' /\ Ext E w E' w' /\ Sat E' st' w' /\ DMR E' w' m' (settle u1) := fun fr1 st1 m1 a' w' E' u1 he hx hs' hf' hm' => by
   unfold endD at he
   cases hds : fr1.ds with
   | cons _ _ => simp [hds] at he
   | nil =>
    cases hl : ressA fr1 st1 rs with
    | none => simp [hds, hl] at he
    | some l =>
     simp only [hds, hl, Option.some.injEq, Prod.mk.injEq] at he
     obtain ⟨rfl, rfl⟩ := he
     obtain ⟨vs', h1, _⟩ := ressA_sound hf'.f.part hs' _ _ l hrs hl
     have hd := hf'.d
     rw [hds] at hd
     exact ⟨hd, _, results_run h1, _, E', rfl, hx, hs', hm'.settle⟩
  refine callsDIn_of_wpSIn hf hb trivial fun c₀ cs hu => ?_
  have hc0 : ({ c₀ with mode := u } : Frame) = c₀ := by subst hu; rfl
  rw [<- hc0]
  cases hcs : acodeS Γ Y n (ccode P fn.ntmps pol false c) (frOf 0 args Fr.nil) st m with
  | mk r m1 =>
   rw [hcs] at hr
   cases r with
   | norm fr1 st1 =>
    refine wpSIn_mono (acodeS_sound hG c E w _ _ st m m1 u _ hY hcs rfl hstart hs hm) fun e a' cs' w' ⟨u1, h1, he, E', h2, h3, h4, h5⟩ => ?_
    subst he
    obtain ⟨q1, v, q2, q3⟩ := fin fr1 st1 m1 a' w' E' u1 hr h2 h3 h4 h5
    exact ⟨q1, u1, h1, v, q2, q3⟩
   | ret fr1 st1 =>
    refine wpSIn_mono (acodeS_sound hG c E w _ _ st m m1 u _ hY hcs rfl hstart hs hm) fun e a' cs' w' ⟨u1, h1, he, E', h2, h3, h4, h5⟩ => ?_
    subst he
    obtain ⟨q1, v, q2, q3⟩ := fin fr1 st1 m1 a' w' E' u1 hr h2 h3 h4 h5
    exact ⟨q1, u1, h1, v, q2, q3⟩
   | _ => simp at hr
theorem RvD.shut {E E1 : Env} {w w1 : World} {B D : Nat} (hx : Ext0 E w E1 w1) (hD : ∀ b, b ≠ D -> E.Dz b -> E1.Dz b) : ∀ {ds : List DA} {l : List Deferred} {U : Nat}, U <= D -> RvD P E w B U ds l -> RvD P E1 w1 B U ds l
 | [], _, _, _, h => h
 | .call n args :: ds, _, _, hU, ⟨d, l', vs, h1, h2, h3, h4, h5⟩ => ⟨d, l', vs, h1, h2, h3, RvL.mono0 hx _ _ h4, RvD.shut hx hD hU h5⟩
 | .coll :: ds, _, _, hU, ⟨d, l', D', h1, h2, h3, h4, h5, h6⟩ => ⟨d, l', D', h1, h2, h3, h4, hD _ (by omega) h5, RvD.shut hx hD (by omega) h6⟩
def DFOk (P : Program) (DF : Nat -> List AV -> St -> DM -> Option (DM × St)) (E : Env) (w : World) : Prop := ∀ E' w', Ext E w E' w' -> ∀ (f : Nat) (args : List AV) (st st' : St) (m m' : DM) (vs : Array Value) (u : FrameMode), RvL E' w' args vs.toList -> Sat E' st w' -> DMR E' w' m u -> DF f args st m = some (m', st') ->
 Enters P f /\ CallsDIn (FR0 none) 0 P f vs u w' fun e u' w'' => ∃ v E'', e = .returned v /\ Ext E' w' E'' w'' /\ Sat E'' st' w'' /\ DMR E'' w'' m' (settle u')
theorem aleaves_sound {DF : Nat -> List AV -> St -> DM -> Option (DM × St)} {fn : Func} {tmps : Array Value} {R : Ending -> World -> Prop} {Es : Env} {ws : World} {fr : Fr} {B : Nat} (hDF : DFOk P DF Es ws) (hEs : ∀ b, Es.Dz b -> b < B) (st' : St) (m' : DM)
  (hend : ∀ E w u, Ext Es ws E w -> Sat E st' w -> DMR E w m' u -> (∀ n v, fr.get n = some v -> Rv E w v (tmps.getD n undef)) -> LeavesInM (FR0 none) 0 P fn tmps R [] u w) :
  ∀ (ds : List DA) (l : List Deferred) (U : Nat) (E : Env) (w : World) (st : St) (m : DM) (u : FrameMode), aleaves DF ds st m = some (m', st') -> Ext Es ws E w -> Sat E st w -> DMR E w m u -> RvD P E w B U ds l ->
   (∀ n v, fr.get n = some v -> Rv E w v (tmps.getD n undef)) -> LeavesInM (FR0 none) 0 P fn tmps R l u w
 | [], l, U, E, w, st, m, u, hr, hx, hs, hm, hd, hf => by
  simp only [aleaves, Option.some.injEq, Prod.mk.injEq] at hr
  obtain ⟨rfl, rfl⟩ := hr
  have hd : l = [] := hd
  subst hd
  exact hend E w u hx hs hm hf
 | .coll :: ds, l, U, E, w, st, m, u, hr, hx, hs, hm, hd, hf => by
  obtain ⟨d, l', D, rfl, h1, h2, h3, h4, h5⟩ := hd
  simp only [aleaves] at hr
  obtain ⟨hs1, hx1⟩ := hs.shutDz h4
  refine ⟨hm.run, .inl ⟨D, _, h1, run_takeDeferred (hs.dz D h4).1, ?_⟩⟩
  have hxs : Ext Es ws { E with Dz := fun b => b ≠ D /\ E.Dz b } (w.putObj D (.deferred none)) := ⟨hx.toExt0.trans hx1, hx.Rs, fun b hb => ⟨by have := hEs b hb; omega, hx.Dz b hb⟩⟩
  have hm1 : DMR { E with Dz := fun b => b ≠ D /\ E.Dz b } (w.putObj D (.deferred none)) m u := by
   cases m with
   | ret => exact hm
   | pan v => obtain ⟨x, h6, h7⟩ := hm; exact ⟨x, h6, Rv.mono0 hx1 _ _ h7⟩
   | recd => exact hm
  exact aleaves_sound hDF hEs st' m' hend ds l' D _ _ st m u hr hxs hs1 hm1 (RvD.shut hx1 (fun b hb h => ⟨hb, h⟩) (Nat.le_refl _) h5) fun n v hn => Rv.mono0 hx1 _ _ (hf n v hn)
 | .call f args :: ds, l, U, E, w, st, m, u, hr, hx, hs, hm, hd, hf => by
  obtain ⟨d, l', vs, rfl, ⟨fv, cap, h1⟩, h2, h3, h4⟩ := hd
  simp only [aleaves] at hr
  cases hdf : DF f args st m with
  | none => rw [hdf] at hr; cases hr
  | some q =>
   obtain ⟨m1, st1⟩ := q
   rw [hdf] at hr
   simp only at hr
   obtain ⟨hen, hcall⟩ := hDF E w hx f args st st1 m m1 vs u h3 hs hm hdf
   refine ⟨hm.run, .inr ⟨noDepth none, fv, cap, f, vs, h1, by rw [h2, hen], fun _ _ => trivial, ?_⟩⟩
   refine CallsDIn.mono hcall fun e u' w' ⟨v, E', he, hx', hs', hm'⟩ => ?_
   subst he
   exact aleaves_sound hDF hEs st' m' hend ds l' U E' w' st1 m1 (settle u') hr (hx.trans hx') hs' hm' (h4.mono hx' (Nat.le_refl _)) fun n v hn => Rv.mono hx' _ _ (hf n v hn)
theorem abody_sound {f n : Nat} {fn : Func} {mf : MFunc} {pol : Nat -> Nat -> Bool} {Y : Yenv} {DF : Nat -> List AV -> St -> DM -> Option (DM × St)} (hG : GSound P Γ) (hf : P.funcs[f]? = some fn) (hc : cfunc P pol fn = some mf) {args : List AV} {st : St} {E : Env} {w : World} {vs : Array Value}
  (hY : YSound P Y E w) (hDF : DFOk P DF E w) (ha : RvL E w args vs.toList) (hs : Sat E st w) :
  (∀ v st', abody Γ Y n DF mf args st = .ret v st' -> Enters P f /\ Calls P f vs w (RetR E w v st')) /\ (∀ v st', abody Γ Y n DF mf args st = .pan v st' -> Enters P f /\ Calls P f vs w (PanR E w v st')) := by
 obtain ⟨c, rs, hb, hname, hrs, rfl⟩ := cfunc_parts hc
 have hen : Enters P f := enters_of hf hb hname
 have hEs : ∀ b, E.Dz b -> b < w.heap.size := fun b h => (Array.getElem?_eq_some_iff.1 (hs.dz b h).1).1
 -- the end of a function
 have fin : ∀ (R : Ending -> World -> Prop) (fr : Fr) (st1 : St) (m : DM) (a' : Act) (w' : World) (E' : Env) (u : FrameMode) (q : FR), endF DF { N := fn.ntmps, code := ccode P fn.ntmps pol false c, res := rs } fr st1 m = q ->
   (∀ v st', q = .ret v st' -> ∀ e w', RetR E w v st' e w' -> R e w') -> (∀ v st', q = .pan v st' -> ∀ e w', PanR E w v st' e w' -> R e w') -> q ≠ .stuck ->
   Ext E w E' w' -> Sat E' st1 w' -> RvP P E' w' w.heap.size fr a' -> DMR E' w' m u -> LeavesInM (FR0 none) 0 P fn a'.tmps R a'.defers u w' := fun R fr st1 m a' w' E' u q hq h1 h2 h3 hx hs' hp hm => by
  unfold endF at hq
  cases hl : aleaves DF fr.ds st1 m with
  | none => rw [hl] at hq; exact absurd hq.symm h3
  | some p =>
   obtain ⟨m', st'⟩ := p
   rw [hl] at hq
   simp only at hq
   refine aleaves_sound (fr := fr) hDF hEs st' m' (fun E2 w2 u2 g1 g2 g3 g4 => ?_) fr.ds a'.defers w'.heap.size E' w' st1 m u hl hx hs' hm hp.d hp.f
   cases m' with
   | recd => exact absurd hq.symm h3
   | ret =>
    simp only at hq
    have hu : u2 = .returning := g3
    subst hu
    cases q with
    | stuck => exact absurd rfl h3
    | pan v st3 => unfold resultA at hq; split at hq <;> cases hq
    | ret v st3 =>
     obtain ⟨x, k1, k2, rfl⟩ := resultA_sound (a := { tmps := a'.tmps, defers := [] }) g4 g2 hrs hq
     exact ⟨x, k1, h1 v _ rfl _ _ ⟨x, E2, rfl, g1, g2, k2⟩⟩
   | pan v =>
    simp only at hq
    obtain ⟨x, hu, hx2⟩ := g3
    subst hu
    exact h2 v st' hq.symm _ _ ⟨x, E2, rfl, g1, g2, hx2⟩
 have main : ∀ (q : FR) (R : Ending -> World -> Prop), abody Γ Y n DF { N := fn.ntmps, code := ccode P fn.ntmps pol false c, res := rs } args st = q -> q ≠ .stuck ->
   (∀ v st', q = .ret v st' -> ∀ e w', RetR E w v st' e w' -> R e w') -> (∀ v st', q = .pan v st' -> ∀ e w', PanR E w v st' e w' -> R e w') -> Calls P f vs w R := fun q R hq h3 h1 h2 => by
  unfold abody at hq
  simp only at hq
  cases hle : args.length.ble fn.ntmps
  ·rw [hle] at hq; exact absurd hq.symm h3
  ·rw [hle] at hq
   simp only [cond_true] at hq
   have hle := Nat.le_of_ble_eq_true hle
   have hstart : RvA P E w fn.ntmps w.heap.size (frOf 0 args Fr.nil) { tmps := vs ++ Array.replicate (fn.ntmps - vs.size) undef, defers := [] } := start_act ha hle (Nat.le_refl _)
   refine (callsIn_wide (n := 0)).1 (callsIn_of_wp_marks (F := Fence.wide) hf hb trivial ?_)
   cases hcr : acode Γ Y n (ccode P fn.ntmps pol false c) none (frOf 0 args Fr.nil) st with
   | stuck => rw [hcr] at hq; exact absurd hq.symm h3
   | exit _ _ _ => rw [hcr] at hq; exact absurd hq.symm h3
   | norm fr1 st1 =>
    rw [hcr] at hq
    refine wpIn_mono (acode_sound hG c false none none (fun _ => rfl) w.heap.size E w _ _ st _ hY trivial hcr (by simp) hstart hs) fun e a' w' ⟨he, E', k1, k2, k3⟩ => ?_
    subst he
    exact fin R fr1 st1 .ret a' w' E' .returning q hq h1 h2 h3 k1 k2 k3.toP rfl
   | ret fr1 st1 =>
    rw [hcr] at hq
    refine wpIn_mono (acode_sound hG c false none none (fun _ => rfl) w.heap.size E w _ _ st _ hY trivial hcr (by simp) hstart hs) fun e a' w' ⟨he, E', k1, k2, k3⟩ => ?_
    subst he
    exact fin R fr1 st1 .ret a' w' E' .returning q hq h1 h2 h3 k1 k2 k3.toP rfl
   | pan fr1 v st1 =>
    rw [hcr] at hq
    refine wpIn_mono (acode_sound hG c false none none (fun _ => rfl) w.heap.size E w _ _ st _ hY trivial hcr (by simp) hstart hs) fun e a' w' h => ?_
    obtain ⟨x, E', he, k1, k2, k4, k3⟩ := h
    subst he
    exact fin R fr1 st1 (.pan v) a' w' E' _ q hq h1 h2 h3 k1 k2 k3 ⟨x, rfl, k4⟩
 exact ⟨fun v st' hr => ⟨hen, main _ _ hr (by simp) (fun v' st'' h e w' hR => by cases h; exact hR) (fun _ _ h => by cases h)⟩,
  fun v st' hr => ⟨hen, main _ _ hr (by simp) (fun _ _ h => by cases h) (fun v' st'' h e w' hR => by cases h; exact hR)⟩⟩
theorem entT_enters {tbl : Nat -> Option MFunc} (ht : TblOk P tbl) {f : Nat} (h : entT tbl f = true) : Enters P f := by
 unfold entT at h
 split at h
 ·rename_i mf hmf
  obtain ⟨fn, pol, h1, h2⟩ := ht f mf hmf
  obtain ⟨c, rs, hb, hname, _⟩ := cfunc_parts h2
  exact enters_of h1 hb hname
 ·cases h
theorem defT_ok {tbl : Nat -> Option MFunc} (ht : TblOk P tbl) (hG : GSound P Γ) {Y : Yenv} {n : Nat} {E : Env} {w : World} (hY : YSound P Y E w) : DFOk P (defT tbl Γ Y n) E w := by
 intro E' w' hx f args st st' m m' vs u ha hs hm hr
 unfold defT at hr
 split at hr
 ·rename_i mf hmf
  obtain ⟨fn, pol, h1, h2⟩ := ht f mf hmf
  obtain ⟨c, rs, hb, hname, _⟩ := cfunc_parts h2
  exact ⟨enters_of h1 hb hname, adef_sound hG h1 h2 (hY.mono hx) ha hs hm hr⟩
 ·cases hr
theorem gamT_sound {tbl : Nat -> Option MFunc} {hand : Gam -> Nat -> Yenv -> Nat -> List AV -> St -> FR} (ht : TblOk P tbl) (hh : HandOk P hand) : ∀ n, GSound P (gamT tbl hand n)
 | 0 => ⟨fun Y E w _ f args st vs _ _ => ⟨fun v st' h => by simp [gamT, arunC] at h, fun v st' h => by simp [gamT, arunC] at h⟩, fun f h => entT_enters ht h⟩
 | n + 1 => by
  have ih := gamT_sound ht hh n
  refine ⟨fun Y E w hY f args st vs ha hs => ?_, fun f h => entT_enters ht h⟩
  cases htf : tbl f with
  | none =>
   have := hh _ n ih Y E w hY f args st vs ha hs
   simp only [gamT, arunC, htf]
   exact this
  | some mf =>
   simp only [gamT, arunC, htf]
   obtain ⟨fn, pol, h1, h2⟩ := ht f mf htf
   obtain ⟨h3, h4⟩ := abody_sound (n := n) ih h1 h2 hY (defT_ok ht ih hY) ha hs
   exact ⟨fun v st' h => .inl (h3 v st' h), fun v st' h => .inl (h4 v st' h)⟩
theorem Y0_sound (E : Env) (w : World) : YSound P Y0 E w := fun _ _ _ _ _ _ _ _ _ _ _ _ _ h => by cases h
end
end Go.AM
namespace Go.AM
def extSem (k : Nat) : Array Value -> Sem Value :=
 match k with
 | 0 => Extern.BytealgIndexByte.indexByte
 | 1 => Extern.BytealgCount.count
 | _ => Extern.AbiNoEscape.same
def ExtOk (P : Program) (exts : Nat -> Option Nat) : Prop := ∀ f k, exts f = some k -> k < 3 /\ ∃ fn, P.funcs[f]? = some fn /\ (fn.name == "runtime.NumGoroutine") = false /\ fn.body = none /\ Extern.findNext fn = none /\ Extern.find fn = some (extSem k)
section
variable {E : Env} {st : St} {w : World} {P : Program}
theorem beq_u8 (a : UInt8) (c : Nat) (hc : c < 256) : (a == (UInt8.ofNat c)) = a.toNat.beq c := by
 by_cases h : a.toNat = c
 ·have : a = UInt8.ofNat c := by rw [<- h]; simp
  rw [this]
  simp [Nat.mod_eq_of_lt hc]
 ·have h1 : ¬ a = UInt8.ofNat c := fun e => h (by rw [e]; simp [Nat.mod_eq_of_lt hc])
  have h2 : a.toNat.beq c = false := by
   cases hb : a.toNat.beq c
   ·rfl
   ·exact absurd (Nat.eq_of_beq_eq_true hb) h
  rw [h2]; simpa using h1
theorem bytes_loop {β : Type} (f : β -> UInt8 -> β) (b : ByteArray) (stop : Nat) (h : stop <= b.size) (h' : stop <= b.data.size) : ∀ (i j : Nat) (n : β),
  (ByteArray.foldlM.loop (m := _root_.Id) (fun x y => pure (f x y)) b stop h i j n).run = (Array.foldlM.loop (m := _root_.Id) (fun x y => pure (f x y)) b.data stop h' i j n).run
 | 0, j, n => by
  unfold ByteArray.foldlM.loop Array.foldlM.loop
  split <;> rfl
 | i + 1, j, n => by
  unfold ByteArray.foldlM.loop Array.foldlM.loop
  split
  ·exact bytes_loop f b stop h h' i (j + 1) _
  ·rfl
theorem bytes_foldl {β : Type} (f : β -> UInt8 -> β) (n : β) (b : ByteArray) : b.foldl f n = b.data.toList.foldl f n := by
 rw [Array.foldl_toList]
 unfold ByteArray.foldl ByteArray.foldlM Array.foldl Array.foldlM
 have h1 : b.size <= b.size := Nat.le_refl _
 have h2 : b.data.size <= b.data.size := Nat.le_refl _
 simp only [dif_pos h1, dif_pos h2]
 exact bytes_loop f b b.size h1 h2 _ _ _
theorem cntA_eq (c : Nat) (hc : c < 256) : ∀ (l : List UInt8) (n : Nat), ((cntA (l.map (·.toNat)) c n : Nat) : Int) = l.foldl (fun (n : Int) x => if x == UInt8.ofNat c then n + 1 else n) (n : Int)
 | [], n => rfl
 | a :: l, n => by
  simp only [List.map_cons, cntA, List.foldl_cons]
  rw [cntA_eq c hc l, beq_u8 a c hc]
  cases a.toNat.beq c <;> simp
theorem call_ext {exts : Nat -> Option Nat} (he : ExtOk P exts) {f k : Nat} (hk : exts f = some k) {vs : Array Value} {v : Value} (hv : (extSem k vs).run P w = .ok v w) : (callFunc f vs).run P w = .ok (.value v) w := by
 obtain ⟨_, fn, h1, h2, h3, h4, h5⟩ := he f k hk
 simp only [callFunc, Sem.run_bind, run_program, Result.andThen, h1, h2, h3, h4, h5, Bool.false_eq_true, if_false, Option.isNone_none, if_true, run_mark, hv, Sem.run_pure]
theorem idxA_eq (b : ByteArray) (c : Nat) (hc : c < 256) : ∀ (l : List UInt8) (i : Nat), (∀ (j : Nat) (u : UInt8), l[j]? = some u -> b[i + j]! = u) ->
  idxA (l.map (·.toNat)) c i = match (List.range' i l.length).find? fun j => b[j]! == UInt8.ofNat c with | some j => .int .i64 (.ofNat j) | none => .int .i64 (.negSucc 0)
 | [], i, _ => rfl
 | a :: l, i, h => by
  have h0 : b[i]! = a := h 0 a rfl
  simp only [List.map_cons, idxA, List.length_cons, List.range'_succ, List.find?_cons, h0, beq_u8 a c hc]
  cases a.toNat.beq c
  ·simp only [cond_false]
   exact idxA_eq b c hc l (i + 1) fun j u hj => by
    have := h (j + 1) u (by simpa using hj)
    rwa [show i + (j + 1) = i + 1 + j by omega] at this
  ·rfl
theorem extA_sound {k : Nat} {args : List AV} {v : AV} {vs : Array Value} (ha : RvL E w args vs.toList) (hr : extA k args = some v) : ∃ u, (extSem k vs).run P w = .ok u w /\ Rv E w v u := by
 unfold extA at hr
 split at hr <;> try (simp only [reduceCtorEq] at hr; done)
 ·rename_i l c
  obtain ⟨x, xs, e1, ⟨b, rfl, hb⟩, y, ys, rfl, h2, h3⟩ := ha
  cases h3
  have h2 : y = .int .u8 (c : Int) := h2
  subst h2
  obtain rfl : vs = #[.string b, .int .u8 (c : Int)] := by cases vs; simp_all
  cases hc : (c + 1).ble 256
  ·simp [hc] at hr
  ·simp only [hc, cond_true, Option.some.injEq] at hr; subst hr
   have hc := Nat.le_of_ble_eq_true hc
   have hl : b.data.toList.length = b.size := by simp
   have hidx := idxA_eq b c (by omega) b.data.toList 0 fun j u hj => by
    have hlt : j < b.size := by rw [<- hl]; exact (List.getElem?_eq_some_iff.1 hj).1
    have h5 : b[j]? = some u := by
     rw [ByteArray.getElem?_lt' b j hlt]
     have : b.data[j]? = some u := by simpa using hj
     rw [Array.getElem?_eq_getElem (by simpa using hlt)] at this
     injection this with this
     exact congrArg some this
    rw [Nat.zero_add, getElem!_def, h5]
   rw [hl, <- List.range_eq_range', hb] at hidx
   rw [hidx]
   have hcc : (c : Int).toNat.toUInt8 = UInt8.ofNat c := by simp [Nat.toUInt8]
   have hdef : extSem 0 #[.string b, .int .u8 (c : Int)] = (match (List.range b.size).find? fun i => b[i]! == (c : Int).toNat.toUInt8 with
    | some i => pure (goInt i)
    | none => pure (goInt (-1)) : Sem Value) := rfl
   rw [hdef, hcc]
   cases hq : (List.range b.size).find? fun i => b[i]! == UInt8.ofNat c with
   | none => exact ⟨_, rfl, rfl⟩
   | some j => exact ⟨_, rfl, rfl⟩
 ·rename_i l c
  obtain ⟨x, xs, e1, ⟨b, rfl, hb⟩, y, ys, rfl, h2, h3⟩ := ha
  cases h3
  have h2 : y = .int .u8 (c : Int) := h2
  subst h2
  obtain rfl : vs = #[.string b, .int .u8 (c : Int)] := by cases vs; simp_all
  cases hc : (c + 1).ble 256
  ·simp [hc] at hr
  ·simp only [hc, cond_true, Option.some.injEq] at hr; subst hr
   have hc := Nat.le_of_ble_eq_true hc
   have hcc : (c : Int).toNat.toUInt8 = UInt8.ofNat c := by simp [Nat.toUInt8]
   have hfold : b.foldl (fun (n : Int) x => if x == UInt8.ofNat c then n + 1 else n) ((0 : Nat) : Int) = ((cntA l c 0 : Nat) : Int) := by
    rw [<- hb, cntA_eq c (by omega)]
    exact bytes_foldl _ _ _
   refine ⟨goInt (cntA l c 0 : Nat), ?_, rfl⟩
   have hdef : extSem 1 #[.string b, .int .u8 (c : Int)] = (pure (goInt (b.foldl (fun n x => if x == (c : Int).toNat.toUInt8 then n + 1 else n) (0 : Nat))) : Sem Value) := rfl
   rw [hdef, hcc, hfold]; rfl
 ·rename_i x
  obtain ⟨y, ys, e1, h1, h2⟩ := ha
  cases h2
  obtain rfl : vs = #[y] := by cases vs; simp_all
  simp only [Option.some.injEq] at hr; subst hr
  exact ⟨y, rfl, h1⟩
theorem extR_sound {exts : Nat -> Option Nat} (he : ExtOk P exts) {f k : Nat} (hk : exts f = some k) {args : List AV} {vs : Array Value} (ha : RvL E w args vs.toList) (hs : Sat E st w) :
  (∀ v st', extR k args st = .ret v st' -> CallOk P f vs w fun e w' => ∃ u E', e = .returned u /\ Ext E w E' w' /\ Sat E' st' w' /\ Rv E' w' v u) ∧
  (∀ v st', extR k args st = .pan v st' -> CallOk P f vs w fun e w' => ∃ u E', e = .panicked [{ v := u, recovered := false }] /\ Ext E w E' w' /\ Sat E' st' w' /\ Rv E' w' v u) := by
 refine ⟨fun v st' h => ?_, fun v st' h => ?_⟩
 ·unfold extR at h
  split at h
  ·rename_i v' hv
   injection h with e1 e2; subst e1; subst e2
   obtain ⟨u, h1, h2⟩ := extA_sound (P := P) ha hv
   exact .inr ⟨u, w, call_ext he hk h1, u, E, rfl, Ext.refl _ _, hs, h2⟩
  ·cases h
 ·unfold extR at h
  split at h <;> cases h
theorem handX_ok {exts : Nat -> Option Nat} (he : ExtOk P exts) : HandOk P (handX exts) := by
 intro Γ n _ Y E w _ f args st vs ha hs
 unfold handX
 cases hk : exts f with
 | none => exact ⟨fun v st' h => (by cases h), fun v st' h => (by cases h)⟩
 | some k => exact extR_sound he hk ha hs
end
end Go.AM
namespace Go.AM
end Go.AM
namespace Go.AM
theorem tblC_ok (P : Program) (pol : List (Nat × List (Nat × Nat))) : TblOk P (tblC P pol) := fun f mf h => by
 obtain ⟨fn, h1, h2⟩ := Option.bind_eq_some_iff.1 h
 exact ⟨fn, _, h1, h2⟩
end Go.AM
namespace Go.AM
theorem lsBeq_eq {a b : LS} (h : lsBeq a b = true) : a = b := by
 cases a <;> cases b <;> simp only [lsBeq, Bool.false_eq_true] at h <;> first | rfl | rw [Nat.eq_of_beq_eq_true h]
theorem esBeq_eq : ∀ {a b : List (AV × AV)}, esBeq a b = true -> a = b
 | [], [], _ => rfl
 | [], _ :: _, h => by simp [esBeq] at h
 | _ :: _, [], h => by simp [esBeq] at h
 | (p1, p2) :: a, (q1, q2) :: b, h => by
  simp only [esBeq, Bool.and_eq_true] at h
  rw [avBeq_eq _ _ h.1.1, avBeq_eq _ _ h.1.2, esBeq_eq h.2]
theorem aoBeq_eq {a b : AO} (h : aoBeq a b = true) : a = b := by
 cases a <;> cases b <;> simp only [aoBeq, Bool.false_eq_true] at h
 ·rw [avsBeq_eq _ _ h]
 ·rw [avsBeq_eq _ _ h]
 ·rw [esBeq_eq h]
 ·rw [lsBeq_eq h]
theorem subTr_get {α : Type} {eq : α -> α -> Bool} (he : ∀ a b, eq a b = true -> a = b) : ∀ (f n : Nat) (t u : Tr α) (v : α), subTr eq t u = true -> Tr.getN f t n = some v -> Tr.getN f u n = some v
 | f, n, .nil, u, v, _, h => by rw [Tr.getN_nil] at h; cases h
 | f, n, .node o l r, .nil, v, hs, _ => by simp [subTr] at hs
 | f, n, .node o l r, .node o' l' r', v, hs, h => by
  simp only [subTr, Bool.and_eq_true] at hs
  have hv : ∀ v, o = some v -> o' = some v := fun v hv => by
   subst hv
   have := hs.1.1
   cases o' with
   | none => simp at this
   | some b => simp only at this; rw [he _ _ this]
  cases f with
  | zero => exact hv v h
  | succ f =>
   unfold Tr.getN at h ⊢
   cases hb : n.beq 0
   ·simp only [hb, cond_false] at h ⊢
    cases ho : (n.mod 2).beq 1
    ·simp only [ho, cond_false] at h ⊢
     exact subTr_get he f _ r r' v hs.2 h
    ·simp only [ho, cond_true] at h ⊢
     exact subTr_get he f _ l l' v hs.1.2 h
   ·simp only [hb, cond_true] at h ⊢
    exact hv v h
structure SubSt (L st : St) : Prop where
 next : L.next = st.next
 obj : ∀ id o, L.get id = some o -> st.get id = some o
 bt : L.bt = .nil
theorem subSt_of {L st : St} (h : subStB L st = true) : SubSt L st := by
 simp only [subStB, Bool.and_eq_true] at h
 refine ⟨Nat.eq_of_beq_eq_true h.1.1, fun id o ho => subTr_get (fun a b => aoBeq_eq) _ _ _ _ _ h.1.2 ho, ?_⟩
 have := h.2
 split at this
 ·assumption
 ·cases this
theorem Sat.sub {E : Env} {L st : St} {w : World} (hs : Sat E st w) (h : SubSt L st) : Sat E L w :=
 ⟨fun id b hb => by rw [h.next]; exact hs.dom id b hb, hs.fz, fun id o b h1 h2 => hs.obj id o b (h.obj _ _ h1) h2, fun i i' o o' b h1 h2 => hs.sep i i' o o' b (h.obj _ _ h1) (h.obj _ _ h2),
  fun id o b h1 => hs.lv id o b (h.obj _ _ h1), fun id hi => by rw [h.next]; exact hs.rs id hi, hs.dz, fun id t ht => by rw [h.bt, Tr.get_nil] at ht; cases ht⟩
theorem eqTr_eq {α : Type} {eq : α -> α -> Bool} (he : ∀ a b, eq a b = true -> a = b) : ∀ (t u : Tr α), eqTr eq t u = true -> t = u
 | .nil, .nil, _ => rfl
 | .nil, .node _ _ _, h => by simp [eqTr] at h
 | .node _ _ _, .nil, h => by simp [eqTr] at h
 | .node o l r, .node o' l' r', h => by
  simp only [eqTr, Bool.and_eq_true] at h
  have ho : o = o' := by
   have := h.1.1
   cases o <;> cases o' <;> simp only [Bool.false_eq_true] at this
   ·rfl
   ·rw [he _ _ this]
  rw [ho, eqTr_eq he l l' h.1.2, eqTr_eq he r r' h.2]
theorem eqFr_eq {F G : Fr} (h : eqFr F G = true) : F = G := by
 simp only [eqFr, Bool.and_eq_true] at h
 have h1 := eqTr_eq avBeq_eq _ _ h.1
 have h2 : F.ds = G.ds := by
  have := h.2
  split at this
  ·rename_i e1 e2; rw [e1, e2]
  ·cases this
 cases F; cases G
 simp only at h1 h2
 rw [h1, h2]
inductive Ev (Γ : Gam) (n : Nat) : MCode -> Fr -> St -> CR -> Prop where
 | run {mc : MCode} {fr : Fr} {st : St} {r : CR} : acode Γ Y0 n mc none fr st = r -> Ev Γ n mc fr st r
 | seq {a b : MCode} {fr fr1 : Fr} {st st1 : St} {r : CR} : Ev Γ n a fr st (.norm fr1 st1) -> Ev Γ n b fr1 st1 r -> Ev Γ n (.seq a b) fr st r
 | cut {mc : MCode} {fr : Fr} {L st : St} {r : CR} : SubSt L st -> Ev Γ n mc fr L r -> Ev Γ n mc fr st r
section
variable {P : Program} {Γ : Gam}
theorem ccode_seq {N : Nat} {pol : Nat -> Nat -> Bool} {c : Code} {a b : MCode} (h : ccode P N pol false c = .seq a b) : ∃ ca cb, c = .seq ca cb /\ ccode P N pol false ca = a /\ ccode P N pol false cb = b := by
 cases c with
 | seq ca cb => simp only [ccode, MCode.seq.injEq] at h; exact ⟨ca, cb, rfl, h.1, h.2⟩
 | region id ops draw =>
  exfalso
  cases draw
  ·simp only [ccode] at h
   split at h <;> cases h
  ·simp only [ccode] at h
   split at h
   ·unfold cdraw at h
    cases hb : (P.follows .mixedOrders && drawB ops _ && allocsB ops.toList _) <;> rw [hb] at h <;> cases h
   ·cases h
 | cond x d e => exfalso; simp only [ccode] at h; split at h <;> cases h
 | rangeFunc g ps d e =>
  exfalso
  simp only [ccode] at h
  split at h
  ·cases hb : (ps.toList.all fun p => Nat.ble (p + 1) N) <;> rw [hb] at h <;> cases h
  ·cases h
 | _ => exfalso; simp only [ccode] at h; cases h
theorem Ev.sound {N n B : Nat} {pol : Nat -> Nat -> Bool} (hG : GSound P Γ) {mc : MCode} {fr : Fr} {st : St} {r : CR} (h : Ev Γ n mc fr st r) : ∀ (c : Code) (E : Env) (w : World) (a : Act), ccode P N pol false c = mc -> r ≠ .stuck -> RvA P E w N B fr a -> Sat E st w ->
  c.wpIn (FR0 none) 0 P (CReach P E w N B r) a w := by
 induction h with
 | run hr =>
  intro c E w a hc hst hf hs
  subst hc
  exact acode_sound hG c false none none (fun _ => rfl) B E w _ a _ _ (Y0_sound E w) trivial hr hst hf hs
 | seq _ _ iha ihb =>
  intro c E w a hc hst hf hs
  obtain ⟨ca, cb, rfl, h1, h2⟩ := ccode_seq hc
  refine wpIn_seq (wpIn_mono (iha ca E w a h1 (by simp) hf hs) fun e a' w' ⟨he, E', k1, k2, k3⟩ => ?_)
  subst he
  exact wpIn_mono (ihb cb E' w' a' h2 hst k3 k2) fun _ _ _ hq => CReach.mono k1 hq
 | cut hsub _ ih =>
  intro c E w a hc hst hf hs
  exact ih c E w a hc hst hf (hs.sub hsub)
theorem Ev.calls {tbl : Nat -> Option MFunc} {hand : Gam -> Nat -> Yenv -> Nat -> List AV -> St -> FR} (ht : TblOk P tbl) (hh : HandOk P hand) {n f : Nat} {mf : MFunc} (hf : tbl f = some mf) {args : List AV} {st st1 st' : St} {fr1 : Fr} {v : AV} {E : Env} {w : World} {vs : Array Value}
  (ha : RvL E w args vs.toList) (hs : Sat E st w) (hle : args.length <= mf.N) (hev : Ev (gamT tbl hand n) n mf.code (frOf 0 args Fr.nil) st (.norm fr1 st1) \/ Ev (gamT tbl hand n) n mf.code (frOf 0 args Fr.nil) st (.ret fr1 st1))
  (hds : fr1.ds = []) (hr : resultA fr1 st1 mf.res = .ret v st') : Enters P f /\ Calls P f vs w (RetR E w v st') := by
 obtain ⟨fn, pol, h1, h2⟩ := ht f mf hf
 have hG := gamT_sound ht hh n
 obtain ⟨c, rs, hb, hname, hrs, rfl⟩ := cfunc_parts h2
 refine ⟨enters_of h1 hb hname, ?_⟩
 have hstart : RvA P E w fn.ntmps w.heap.size (frOf 0 args Fr.nil) { tmps := vs ++ Array.replicate (fn.ntmps - vs.size) undef, defers := [] } := start_act ha hle (Nat.le_refl _)
 have fin : ∀ (a' : Act) (w' : World) (E' : Env), Ext E w E' w' -> Sat E' st1 w' -> RvA P E' w' fn.ntmps w.heap.size fr1 a' -> LeavesInM Fence.wide 0 P fn a'.tmps (RetR E w v st') a'.defers .returning w' := fun a' w' E' k1 k2 k3 => by
  have hd : a'.defers = [] := by have := k3.d; rw [hds] at this; exact this
  rw [hd]
  obtain ⟨u, h6, h7, h8⟩ := resultA_sound k3.f.part k2 hrs hr
  exact ⟨u, h6, u, E', rfl, k1, h8 ▸ k2, h7⟩
 refine (callsIn_wide (n := 0)).1 (callsIn_of_wp_marks (F := Fence.wide) h1 hb trivial ?_)
 rcases hev with hev | hev
 ·refine wpIn_mono (Ev.sound (B := w.heap.size) hG hev c E w _ rfl (by simp) hstart hs) fun e a' w' ⟨he, E', k1, k2, k3⟩ => ?_
  subst he
  exact fin a' w' E' k1 k2 k3
 ·refine wpIn_mono (Ev.sound (B := w.heap.size) hG hev c E w _ rfl (by simp) hstart hs) fun e a' w' ⟨he, E', k1, k2, k3⟩ => ?_
  subst he
  exact fin a' w' E' k1 k2 k3
end
theorem tailAt_add : ∀ (mc : MCode) (j k : Nat), tailAt (tailAt mc j) k = tailAt mc (j + k)
 | mc, 0, k => by rw [Nat.zero_add]; simp only [tailAt]
 | mc, j + 1, k => by
  rw [show j + 1 + k = (j + k) + 1 by omega]
  cases mc <;> simp only [tailAt]
  case seq a b => exact tailAt_add b j k
  all_goals cases k <;> simp only [tailAt]
def runSeg (Γ : Gam) (n : Nat) : Nat -> MCode -> Fr -> St -> Option (MCode × Fr × St)
 | 0, mc, fr, st => some (mc, fr, st)
 | j + 1, .seq a b, fr, st => match acode Γ Y0 n a none fr st with
  | .norm fr st => runSeg Γ n j b fr st
  | _ => none
 | _ + 1, _, _, _ => none
def pieceB (Γ : Gam) (n j : Nat) (mc : MCode) (F : Fr) (L : St) (F' : Fr) (L' : St) : Bool :=
 match runSeg Γ n j mc F L with
 | some (_, fr, st) => eqFr fr F' && subStB L' st
 | none => false
theorem runSeg_tail {Γ : Gam} {n : Nat} : ∀ (j : Nat) (mc mc' : MCode) (F fr : Fr) (L st : St) (r : CR), runSeg Γ n j mc F L = some (mc', fr, st) -> mc' = tailAt mc j /\ (Ev Γ n mc' fr st r -> Ev Γ n mc F L r)
 | 0, mc, mc', F, fr, L, st, r, h => by
  simp only [runSeg, Option.some.injEq, Prod.mk.injEq] at h
  obtain ⟨rfl, rfl, rfl⟩ := h
  exact ⟨by unfold tailAt; rfl, fun h => h⟩
 | j + 1, mc, mc', F, fr, L, st, r, h => by
  cases mc <;> simp only [runSeg, reduceCtorEq] at h
  rename_i a b
  split at h
  ·rename_i fr1 st1 ha
   obtain ⟨h1, h2⟩ := runSeg_tail j b mc' fr1 fr st1 st r h
   exact ⟨by rw [h1]; simp only [tailAt], fun hev => .seq (.run ha) (h2 hev)⟩
  ·cases h
theorem piece_ev {Γ : Gam} {n j : Nat} {mc : MCode} {F F' : Fr} {L L' : St} {r : CR} (h : pieceB Γ n j mc F L F' L' = true) (hev : Ev Γ n (tailAt mc j) F' L' r) : Ev Γ n mc F L r := by
 unfold pieceB at h
 split at h
 ·rename_i mc' fr st hr
  simp only [Bool.and_eq_true] at h
  obtain ⟨h1, h2⟩ := runSeg_tail j mc mc' F fr L st r hr
  refine h2 ?_
  rw [h1, eqFr_eq h.1]
  exact .cut (subSt_of h.2) hev
 ·cases h
def lastB (Γ : Gam) (n : Nat) (mc : MCode) (F : Fr) (L : St) (res : List MRes) (v : AV) : Bool :=
 match acode Γ Y0 n mc none F L with
 | .norm fr st => (match fr.ds with | [] => true | _ => false) && (match resultA fr st res with | .ret u _ => avBeq u v | _ => false)
 | .ret fr st => (match fr.ds with | [] => true | _ => false) && (match resultA fr st res with | .ret u _ => avBeq u v | _ => false)
 | _ => false
theorem last_ev {Γ : Gam} {n : Nat} {mc : MCode} {F : Fr} {L : St} {res : List MRes} {v : AV} (h : lastB Γ n mc F L res v = true) : ∃ fr1 st1 st', (Ev Γ n mc F L (.norm fr1 st1) \/ Ev Γ n mc F L (.ret fr1 st1)) /\ fr1.ds = [] /\ resultA fr1 st1 res = .ret v st' := by
 have key : ∀ (fr : Fr) (st : St), ((match fr.ds with | [] => true | _ => false) && (match resultA fr st res with | .ret u _ => avBeq u v | _ => false)) = true -> fr.ds = [] /\ ∃ st', resultA fr st res = .ret v st' := fun fr st h => by
  simp only [Bool.and_eq_true] at h
  refine ⟨?_, ?_⟩
  ·have := h.1
   split at this
   ·assumption
   ·cases this
  ·have := h.2
   split at this
   ·rename_i u st' hr
    exact ⟨st', by rw [hr, avBeq_eq _ _ this]⟩
   ·cases this
 unfold lastB at h
 split at h
 ·rename_i fr st hr
  obtain ⟨h1, st', h2⟩ := key fr st h
  exact ⟨fr, st, st', .inl (.run hr), h1, h2⟩
 ·rename_i fr st hr
  obtain ⟨h1, st', h2⟩ := key fr st h
  exact ⟨fr, st, st', .inr (.run hr), h1, h2⟩
 ·cases h
end Go.AM
namespace Go.AM
noncomputable section
theorem kif_eq {α : Type} (c : Bool) (t e : α) : kif c t e = bif c then t else e := by cases c <;> rfl
theorem getK_getN {α : Type} : ∀ (t : Tr α) (f n : Nat), n <= f -> getK t n = Tr.getN f t n
 | .nil, f, n, _ => by rw [Tr.getN_nil]; rfl
 | .node o l r, 0, n, h => by
  obtain rfl : n = 0 := by omega
  rfl
 | .node o l r, f + 1, n, h => by
  show (@Bool.rec (fun _ => Option α) (@Bool.rec (fun _ => Option α) (getK r ((n.div 2).sub 1)) (getK l (n.div 2)) ((n.mod 2).beq 1)) o (n.beq 0)) = _
  unfold Tr.getN
  have e2 : n.div 2 = n / 2 := rfl
  cases hb : n.beq 0
  ·have hn : n ≠ 0 := fun e => by subst e; simp at hb
   cases ho : (n.mod 2).beq 1
   ·exact getK_getN r f _ (by show (n.div 2) - 1 <= f; rw [e2]; omega)
   ·exact getK_getN l f _ (by rw [e2]; omega)
  ·rfl
theorem getK_eq {α : Type} (t : Tr α) (n : Nat) : getK t n = t.get n := getK_getN t n n (Nat.le_refl _)
theorem setN_more {α : Type} : ∀ (f g n : Nat) (t : Tr α) (v : Option α), n <= f -> n <= g -> Tr.setN f t n v = Tr.setN g t n v
 | 0, 0, n, t, v, _, _ => rfl
 | 0, g + 1, n, t, v, h, _ => by
  obtain rfl : n = 0 := by omega
  simp [Tr.setN, Nat.beq]
 | f + 1, 0, n, t, v, _, h => by
  obtain rfl : n = 0 := by omega
  simp [Tr.setN, Nat.beq]
 | f + 1, g + 1, n, t, v, h1, h2 => by
  have e2 : n.div 2 = n / 2 := rfl
  simp only [Tr.setN]
  cases hb : n.beq 0
  ·have hn : n ≠ 0 := fun e => by subst e; simp at hb
   simp only [cond_false]
   rw [setN_more f g (n.div 2) t.left v (by rw [e2]; omega) (by rw [e2]; omega), setN_more f g ((n.div 2).pred) t.right v (by rw [e2, Nat.pred_eq_sub_one]; omega) (by rw [e2, Nat.pred_eq_sub_one]; omega)]
  ·rfl
theorem setK_setN {α : Type} : ∀ (t : Tr α) (f n : Nat) (v : Option α), n <= f -> setK t n v = Tr.setN f t n v
 | .nil, f, n, v, h => setN_more n f n .nil v (Nat.le_refl _) h
 | .node o l r, 0, n, v, h => by
  obtain rfl : n = 0 := by omega
  rfl
 | .node o l r, f + 1, n, v, h => by
  show (@Bool.rec (fun _ => Tr α) (@Bool.rec (fun _ => Tr α) (.node o l (setK r ((n.div 2).sub 1) v)) (.node o (setK l (n.div 2) v) r) ((n.mod 2).beq 1)) (.node v l r) (n.beq 0)) = _
  unfold Tr.setN
  have e2 : n.div 2 = n / 2 := rfl
  cases hb : n.beq 0
  ·have hn : n ≠ 0 := fun e => by subst e; simp at hb
   cases ho : (n.mod 2).beq 1
   ·rw [setK_setN r f _ v (by show (n.div 2) - 1 <= f; rw [e2]; omega)]; rfl
   ·rw [setK_setN l f _ v (by rw [e2]; omega)]; rfl
  ·rfl
theorem setK_eq {α : Type} (t : Tr α) (n : Nat) (v : Option α) : setK t n v = t.set n v := setK_setN t n n v (Nat.le_refl _)
theorem dropK_eq {α : Type} : ∀ (l : List α) (n : Nat), dropK l n = l.drop n
 | [], n => by simp [dropK]
 | a :: l, 0 => rfl
 | a :: l, n + 1 => dropK_eq l n
theorem takeK_eq {α : Type} : ∀ (l : List α) (n : Nat), takeK l n = l.take n
 | [], n => by simp [takeK]
 | a :: l, 0 => rfl
 | a :: l, n + 1 => by
  show a :: takeK l n = _
  rw [takeK_eq l n]; rfl
theorem lenK_eq {α : Type} : ∀ (l : List α) (n : Nat), lenK l n = l.length.beq n
 | [], 0 => rfl
 | [], n + 1 => rfl
 | a :: l, 0 => rfl
 | a :: l, n + 1 => lenK_eq l n
theorem nthK_eq {α : Type} : ∀ (l : List α) (n : Nat), nthK l n = l[n]?
 | [], n => by simp [nthK]
 | a :: l, 0 => rfl
 | a :: l, n + 1 => by
  show nthK l n = _
  rw [nthK_eq l n]; simp
theorem getB_nil {α : Type} : ∀ p : List Bool, (getB p).f (.nil : Tr α) = none
 | [] => rfl
 | true :: _ => rfl
 | false :: _ => rfl
theorem getB_eq {α : Type} : ∀ (f n : Nat) (t : Tr α), (getB (pathN f n)).f t = Tr.getN f t n
 | 0, n, t => by cases t <;> rfl
 | f + 1, n, t => by
  show (getB (@Bool.rec (fun _ => List Bool) (@Bool.rec (fun _ => List Bool) (false :: pathN f (n.div 2).pred) (true :: pathN f (n.div 2)) ((n.mod 2).beq 1)) [] (n.beq 0))).f t = _
  unfold Tr.getN
  cases n.beq 0
  ·cases (n.mod 2).beq 1
   ·cases t with
    | nil => show none = Tr.getN f .nil _; rw [Tr.getN_nil]
    | node o l r => exact getB_eq f _ r
   ·cases t with
    | nil => show none = Tr.getN f .nil _; rw [Tr.getN_nil]
    | node o l r => exact getB_eq f _ l
  ·cases t <;> rfl
theorem setB_eq {α : Type} : ∀ (f n : Nat) (t : Tr α) (v : Option α), (setB (pathN f n)).f t v = Tr.setN f t n v
 | 0, n, t, v => by cases t <;> rfl
 | f + 1, n, t, v => by
  show (setB (@Bool.rec (fun _ => List Bool) (@Bool.rec (fun _ => List Bool) (false :: pathN f (n.div 2).pred) (true :: pathN f (n.div 2)) ((n.mod 2).beq 1)) [] (n.beq 0))).f t v = _
  unfold Tr.setN
  cases n.beq 0
  ·cases (n.mod 2).beq 1
   ·cases t with
    | nil => show Tr.node none .nil ((setB _).f .nil v) = Tr.node none .nil (Tr.setN f .nil _ v); rw [setB_eq f]
    | node o l r => show Tr.node o l ((setB _).f r v) = Tr.node o l (Tr.setN f r _ v); rw [setB_eq f]
   ·cases t with
    | nil => show Tr.node none ((setB _).f .nil v) .nil = Tr.node none (Tr.setN f .nil _ v) .nil; rw [setB_eq f]
    | node o l r => show Tr.node o ((setB _).f l v) r = Tr.node o (Tr.setN f l _ v) r; rw [setB_eq f]
  ·cases t <;> rfl
def evK (x : X) (fr : Fr) : AV := (evB x).f fr
theorem evK_eq (x : X) (fr : Fr) : evK x fr = ev fr x := by
 cases x with
 | t n =>
  show (@Option.rec AV (fun _ => AV) .undef (fun v => v) ((getB (pathN n n)).f fr.t)) = ((fr.t.get n).getD .undef)
  rw [getB_eq]
  show @Option.rec AV (fun _ => AV) .undef (fun v => v) (fr.t.get n) = _
  cases fr.t.get n <;> rfl
 | c v => rfl
theorem ofK_eq (st : St) (o : Option AV) : ofK st o = OpR.of st o := by cases o <;> rfl
theorem ofStK_eq (o : Option St) : ofStK o = OpR.ofSt o := by cases o <;> rfl
theorem getO_eq (st : St) (id : Nat) : getO st id = st.get id := getK_eq _ _
theorem putO_eq (st : St) (id : Nat) (o : AO) : putO st id o = st.put id o := by show St.mk st.next (setK st.tr id (some o)) st.bt = _; rw [setK_eq]; rfl
theorem newO_eq (st : St) (o : AO) : newO st o = st.new o := by show St.mk st.next.succ (setK st.tr st.next (some o)) st.bt = _; rw [setK_eq]; rfl
theorem ofCellsK_eq (agg : Bool) (n : Nat) (l : List AV) : ofCellsK agg n l = ofCells agg n l := by
 cases agg
 ·cases l with
  | nil => rfl
  | cons c l => cases l <;> rfl
 ·show (@Bool.rec (fun _ => Option AV) none (some (.agg l)) (lenK l n)) = bif l.length.beq n then some (.agg l) else none
  rw [lenK_eq]; cases l.length.beq n <;> rfl
theorem loadK_eq (agg : Bool) (n : Nat) (st : St) (v : AV) : loadK agg n st v = loadA agg n st v := by
 unfold loadK loadA
 cases v <;> try rfl
 ·rename_i id off
  show (@Option.rec (List AV) (fun _ => Option AV) none (fun cs => ofCellsK agg n (takeK (dropK cs off) n)) (rowK (getO st id))) = _
  rw [getO_eq]
  simp only [cellsAt]
  generalize st.get id = q
  cases q with
  | none => rfl
  | some o =>
   cases o <;> try rfl
   ·show ofCellsK agg n (takeK (dropK _ off) n) = _
    rw [ofCellsK_eq, takeK_eq, dropK_eq]; rfl
   ·show ofCellsK agg n (takeK (dropK _ off) n) = _
    rw [ofCellsK_eq, takeK_eq, dropK_eq]; rfl
 ·show ofCellsK agg n (takeK (dropK _ _) n) = _
  rw [ofCellsK_eq, takeK_eq, dropK_eq]; rfl
theorem layK_eq : ∀ (xs cs : List AV), layK xs cs = xs ++ cs.drop xs.length
 | [], cs => rfl
 | x :: xs, cs => by
  show x :: layK xs (@List.rec AV (fun _ => List AV) [] (fun _ l _ => l) cs) = _
  rw [layK_eq xs]
  cases cs with
  | nil => simp
  | cons c cs => simp
theorem setCK_eq : ∀ (cs : List AV) (off : Nat) (xs : List AV), off <= cs.length -> setCK cs off xs = setCells cs off xs
 | [], off, xs, h => by
  simp only [List.length_nil, Nat.le_zero_eq] at h
  subst h
  show layK xs [] = _
  rw [layK_eq]; simp [setCells]
 | c :: cs, 0, xs, h => by
  show layK xs (c :: cs) = _
  rw [layK_eq]; simp [setCells]
 | c :: cs, n + 1, xs, h => by
  show c :: setCK cs n xs = _
  rw [setCK_eq cs n xs (by simpa using h)]
  simp only [setCells, List.take_succ_cons, List.cons_append]
  congr 3
  rw [show n + 1 + xs.length = (n + xs.length) + 1 by omega, List.drop_succ_cons]
theorem storeK_eq (n : Nat) (st : St) (a x : AV) : storeK n st a x = storeA n st a x := by
 unfold storeK storeA
 cases a <;> try rfl
 rename_i id off
 show (@Option.rec (List AV) (fun _ => Option St) none (fun cs => kif (lenK x.cells n && (off.add n).ble cs.length && x.cells.all AV.one) (some (putO st id (.row (setCK cs off x.cells)))) none) (rowWK (getO st id))) = _
 rw [getO_eq]
 simp only []
 generalize st.get id = q
 cases q with
 | none => rfl
 | some o =>
  cases o <;> try rfl
  rename_i cs
  show kif (lenK x.cells n && (off.add n).ble cs.length && x.cells.all AV.one) (some (putO st id (.row (setCK cs off x.cells)))) none = _
  rw [kif_eq, lenK_eq]
  simp only []
  have e1 : off.add n = off + n := rfl
  rw [e1]
  cases hc : (x.cells.length.beq n && (off + n).ble cs.length && x.cells.all AV.one)
  ·rfl
  ·simp only [Bool.and_eq_true] at hc
   have := Nat.le_of_ble_eq_true hc.1.2
   simp only [cond_true]
   rw [putO_eq, setCK_eq cs off _ (by omega)]
theorem partsB_eq (fr : Fr) : ∀ (l : List (Nat × Nat × X)), (partsB l).f fr = evParts fr l
 | [] => rfl
 | p :: l => by
  show (p.1, p.2.1, evK p.2.2 fr) :: (partsB l).f fr = _
  rw [partsB_eq fr l, evK_eq]; rfl
theorem stK_eq {α : Type} (st : St) (k : St -> α) : stK st k = k st := by
 cases st with
 | mk n t b => cases b <;> rfl
def aopK (m : MOp) (fr : Fr) (st : St) : OpR := (aopB m).f fr st
theorem aopK_eq (m : MOp) (fr : Fr) (st : St) : aopK m fr st = aop fr st m := by
 cases m <;> try first | rfl | exact stK_eq st fun st => aop fr st _
 case eqnil c pz op x y => show OpR.of st (match eqNilA c op (evK x fr) (evK y fr) with | some v => some v | none => bif pz then eqPtrA c op (evK x fr) (evK y fr) else none) = _; rw [evK_eq, evK_eq]; rfl
 case append bytes sz tg x y =>
  show (stK st fun st => match contentA sz st (evK y fr) with
  | some (n, ys) => match appendA bytes sz st (evK x fr) n ys with
   | some (v, st') => OpR.val v (tagA tg (evK x fr) v st')
   | none => .stuck
  | none => .stuck) = _
  rw [stK_eq, evK_eq, evK_eq]; rfl
 case build zs ps => show OpR.of st ((fillA zs ((partsB ps).f fr)).map .agg) = _; rw [partsB_eq]; rfl
 case bslice n zs ps => show OpR.of st ((fillA zs ((partsB ps).f fr)).map fun cs => .lst n cs true) = _; rw [partsB_eq]; rfl
 case mv x => show OpR.val (evK x fr) st = _; rw [evK_eq]; rfl
 case pick c a b =>
  show pickK (evK c fr) (evK a fr) (evK b fr) st = _
  rw [evK_eq, evK_eq, evK_eq]
  simp only [aop, pickK]
  cases ev fr c <;> try rfl
  simp only [kif_eq]
 case alloc zs => show OpR.val (.ptr st.next 0) (newO st (.row zs)) = _; rw [newO_eq]; rfl
 case box fz x =>
  show @Bool.rec (fun _ => OpR) (.val (.ptr st.next 0) (newO st (.row (evK x fr).cells))) (.val (.fptr (evK x fr).cells 0) st) fz = _
  rw [evK_eq, newO_eq]
  cases fz <;> rfl
 case load agg n x => show ofK st (loadK agg n st (evK x fr)) = _; rw [ofK_eq, loadK_eq, evK_eq]; rfl
 case store n a x => show ofStK (storeK n st (evK a fr) (evK x fr)) = _; rw [ofStK_eq, storeK_eq, evK_eq, evK_eq]; rfl
 case nilchk x => show ofK st (nilchkA (evK x fr)) = _; rw [ofK_eq, evK_eq]; rfl
 case bin b op x y => show ofK st (binB b op (evK x fr) (evK y fr)) = _; rw [ofK_eq, evK_eq, evK_eq]; rfl
 case un op x => show ofK st (unA op (evK x fr)) = _; rw [ofK_eq, evK_eq]; rfl
 case conv k x => show ofK st (convA k (evK x fr)) = _; rw [ofK_eq, evK_eq]; rfl
 case mkif t x => show OpR.val (.iface t (evK x fr)) st = _; rw [evK_eq]; rfl
 case faddr off x => show ofK st (faddrA off (evK x fr)) = _; rw [ofK_eq, evK_eq]; rfl
 case field agg off n x => show ofK st (fieldA agg off n (evK x fr)) = _; rw [ofK_eq, evK_eq]; rfl
 case iaddr sz x i => show ofK st (iaddrA sz (evK x fr) (evK i fr)) = _; rw [ofK_eq, evK_eq, evK_eq]; rfl
 case aaddr n sz x i => show ofK st (aaddrA n sz (evK x fr) (evK i fr)) = _; rw [ofK_eq, evK_eq, evK_eq]; rfl
 case sidx x i => show ofK st (sindexA (evK x fr) (evK i fr)) = _; rw [ofK_eq, evK_eq, evK_eq]; rfl
 case extract i x => show ofK st (extractA i (evK x fr)) = _; rw [ofK_eq, evK_eq]; rfl
 case len c x => show ofK st (lenOpK c (evK x fr) st) = _; rw [ofK_eq, evK_eq]; unfold lenOpK; rw [kif_eq]; rfl
end
end Go.AM
namespace Go.AM
noncomputable section
theorem argsB_eq (fr : Fr) : ∀ (l : List X), (argsB l).f fr = l.map (ev fr)
 | [] => rfl
 | a :: l => by
  show evK a fr :: (argsB l).f fr = _
  rw [argsB_eq fr l, evK_eq]; rfl
theorem oprB_eq (Γ : Cg) (m : MOp) (fr : Fr) (st : St) : (oprB m).f Γ fr st = opr Γ fr st m := by
 have key := aopK_eq m fr st
 cases m
 case call f xs =>
  show callR Γ (evK f fr) ((argsB xs).f fr) st = _
  rw [argsB_eq, evK_eq]; rfl
 all_goals exact key
theorem putB_eq (fr : Fr) (d : Option Nat) (v : AV) : (putB d).f fr v = Fr.put fr d v := by
 cases d with
 | none => rfl
 | some d =>
  show Fr.mk ((setB (pathN d d)).f fr.t (some v)) fr.ds = _
  rw [setB_eq]; rfl
theorem wantB_eq (fr : Fr) (g : Option (Nat × Bool)) : (wantB g).f fr = wantedA fr g := by
 cases g with
 | none => rfl
 | some p =>
  obtain ⟨t, want⟩ := p
  show (match evK (.t t) fr with
  | .bool b => some (bif want then b else !b)
  | .undef => some false
  | _ => none) = _
  rw [evK_eq]; rfl
theorem arunB_eq (Γ : Cg) : ∀ (ms : List MOper) (fr : Fr) (st : St), (arunB ms).f Γ fr st = arun Γ ms fr st
 | [], fr, st => rfl
 | ⟨d, op, gd⟩ :: ms, fr, st => by
  have ih := arunB_eq Γ ms
  have core : (@OpR.rec (fun _ => RR) (fun v st' => (arunB ms).f Γ ((putB d).f fr v) st') (fun v st' => .pan fr v st')
     (@Option.rec Fr (fun _ => RR) .stuck (fun fr' => (arunB ms).f Γ ((putB d).f fr' .undef) st) (deferA fr op)) ((oprB op).f Γ fr st)) =
    bif op.isDefer then (match deferA fr op with | some fr' => arun Γ ms (fr'.put d .undef) st | none => .stuck) else match opr Γ fr st op with
     | .val v st' => arun Γ ms (fr.put d v) st'
     | .pan v st' => .pan fr v st'
     | .stuck => .stuck := by
   rw [oprB_eq]
   simp only [putB_eq, ih]
   cases hd : op.isDefer with
   | true =>
    have : opr Γ fr st op = .stuck := by cases op <;> first | rfl | cases hd
    rw [this]
    simp only [cond_true]
    cases deferA fr op <;> rfl
   | false =>
    have hn : deferA fr op = none := by cases op <;> first | rfl | cases hd
    rw [hn]
    simp only [cond_false]
    cases opr Γ fr st op <;> rfl
  cases gd with
  | none =>
   refine core.trans ?_
   simp only [arun, wantedA]
   cases op.isDefer
   ·cases opr Γ fr st op <;> rfl
   ·cases deferA fr op <;> rfl
  | some g =>
   show (@Option.rec Bool (fun _ => RR) .stuck
    (fun b => @Bool.rec (fun _ => RR) ((arunB ms).f Γ ((putB d).f fr .undef) st)
     (@OpR.rec (fun _ => RR) (fun v st' => (arunB ms).f Γ ((putB d).f fr v) st') (fun v st' => .pan fr v st')
      (@Option.rec Fr (fun _ => RR) .stuck (fun fr' => (arunB ms).f Γ ((putB d).f fr' .undef) st) (deferA fr op)) ((oprB op).f Γ fr st)) b)
    ((wantB (some g)).f fr)) = _
   rw [core]
   simp only [putB_eq, ih, arun, wantB_eq]
   cases wantedA fr (some g) with
   | none => rfl
   | some b => cases b <;> rfl
theorem oprDB_eq (Γ : Cg) (id : Nat) (m : MOp) (fr : Fr) (st : St) : (oprDB m).f Γ id fr st = oprD Γ id fr st m := by
 have key := oprB_eq Γ m fr st
 cases m <;> try exact key
 rename_i zs
 show allocD id st zs = _
 unfold allocD
 rw [getO_eq]; rfl
theorem nextB_eq (id : Nat) (m : MOp) : (nextB m).f id = nextId id m := by cases m <;> rfl
theorem preB_eq : ∀ (zs : List (MOper × Nat)) (st : St), (preB zs).f st = preA zs st
 | [], _ => rfl
 | ⟨⟨d, op, gd⟩, a⟩ :: zs, st => by
  have ih := preB_eq zs
  unfold preA
  cases op <;> first | exact ih st | (show (preB zs).f (newO st _) = _; rw [newO_eq]; exact ih _)
theorem drunB_eq (Γ : Cg) : ∀ (zs : List (MOper × Nat)) (i id : Nat) (fr : Fr) (st : St) (pan : Option Nat), (drunB zs).f Γ i id fr st pan = drun Γ zs i id fr st pan
 | [], _, _, _, _, _ => rfl
 | z :: zs, i, id, fr, st, pan => by
  have ih := drunB_eq Γ zs
  show (@Bool.rec (fun _ => Option DR)
   (@Option.rec Bool (fun _ => Option DR) none
    (fun b => @Bool.rec (fun _ => Option DR) (DR.cons (.val fr st .undef st) ((drunB zs).f Γ i.succ ((nextB z.1.op).f id) ((putB z.1.dst).f fr .undef) st pan))
     (@OpR.rec (fun _ => Option DR) (fun v st' => DR.cons (.val fr st v st') ((drunB zs).f Γ i.succ ((nextB z.1.op).f id) ((putB z.1.dst).f fr v) st' pan))
      (fun v st' => @Option.rec Nat (fun _ => Option DR) (DR.cons (.pan fr st v st') ((drunB zs).f Γ i.succ ((nextB z.1.op).f id) fr st (some i))) (fun _ => none) pan)
      none ((oprDB z.1.op).f Γ id fr st)) b)
    ((wantB z.1.guard).f fr))
   (DR.cons .dead ((drunB zs).f Γ i.succ ((nextB z.1.op).f id) fr st pan)) (deadA pan z.2)) = _
  simp only [wantB_eq, oprDB_eq, nextB_eq, putB_eq, ih, drun]
  cases deadA pan z.2 with
  | true => rfl
  | false =>
   simp only [cond_false]
   cases wantedA fr z.1.guard with
   | none => rfl
   | some b =>
    cases b with
    | false => rfl
    | true =>
     simp only []
     cases oprD Γ id fr st z.1.op with
     | val v st' => rfl
     | pan v st' => cases pan <;> rfl
     | stuck => rfl
theorem sameK_eq (Γ : Cg) (id : Nat) (m : MOp) (fr : Fr) (st : St) (v : AV) : sameK Γ id m fr st v = sameAt Γ id fr st m v := by
 unfold sameK sameAt
 rw [oprDB_eq]
 cases oprD Γ id fr st m <;> rfl
theorem frzB_eq (m : MOp) (fr : Fr) : (frzB m).f fr = frzLoad m fr := by
 cases m <;> try rfl
 rename_i agg n x
 show @PV.rec (fun _ => Bool) (fun _ _ => false) (fun _ _ => true) false (pvK (evK x fr)) = frzX fr x
 rw [evK_eq]
 unfold frzX
 cases ev fr x <;> rfl
theorem chkK_eq (Γ : Cg) (zs : List (MOper × Nat)) (its : List DIt) (id : Nat) (stE : St) (q : Nat × Option Nat) : chkK Γ zs its id stE q = chkB Γ zs its id stE q := by
 unfold chkK chkB
 have hb : ∀ (a b : Bool), @Bool.rec (fun _ => Bool) b true a = (a || b) := fun a b => by cases a <;> rfl
 simp only [nthK_eq, wantB_eq, sameK_eq, frzB_eq, hb] <;> rfl
theorem adrawK_eq (Γ : Cg) (zs : List (MOper × Nat)) (chk : List (Nat × Option Nat)) (fr : Fr) (st : St) : adrawK Γ zs chk fr st = adraw Γ zs chk fr st := by
 unfold adrawK adraw
 rw [drunB_eq, preB_eq]
 have : ∀ its stE, chkK Γ zs its st.next stE = chkB Γ zs its st.next stE := fun its stE => by funext q; exact chkK_eq Γ zs its st.next stE q
 simp only [this] <;> rfl
theorem aloopK_eq (body : Fr -> St -> CR) : ∀ (n : Nat) (fr : Fr) (st : St), aloopK body n fr st = aloop body n fr st
 | 0, _, _ => rfl
 | n + 1, fr, st => by
  show (@CR.rec (fun _ => CR) (fun fr st => aloopK body n fr st) (fun i fr st => .exit i fr st) (fun fr st => .ret fr st) (fun fr v st => .pan fr v st) .stuck (body fr st)) = _
  unfold aloop
  cases body fr st <;> first | rfl | exact aloopK_eq body n _ _
theorem acodeK_eq (Γ : Gam) (Y : Yenv) (n : Nat) (mc : MCode) : ∀ (ro : Option Nat) (fr : Fr) (st : St), acodeK Γ Y n mc ro fr st = acode Γ Y n mc ro fr st := by
 induction mc with
 | skip => intro ro fr st; rfl
 | region ms =>
  intro ro fr st
  show rrK ((arunB ms).f (Γ.cg Y) fr st) = _
  rw [arunB_eq]
  unfold acode
  cases arun (Γ.cg Y) ms fr st <;> rfl
 | draw zs chk =>
  intro ro fr st
  show rrK (adrawK (Γ.cg Y) zs chk fr st) = _
  rw [adrawK_eq]
  unfold acode
  cases adraw (Γ.cg Y) zs chk fr st <;> rfl
 | seq a b iha ihb =>
  intro ro fr st
  show (@CR.rec (fun _ => CR) (fun fr st => acodeK Γ Y n b ro fr st) (fun i fr st => .exit i fr st) (fun fr st => .ret fr st) (fun fr v st => .pan fr v st) .stuck (acodeK Γ Y n a ro fr st)) = _
  rw [iha]
  simp only [acode]
  cases acode Γ Y n a ro fr st <;> first | rfl | exact ihb ro _ _
 | cond c a b iha ihb =>
  intro ro fr st
  show condK (evK c fr) (acodeK Γ Y n a ro fr st) (acodeK Γ Y n b ro fr st) = _
  rw [iha, ihb, evK_eq]
  simp only [acode]
  unfold condK
  cases ev fr c <;> rfl
 | block id c ih =>
  intro ro fr st
  show (@CR.rec (fun _ => CR) (fun fr st => .norm fr st) (fun i fr st => @Bool.rec (fun _ => CR) (.exit i fr st) (.norm fr st) (i.beq id)) (fun fr st => .ret fr st) (fun fr v st => .pan fr v st) .stuck (acodeK Γ Y n c ro fr st)) = _
  rw [ih]
  simp only [acode]
  cases acode Γ Y n c ro fr st <;> try rfl
  rename_i i _ _
  simp only []
  cases i.beq id <;> rfl
 | loop c ih =>
  intro ro fr st
  show aloopK (acodeK Γ Y n c ro) n fr st = _
  rw [aloopK_eq]
  have : acodeK Γ Y n c ro = acode Γ Y n c ro := by funext fr st; exact ih ro fr st
  rw [this, acode]
 | exit id => intro ro fr st; rfl
 | ret => intro ro fr st; rfl
 | rfun x ps a b iha ihb =>
  intro ro fr st
  have e1 : ∀ r, acodeK Γ Y n a r = acode Γ Y n a r := fun r => by funext fr st; exact iha r fr st
  have e2 : ∀ r, acodeK Γ Y n b r = acode Γ Y n b r := fun r => by funext fr st; exact ihb r fr st
  show (match evK x fr with
   | .func (.func g) first captured => bif Γ.ent g && roOk ro st then
     match Γ.call (Yenv.set Y st.next (aroundA (acodeK Γ Y n a (some st.next)) (acodeK Γ Y n b (some st.next)) st.next fr ps)) g (first ++ [AV.yld st.next] ++ captured) (st.new (.loop .ready)) with
     | .ret _ st2 => endLoopA st.next (markA ro fr) st2
     | .pan v st2 => .pan (markA ro fr) v st2
     | .stuck => .stuck
    else .stuck
   | _ => .stuck) = _
  rw [evK_eq, e1, e2]; rfl
 | bad => intro ro fr st; rfl
theorem abodyK_eq (Γ : Gam) (Y : Yenv) (n : Nat) (DF : Nat -> List AV -> St -> DM -> Option (DM × St)) (mf : MFunc) (args : List AV) (st : St) : abodyK Γ Y n DF mf args st = abody Γ Y n DF mf args st := by
 unfold abodyK abody
 rw [kif_eq, acodeK_eq]
 cases args.length.ble mf.N
 ·rfl
 ·simp only [cond_true]
  cases acode Γ Y n mf.code none (frOf 0 args Fr.nil) st <;> rfl
theorem arunCK_eq (tbl : Nat -> Option MFunc) (hand : Gam -> Nat -> Yenv -> Nat -> List AV -> St -> FR) : ∀ n, arunCK tbl hand n = arunC tbl hand n
 | 0 => rfl
 | n + 1 => by
  have ih := arunCK_eq tbl hand n
  funext Y f args st
  show (@Option.rec MFunc (fun _ => FR) (hand ⟨arunCK tbl hand n, entT tbl⟩ n Y f args st) (fun mf => abodyK ⟨arunCK tbl hand n, entT tbl⟩ Y n (defT tbl ⟨arunCK tbl hand n, entT tbl⟩ Y n) mf args st) (tbl f)) = _
  rw [ih]
  unfold arunC
  cases tbl f with
  | none => rfl
  | some mf => exact abodyK_eq _ _ _ _ _ _ _
theorem gamK_eq (tbl : Nat -> Option MFunc) (hand : Gam -> Nat -> Yenv -> Nat -> List AV -> St -> FR) (n : Nat) : gamK tbl hand n = gamT tbl hand n := by
 unfold gamK gamT; rw [arunCK_eq]
theorem runSegK_eq (Γ : Gam) (n : Nat) : ∀ (j : Nat) (mc : MCode) (fr : Fr) (st : St), runSegK Γ n j mc fr st = runSeg Γ n j mc fr st
 | 0, _, _, _ => by simp only [runSegK, runSeg]
 | j + 1, mc, fr, st => by
  cases mc <;> simp only [runSegK, runSeg, acodeK_eq]
  cases acode Γ Y0 n _ none fr st <;> first | rfl | exact runSegK_eq Γ n j _ _ _
theorem pieceK_of {tbl : Nat -> Option MFunc} {hand : Gam -> Nat -> Yenv -> Nat -> List AV -> St -> FR} {k n j : Nat} {mc : MCode} {F : Fr} {L : St} {F' : Fr} {L' : St} (h : pieceK (gamK tbl hand k) n j mc F L F' L' = true) : pieceB (gamT tbl hand k) n j mc F L F' L' = true := by
 unfold pieceK at h
 unfold pieceB
 rw [runSegK_eq, gamK_eq] at h
 exact h
theorem lastK_of {tbl : Nat -> Option MFunc} {hand : Gam -> Nat -> Yenv -> Nat -> List AV -> St -> FR} {k n : Nat} {mc : MCode} {F : Fr} {L : St} {res : List MRes} {v : AV} (h : lastK (gamK tbl hand k) n mc F L res v = true) : lastB (gamT tbl hand k) n mc F L res v = true := by
 unfold lastK at h
 unfold lastB
 rw [acodeK_eq, gamK_eq] at h
 exact h
end
end Go.AM
