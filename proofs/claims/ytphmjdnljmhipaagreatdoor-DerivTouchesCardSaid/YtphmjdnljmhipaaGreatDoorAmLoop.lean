import Derived.Test.YtphmjdnljmhipaaGreatDoorAmReg
import Derived.RangeFuncNested
namespace Go.AM
theorem Sat.allocDz {E : Env} {st : St} {w : World} (h : Sat E st w) : Sat { E with Dz := fun b => b = w.heap.size ∨ E.Dz b } st (w.alloc (.deferred (some []))) ∧
    Ext E w { E with Dz := fun b => b = w.heap.size ∨ E.Dz b } (w.alloc (.deferred (some []))) := by
  have hx : Ext E w { E with Dz := fun b => b = w.heap.size ∨ E.Dz b } (w.alloc (.deferred (some []))) := Ext.alloc _ (fun _ _ h => h) (fun _ h => h) (fun _ h => h) (fun _ _ => rfl) (fun _ h => .inr h) h.fz
  refine ⟨⟨fun id b hb => ?_, fun b hb => ?_, fun id o' b h1 h2 => ?_, h.sep, h.lv, h.rs, fun b hb => ?_, BtOk.mono h.bt hx.toExt0 rfl⟩, hx⟩
  · have := h.dom id b hb; simp; omega
  · have := h.fz b hb; simp; omega
  · exact ObjR.mono hx (heap_push_old w _ b (h.dom id b h2).2) (h.obj id o' b h1 h2)
  · rcases hb with rfl | hb
    · exact ⟨heap_alloc_at w _, fun hf => by have := h.fz _ hf; omega⟩
    · obtain ⟨h1, h2⟩ := h.dz b hb
      exact ⟨by rw [heap_push_old w _ b (Array.getElem?_eq_some_iff.1 h1).1]; exact h1, h2⟩
theorem Sat.shutDz {E : Env} {st : St} {w : World} (h : Sat E st w) {D : Nat} (hD : E.Dz D) :
    Sat { E with Dz := fun b => b ≠ D ∧ E.Dz b } st (w.putObj D (.deferred none)) ∧ Ext0 E w { E with Dz := fun b => b ≠ D ∧ E.Dz b } (w.putObj D (.deferred none)) := by
  obtain ⟨h1, h2⟩ := h.dz D hD
  have hne : ∀ k, k ≠ D → (w.putObj D (.deferred none)).heap[k]? = w.heap[k]? := fun k hk => World.putObj_heap_other hk
  have hx : Ext0 E w { E with Dz := fun b => b ≠ D ∧ E.Dz b } (w.putObj D (.deferred none)) := ⟨fun _ _ h => h, fun _ h => h, fun b hb => hne b (by rintro rfl; exact h2 hb), by simp, fun b s hs => by
    by_cases hb : b = D
    · subst hb; unfold World.shape? at hs; rw [h1] at hs; cases hs
    · rw [shape_of_heap (hne b hb)]; exact hs, rfl, rfl, rfl, fun _ _ => rfl⟩
  refine ⟨⟨fun id b hb => ?_, fun b hb => ?_, fun id o b g1 g2 => ?_, h.sep, h.lv, h.rs, fun b hb => ?_, BtOk.mono h.bt hx rfl⟩, hx⟩
  · have := h.dom id b hb; simp; exact this
  · have := h.fz b hb; simp; exact this
  · have g3 := h.obj id o b g1 g2
    refine ObjR.mono0 hx (hne b ?_) g3
    rintro rfl
    cases o with
    | fro cs => exact h2 g3.1
    | row cs => obtain ⟨⟨_, _, _, h4, _⟩, _⟩ := g3; rw [h1] at h4; cases h4
    | map es => obtain ⟨_, _, h4, _⟩ := g3; rw [h1] at h4; cases h4
    | loop s => obtain ⟨_, h4, _⟩ := g3; rw [h1] at h4; cases h4
  · obtain ⟨h3, h4⟩ := h.dz b hb.2
    exact ⟨by rw [hne b hb.1]; exact h3, h4⟩
def Env.loop (E : Env) (id b : Nat) (r : Loop) : Env := { E.link id b with lr := fun k => if k = b then r else E.lr k }
theorem Sat.newLoop {E : Env} {st : St} {w : World} (h : Sat E st w) (r : Loop) (h1 : r.state = .ready) (h2 : r.pending = none) :
    Sat (E.loop st.next w.heap.size r) (st.new (.loop .ready)) (w.alloc (.loop r)) ∧ Ext E w (E.loop st.next w.heap.size r) (w.alloc (.loop r)) := by
  have hx1 : Ext E w { E with lr := fun k => if k = w.heap.size then r else E.lr k } w := ⟨⟨fun _ _ h => h, fun _ h => h, fun _ _ => rfl, Nat.le_refl _, fun _ _ h => h, rfl, rfl, rfl, fun b hb => if_neg (by omega)⟩, fun _ h => h, fun _ h => h⟩
  have hs1 : Sat { E with lr := fun k => if k = w.heap.size then r else E.lr k } st w := ⟨h.dom, h.fz, fun id o b g1 g2 => ObjR.mono hx1 rfl (h.obj id o b g1 g2), h.sep, h.lv, h.rs, h.dz, BtOk.mono h.bt hx1.toExt0 rfl⟩
  obtain ⟨h3, h4⟩ := hs1.alloc' (.loop r) (.loop .ready) fun _ => ⟨r, heap_alloc_at w _, by
    show r = { (if w.heap.size = w.heap.size then r else E.lr w.heap.size) with state := .ready, pending := none }
    rw [if_pos rfl, ← h1, ← h2]⟩
  exact ⟨h3, hx1.trans h4⟩
theorem loopAt_get {st : St} {id : Nat} {s : LS} (h : loopAt st id = some s) : st.get id = some (.loop s) := by
  unfold loopAt at h
  split at h
  · rename_i h1; injection h with h; subst h; exact h1
  · cases h
theorem Sat.loop {E : Env} {st : St} {w : World} (h : Sat E st w) {id b : Nat} {s : LS} (hl : loopAt st id = some s) (hb : E.β id = some b) : ∃ r, w.heap[b]? = some (.loop r) ∧ s.ok (E.lr b) r :=
  h.obj id _ b (loopAt_get hl) hb
theorem Sat.putLoop {E : Env} {st : St} {w : World} (h : Sat E st w) {id b : Nat} {s s' : LS} {r r' : Loop} (hl : loopAt st id = some s) (hb : E.β id = some b) (hr : w.heap[b]? = some (.loop r)) (hok : s'.ok (E.lr b) r') :
    Sat E (st.put id (.loop s')) (w.putObj b (.loop r')) ∧ Ext E w E (w.putObj b (.loop r')) := by
  have hlt := (Array.getElem?_eq_some_iff.1 hr).1
  refine h.write id b (.loop s) (.loop s') (loopAt_get hl) rfl hb (fun k hk => World.putObj_heap_other hk) (by simp) (fun q hq => ?_) rfl rfl rfl rfl fun _ => ⟨r', World.putObj_heap_same hlt, hok⟩
  unfold World.shape? at hq
  rw [hr] at hq; cases hq
end Go.AM
