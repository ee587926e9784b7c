import Derived.Test.YtejdliehekjicaaGreatAwIns0
namespace Go.Proofs
open Go.Shelf Go.RowKit Go.Lib
theorem size_le_alloc(w:World)(o:Obj):w.heap.size<=(w.alloc o).heap.size:=by show w.heap.size<=(w.heap.push o).size;simp
theorem Tryz.fresh_row{w:World}{X:Array Value}{t:TypeId}:(w.drew.alloc (.cells X t)).heap[w.heap.size]?=some (.cells X t)/\Below w.heap.size w (w.drew.alloc (.cells X t)):=
 ⟨Go.AM.Vz w.drew _,⟨rfl,rfl,rfl,size_le_alloc w.drew _,fun k hk=>Go.AM.Ww w.drew _ k hk⟩⟩
theorem Tryz.insertOk:Go.AM.InsertOk Tryz.prog 133:={
 ent:=enters_of Tryz.func133 (by kernel_rfl) rfl
 nil:=fun w vb vc v hv h1=>by
  refine (Tryz.insert_end_grow none 0 0 vb 0 1 vc [] [v] w (by omega) (by omega) (by omega) (by omega) rfl rfl (fun _=>rfl) (fun a h=>by cases h) (fun j u hj=>?_) (fun u hu=>?_)).mono ?_
  ·match j,hj with
   | 0,hj=>injection hj with hj;subst hj;exact hv
   | j+1,hj=>simp at hj
  ·rcases List.mem_singleton.1 hu with rfl;exact h1
  ·rintro e w' ⟨rfl,rfl⟩
   have hc:=grownCap_ge w (0+1) 0 124
   refine⟨_,_,_,rfl,Tryz.fresh_row.1,Tryz.fresh_row.2,?_,hc,by rw[Array.getElem?_append_left (by simp)];rfl⟩
   simp only[Array.size_append,List.size_toArray,List.length_append,List.length_cons,List.length_nil]
   rw[Go.size_zeroCells]
   simp[Value.cells];omega
 grow:=fun w b vb vc x v hx hv h1 h2=>by
  refine (Tryz.insert_grow b 0 1 1 0 vb 0 1 vc [x] [v] w (by omega) (by omega) (by omega) (by omega) (by omega) rfl rfl (fun j u hj=>?_) (fun j u hj=>?_) (fun u hu=>?_) (fun u hu=>?_)).mono ?_
  ·match j,hj with
   | 0,hj=>injection hj with hj;subst hj;exact hx
   | j+1,hj=>simp at hj
  ·match j,hj with
   | 0,hj=>injection hj with hj;subst hj;exact hv
   | j+1,hj=>simp at hj
  ·rcases List.mem_singleton.1 hu with rfl;exact h1
  ·rcases List.mem_singleton.1 hu with rfl;exact h2
  ·rintro e w' ⟨rfl,rfl⟩
   have hc:=grownCap_ge w (1+1) 1 124
   generalize hROW:(([x].take 0).toArray++Builtin.zeroCells (Value.pointer none).cells (1+1 - 0)++Builtin.zeroCells (Value.pointer none).cells (grownCap w (1+1) 1 124 - (1+1)))=ROW
   have hsz:ROW.size=grownCap w (1+1) 1 124:=by
    rw[<-hROW]
    simp only[Array.size_append,Go.size_zeroCells]
    have e2:(Value.pointer none).cells.size=1:=rfl
    have e3:([x].take 0).toArray.size=0:=rfl
    rw[e2,e3];omega
   have g1:(w.alloc (.cells ROW 124)).heap[w.heap.size]?=some (.cells ROW 124):=Go.AM.Vz w _
   have g2:=Go.AM.Yr (w.alloc (.cells ROW 124)).drew w.heap.size 0 ROW 124 (0,0) v g1
   have g3:=Go.AM.Yr (((w.alloc (.cells ROW 124)).drew.setCell ⟨w.heap.size,0,none⟩ v)).drew w.heap.size 1 _ 124 (0,0) x g2
   refine⟨_,_,_,rfl,g3,⟨rfl,rfl,rfl,by
    have h:=size_le_alloc w (.cells ROW 124)
    simp[World.setCells,World.setCell],fun k hk=>?_⟩,by simp[hsz],hc,?_,?_⟩
   ·show ((((w.alloc (.cells ROW 124)).drew.setCell ⟨w.heap.size,0,none⟩ v)).drew.setCell ⟨w.heap.size,1,none⟩ x).heap[k]?=_
    rw[heap_setCell_other _ _ k x (by simp;omega)]
    show ((w.alloc (.cells ROW 124)).drew.setCell ⟨w.heap.size,0,none⟩ v).heap[k]?=_
    rw[heap_setCell_other _ _ k v (by simp;omega)]
    exact Go.AM.Ww w _ k hk
   ·rw[Array.getElem?_setIfInBounds,if_neg (by omega),Array.getElem?_setIfInBounds,if_pos rfl,if_pos (by omega)]
   ·rw[Array.getElem?_setIfInBounds,if_pos rfl,if_pos (by simp;omega)]
 shift:=fun w b c vb vc x v cur curv t tv f h2 hc hne hb hf hv hx0 hv0 h1 h1v=>by
  have hcur:∀ j,j < 1+1->(w.cell? ⟨b,0+j,none⟩).isSome=true:=fun j hj=>by
   rw[Go.cell_of_row w b _ cur t f hb,Array.getElem?_eq_getElem (by omega)];rfl
  have hvs:0 < curv.size:=(Array.getElem?_eq_some_iff.1 hv0).1
  refine (Tryz.insert_shift b 0 1 c 0 vb 0 1 vc [x] [v] w (by omega) (by omega) (by omega) (by omega) hne rfl rfl (fun j u hj=>?_) hcur (fun j hj=>?_) (fun j u hj=>?_) (fun u hu=>?_) (fun u hu=>?_) tv t curv.size cur.size
   (by unfold World.shape?;rw[hv]) (by unfold World.shape?;rw[hb]) (by omega) ?_ ?_).mono ?_
  ·match j,hj with
   | 0,hj=>injection hj with hj;subst hj;rw[Go.cell_of_row w b _ cur t f hb];exact hx0
   | j+1,hj=>simp at hj
  ·exact Go.AM.TZ w b _ cur t f hb hf (by omega)
  ·match j,hj with
   | 0,hj=>injection hj with hj;subst hj;rw[Go.cell_of_row w vb _ curv tv _ hv];exact hv0
   | j+1,hj=>simp at hj
  ·rcases List.mem_singleton.1 hu with rfl;exact h1
  ·rcases List.mem_singleton.1 hu with rfl;exact h1v
  ·exact Go.AM.TZ w vb _ curv tv _ hv (.inl rfl) hvs
  ·simp[World.frozen?,hv]
  ·rintro e w' ⟨rfl,rfl⟩
   exact⟨rfl,rfl⟩}
end Go.Proofs
