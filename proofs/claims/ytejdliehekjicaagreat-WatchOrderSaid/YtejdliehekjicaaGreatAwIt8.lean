import Derived.Test.YtejdliehekjicaaGreatAwSrt
import Derived.Shelf.SlSortCmp.WholeK
import Derived.Shelf.SlicesG.Cmp
import Derived.Ground.SlsfProg
import Derived.Ground.SlgcProg
import Derived.Test.YtejdliehekjicaaGreatProg
set_option maxRecDepth 100000
namespace Go.Proofs
open Go.Shelf Go.RowKit Go.Lib Go.Sort
theorem Tryz.bearsC{P:Program}{k:Nat}{B:Func}(m:String)(_:m=((P.funcs[k]?).map (·.name)).getD "")(h:(m== "runtime.NumGoroutine")=false)(g:P.funcs[k]?=some {B with name:=m}):Bears P k B:=⟨m,h,g⟩
def Tryz.sortC_ren:Ren:=⟨fun| 6=>77|15=>100|14=>120|28=>150|29=>151|20=>166|21=>167|22=>168|23=>169|24=>170|25=>171|26=>172|27=>173|46=>234|47=>205|48=>206|49=>235|50=>236|57=>274|n=>n,fun| 22=>43|24=>47|25=>167|3=>3|39=>198|0=>0|53=>242|55=>244|4=>4|46=>236|45=>235|50=>224|5=>5|9=>9|66=>299|70=>250|76=>349|77=>91|n=>n,fun| n=>n⟩
theorem Tryz.sortC:SlLaysF0.n6 Tryz.prog Tryz.sortC_ren:=by constructor<;>first|(intros;kernel_rfl)|exact Tryz.bearsC _ rfl (by kernel_rfl) (by kernel_rfl)
def Tryz.cmpInt_ren:Ren:=⟨fun| 5=>79|7=>121|n=>n,fun| 22=>3|3=>3|4=>4|n=>n,fun| n=>n⟩
theorem Tryz.cmpInt:SlLaysC2.n5 Tryz.prog Tryz.cmpInt_ren:=by constructor<;>first|(intros;kernel_rfl)|exact Tryz.bearsC _ rfl (by kernel_rfl) (by kernel_rfl)
def Tryz.encC(x:Int × Int):List Value:=[.int .i64 x.1,.int .i64 x.2]
set_option maxHeartbeats 1000000 in
theorem Tryz.closure78(x y:Int × Int)(W:World):Calls Tryz.prog 78 #[.agg #[.int .i64 x.1,.int .i64 x.2],.agg #[.int .i64 y.1,.int .i64 y.2]] W fun e w'=>e=.returned (.int .i64 (Lib.compareInt x.1 y.1))/\∃ q os',w'=grow (W.drewN q) os':=by
 have hcon:=fun W'=>AnyG.cmp_Compare_int Tryz.cmpInt x.1 y.1 W'
 change ∀ W',Calls Tryz.prog 79 _ _ _ at hcon
 generalize Lib.compareInt x.1 y.1=r at hcon ⊢
 go_enter Tryz.func78,Tryz.ntmps78
 go_wp2_with (go_at_call 79;refine (hcon _).mono ?_;rintro e w' ⟨rfl,rfl⟩)
 go_ret
 exact⟨rfl,0,_,by rw[alloc_eq_grow,alloc_eq_grow,grow_grow];rfl⟩
theorem Tryz.cmpLays78(blk off size:Nat)(w:World):CmpLays Tryz.prog 78 #[] Tryz.encC 2 (fun x y=>Lib.compareInt x.1 y.1) blk off size w:=
 fun _ _ _ _ x y=>Tryz.closure78 x y _
theorem Tryz.ltC(x y:Int × Int):ltOf (fun x y:Int × Int=>Lib.compareInt x.1 y.1) x y=decide (x.1 < y.1):=by
 unfold ltOf Lib.compareInt
 by_cases h1:x.1 < y.1
 ·simp[h1]
 ·by_cases h2:y.1 < x.1<;>simp[h1,h2]
theorem Tryz.swoC:SWO (ltOf fun x y:Int × Int=>Lib.compareInt x.1 y.1):={
 irrefl x:=by rw[Tryz.ltC];simp
 trans x y z h1 h2:=by rw[Tryz.ltC] at *;simp at *;omega
 ntrans x y z h1 h2:=by rw[Tryz.ltC] at *;simp at *;omega}
theorem Tryz.pairsV_at:∀(l:List (Int × Int)) (t:Nat),t < 2*l.length->(Go.AM.Kl l)[t]?=some ((Tryz.encC l[t / 2]!)[t % 2]!)
 | [],t,h=>by simp at h
 | p::l,0,_=>rfl
 | p::l,1,_=>rfl
 | p::l,t+2,h=>by
  have ih:=Tryz.pairsV_at l t (by simp at h;omega)
  have e:Go.AM.Kl (p::l)=.int .i64 p.1::.int .i64 p.2::Go.AM.Kl l:=rfl
  rw[e,List.getElem?_cons_succ,List.getElem?_cons_succ,ih,show (t+2) / 2=t / 2+1 by omega,show (t+2) % 2=t % 2 by omega]
  rfl
theorem Tryz.sortFOk:Go.AM.SortFOk Tryz.prog 77 78:=by
 refine⟨enters_of Tryz.func77 (by kernel_rfl) rfl,?_⟩
 intro w b cap t d c f hh hl hf hcv hbig
 have eg:∀ args w,(callFunc 78 args).run Tryz.prog w=.ok (.enter 78 args) w:=enters_of Tryz.func78 (by kernel_rfl) rfl
 have hblk:b < w.heap.size:=(Array.getElem?_eq_some_iff.1 hh).1
 have hH:HoldsK Tryz.encC 2 w b 0 d.toArray:=by
  intro j hj
  rw[size_flatK,List.size_toArray] at hj
  rw[get_flatK _ _ _ _ (by rw[List.size_toArray];exact hj),Nat.zero_add]
  have h1:=hcv j _ (Tryz.pairsV_at d j (by omega))
  refine⟨?_,Go.AM.TZ w b _ c t f hh hf (by omega)⟩
  rw[Go.cell_of_row w b j c t f hh,h1]
  simp
 have hcon:=AnyQ.slices_SortFunc Tryz.sortC 2 Tryz.isAgg47 Tryz.sizeOf47 Tryz.encC (fun _=>rfl) (fun x v hv=>by simp[Tryz.encC] at hv;rcases hv with rfl | rfl<;>rfl) (fun x y=>Lib.compareInt x.1 y.1) Tryz.swoC 78 #[] b 0 cap d.toArray w eg (Tryz.cmpLays78 b 0 d.toArray.size w) hH hblk (by rw[List.size_toArray];omega)
 change Calls Tryz.prog 77 _ _ _ at hcon
 rw[List.size_toArray] at hcon
 refine hcon.mono ?_
 rintro e w' ⟨rfl,d',n,os,⟨hp1,_,hp3⟩,hso,rfl⟩
 have hp1:d'.size=d.length:=hp1
 have e1:d'.extract 0 d.length=d':=by rw[<-hp1];exact Array.extract_size
 have e2:d.toArray.extract 0 d.length=d.toArray:=by rw[show d.length=d.toArray.size from (List.size_toArray).symm];exact Array.extract_size
 rw[e1,e2] at hp3
 have hmod:∀ k:Nat,(putRowK Tryz.encC 2 (Sort.ahead w n) b 0 d').heap[k]?=if b=k then (w.heap[k]?).map (onCells (putCells id 0 (flatK Tryz.encC 2 d'))) else w.heap[k]?:=fun k=>by
  show (w.heap.modify b (onCells (putCells id 0 (flatK Tryz.encC 2 d'))))[k]?=_
  rw[Array.getElem?_modify]
 refine⟨rfl,putRowK Tryz.encC 2 (Sort.ahead w n) b 0 d',d'.toList,putCells id 0 (flatK Tryz.encC 2 d') c,hp3,?_,fun k hk=>?_,?_,?_,?_,fun j v hj=>?_,rfl,rfl,rfl,?_⟩
 ·rw[List.pairwise_iff_getElem]
  intro i j hi hj hij
  have hj':j < d'.size:=by simpa using hj
  have:=hso i j (Nat.zero_le _) hij (by show j < d.length;omega)
  rw[Tryz.ltC] at this
  simp only[decide_eq_false_iff_not] at this
  rw[getElem!_pos d' i (by simpa using hi),getElem!_pos d' j (by simpa using hj)] at this
  simp only[Array.getElem_toList]
  omega
 ·rw[hmod,if_neg (fun h=>hk h.symm)]
 ·show (w.heap.modify b _).size=_
  rw[Array.size_modify]
 ·rw[hmod,if_pos rfl,hh];rfl
 ·simp[putCells]
 ·have hjl:j < 2*d'.toList.length:=by have:=(List.getElem?_eq_some_iff.1 hj).1;rwa [Go.AM.pairsV_len] at this
  rw[Tryz.pairsV_at _ j hjl] at hj
  injection hj with hj
  rw[Array.length_toList] at hjl
  have hjc:j < c.size:=by omega
  simp only[putCells,Array.getElem?_mapIdx,Array.getElem?_eq_getElem hjc,Option.map_some,Nat.zero_le,Nat.zero_add,true_and,size_flatK]
  rw[if_pos (by omega),Nat.sub_zero,get_flatK _ _ _ _ (by omega),<-hj]
  simp only[id_eq,Array.getElem!_toList]
 ·exact⟨rfl,rfl,rfl,by show _<=((putRowK Tryz.encC 2 (Sort.ahead w n) b 0 d').heap++os).size;rw[Array.size_append];omega,fun k hk=>by
   show ((putRowK Tryz.encC 2 (Sort.ahead w n) b 0 d').heap++os)[k]?=_
   rw[Array.getElem?_append_left hk]⟩
end Go.Proofs
