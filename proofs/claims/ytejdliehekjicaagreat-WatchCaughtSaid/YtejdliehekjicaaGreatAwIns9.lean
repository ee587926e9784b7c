import Derived.Test.YtejdliehekjicaaGreatAwIns
import Derived.Test.YtejdliehekjicaaGreatAwFast2
set_option linter.unusedVariables false
set_option linter.unusedSimpArgs false
namespace Go
variable {P:Program}
theorem run_copy_z(w:World)(dT sT ty elem:TypeId)(b o dLen dCap:Nat)(a:Addr)(sLen sCap z k:Nat)(cs:List Value)
  (hu:P.underlying dT=some (.slice elem)) (hs:(P.info? elem).map (·.size)=some z) (hk:k=Nat.min sLen dLen) (hn:cs.length=k*z)
  (hsrc:∀ j v,cs[j]?=some v->w.cell? (a.add j)=some v) (hc:∀ j,j < cs.length->(w.cell? ⟨b,o+j,none⟩).isSome=true) (hf:∀ j,j < cs.length->w.frozen? ⟨b,o+j,none⟩=false) (h1:∀ v∈cs,v.oneCell'=true):
  (Builtin.copy_ #[dT,sT] ty #[.slice (some ⟨b,o,none⟩) dLen dCap,.slice (some a) sLen sCap]).run P w=.ok (goInt k) (w.setCells b o cs):=by
 have hl:=run_loadCells_list (P:=P) w a cs hsrc
 have hst:=run_storeCells_cells (P:=P) b o cs 0 w (by simpa using hc) (by simpa using hf) h1
 cases hq:P.info? elem with
 | none=>simp[hq] at hs
 | some i=>
  have hi:i.size=z:=by simpa [hq] using hs
  simp[Builtin.copy_,run_underlying hu,Builtin.lenOf,Builtin.firstCells,sizeOf,typeInfo,hq,hi,<-hk,<-hn,hl,hst]
end Go
namespace Go.Proofs
open Go.Shelf Go.RowKit Go.Lib
def zeroE:Value:=.agg #[.int .i64 0,.int .i64 0,.int .i64 0,.int .i64 0,.slice none 0 0,.int .i64 0,.slice none 0 0,.slice none 0 0,.slice none 0 0]
theorem i50:(Tryz.prog.info? 50).map (fun i=>(i.zero,i.size,i.bytes))=some (some zeroE,9,136):=by kernel_rfl
set_option maxHeartbeats 4000000 in
set_option maxRecDepth 100000 in
theorem Tryz.ins9_shift(b off n c i vb voff m vc:Nat)(cs vs:List Value)(w:World)(hi:i < n)(hm:0 < m)(hroom:n+m<=c)(hc63:n+m<=9223372036854775807)(hvb:vb≠b)
  (hcl:cs.length=n*9) (hvl:vs.length=m*9)
  (hcs:∀ j v,cs[j]?=some v->w.cell? ⟨b,off+j,none⟩=some v) (hsp:∀ j,j < (n+m)*9->(w.cell? ⟨b,off+j,none⟩).isSome=true) (hfz:∀ j,j < (n+m)*9->w.frozen? ⟨b,off+j,none⟩=false)
  (hvs:∀ j v,vs[j]?=some v->w.cell? ⟨vb,voff+j,none⟩=some v) (h1c:∀ v∈cs,v.oneCell'=true) (h1v:∀ v∈vs,v.oneCell'=true)
  (tA tB:TypeId) (kA kB:Nat) (hsa:w.shape? vb=some (tA,kA)) (hsb:w.shape? b=some (tB,kB)) (hkB:kB≠0) (hfa:w.frozen? ⟨vb,voff,none⟩=false) (hfe:w.frozen? ⟨vb,kA,none⟩=false):
  Calls Tryz.prog 14 #[.slice (some ⟨b,off,none⟩) n c,.int .i64 i,.slice (some ⟨vb,voff,none⟩) m vc] w fun e w'=>
   e=.returned (.slice (some ⟨b,off,none⟩) (n+m) c)/\w'=(w.drew.setCells b (off+(i+m)*9) (cs.drop (i*9))).setCells b (off+i*9) vs:=by
 have u4:=run_underlying (P:=Tryz.prog) Tryz.underlying4;have u3:=run_underlying (P:=Tryz.prog) Tryz.underlying3;have u48:=run_underlying (P:=Tryz.prog) Tryz.underlying48;have u48x:=run_underlying (P:=Tryz.prog) Tryz.underlying48;have u50:=run_underlying (P:=Tryz.prog) Tryz.underlying50
 have hz1:¬((m:Int)=0):=by omega
 have hz2:¬((i:Int)=(n:Int)):=by omega
 have hsz:(Tryz.prog.info? 50).map (·.size)=some 9:=by
  obtain⟨i0,hi0,h0,h1,h2⟩:=info_parts i50
  rw[hi0];simp[h1]
 have hov:∀ lb cb,(callFunc 34 #[.slice (some ⟨vb,voff,none⟩) m vc,.slice (some ⟨b,off+(i+m)*9,none⟩) lb cb]).run Tryz.prog w=.ok (.value (.bool false)) w:=fun lb cb=>by
  rw[run_callFunc_extern Tryz.func34 (by kernel_rfl) (by kernel_rfl) (by kernel_rfl) (e:=Extern.SlicesOverlaps.overlaps #[48,48] #[4]) (by kernel_rfl),
   Lib.run_overlaps_apart w 48 4 50 Tryz.underlying48 9 Tryz.sizeOf50 ⟨vb,voff,none⟩ ⟨b,off+(i+m)*9,none⟩ m vc lb cb hvb tA tB kA kB hsa hsb hkB hfa hfe]
  rfl
 have hdl:(cs.drop (i*9)).length=(n - i)*9:=by rw[List.length_drop,hcl,Nat.sub_mul]
 have mixed:Tryz.prog.follows .mixedOrders=true:=by kernel_rfl
 have hw1:IntKind.i64.wrap ((i:Int)+(m:Int))=(i:Int)+(m:Int):=by rw[IntKind.wrap_i64];omega
 have hb1:(0:Int)<=(i:Int)+(m:Int):=by omega
 have hin:i<=n:=by omega
 have htn:((i:Int)+(m:Int)).toNat=i+m:=by omega
 have hb2:¬(c=i+m):=by omega
 have hb3:(i:Int)<=(n:Int)+(m:Int):=by omega
 have hb4:¬(c=i):=by omega
 have hcp1:∀ ty dc sc,(Builtin.copy_ #[48,48] ty #[.slice (some ⟨b,off+(i+m)*9,none⟩) (n+m - (i+m)) dc,.slice (some ⟨b,off+i*9,none⟩) (n+m - i) sc]).run Tryz.prog w.drew=.ok (goInt (n - i:Nat)) (w.drew.setCells b (off+(i+m)*9) (cs.drop (i*9))):=fun ty dc sc=>
  run_copy_z w.drew _ _ ty 50 b (off+(i+m)*9) (n+m - (i+m)) dc ⟨b,off+i*9,none⟩ (n+m - i) sc 9 (n - i) (cs.drop (i*9)) Tryz.underlying48 hsz (by simp only[Nat.min_def];split<;>omega) hdl
   (fun j v hj=>by rw[Addr.add_lit,Nat.add_assoc];exact hcs (i*9+j) v (by rwa [List.getElem?_drop] at hj))
   (fun j hj=>by rw[Nat.add_assoc];exact hsp _ (by omega)) (fun j hj=>by rw[Nat.add_assoc];exact hfz _ (by omega)) (fun v hv=>h1c v (List.mem_of_mem_drop hv))
 obtain⟨W1,hW1⟩:∃ W1,W1=w.drew.setCells b (off+(i+m)*9) (cs.drop (i*9)):=⟨_,rfl⟩
 have hsp1:∀ k,k < (n+m)*9->(W1.cell? ⟨b,off+k,none⟩).isSome=true:=fun k hk=>by
  rw[hW1]
  exact isSome_setCells b _ _ _ (fun j hj=>by rw[Nat.add_assoc];exact hsp _ (by omega)) _ (hsp k hk)
 have hcp2:∀(W:World),(∀ x,W.cell? x=W1.cell? x)->(∀ x,W.frozen? x=W1.frozen? x)->∀ ty dc,(Builtin.copy_ #[48,48] ty #[.slice (some ⟨b,off+i*9,none⟩) (n+m - i) dc,.slice (some ⟨vb,voff,none⟩) m vc]).run Tryz.prog W=.ok (goInt m) (W.setCells b (off+i*9) vs):=fun W hWc hWf ty dc=>
  run_copy_z W _ _ ty 50 b (off+i*9) (n+m - i) dc ⟨vb,voff,none⟩ m vc 9 m vs Tryz.underlying48 hsz (by simp only[Nat.min_def];split<;>omega) hvl
   (fun j v hj=>by
    rw[Addr.add_lit,hWc,hW1,World.cell?_setCells_out b _ _ _ _ (fun h _=>absurd h hvb)]
    exact hvs j v hj)
   (fun j hj=>by rw[hWc,Nat.add_assoc];exact hsp1 _ (by omega)) (fun j hj=>by rw[hWf,hW1,World.frozen?_setCells,Nat.add_assoc];exact hfz _ (by omega)) h1v
 rw[<-hW1] at hcp1
 go_enter Tryz.func14,Tryz.ntmps14
 go_wp2_with (simp only[hov])
 go_region_law_o (refine step_copy_runI rfl _ _ 48 48 rfl _ _ (by simp[Act.eval,Act.put]) (by simp[Act.eval,Act.put]) (hcp1 _ _ _) ?_)
 go_wp2_with (at_builtin;refine wpList_copy_runI _ rfl _ _ 48 48 rfl _ _ rfl rfl (hcp2 _ (fun _=>rfl) (fun _=>rfl) _ _) ?_)
 go_ret
 first | exact⟨rfl,rfl⟩ | exact⟨rfl,by rw[hW1]⟩
set_option maxHeartbeats 4000000 in
set_option maxRecDepth 100000 in
theorem Tryz.ins9_grow(b off n c i vb voff m vc:Nat)(cs vs:List Value)(w:World)(hi:i < n)(hm:0 < m)(hnc:n<=c)(hroom:c < n+m)(hbig:(n+m)*136<=140737488355328)
  (hcl:cs.length=n*9) (hvl:vs.length=m*9)
  (hcs:∀ j v,cs[j]?=some v->w.cell? ⟨b,off+j,none⟩=some v)
  (hvs:∀ j v,vs[j]?=some v->w.cell? ⟨vb,voff+j,none⟩=some v) (h1c:∀ v∈cs,v.oneCell'=true) (h1v:∀ v∈vs,v.oneCell'=true):
  Calls Tryz.prog 14 #[.slice (some ⟨b,off,none⟩) n c,.int .i64 i,.slice (some ⟨vb,voff,none⟩) m vc] w fun e w'=>
   e=.returned (.slice (some ⟨w.heap.size,0,none⟩) (n+m) (grownCap w (n+m) c 50)) ∧
   w'=(((w.alloc (.cells ((cs.take (i*9)).toArray++Builtin.zeroCells zeroE.cells (n+m - i)++Builtin.zeroCells zeroE.cells (grownCap w (n+m) c 50 - (n+m))) 50)).drew.setCells w.heap.size (i*9) vs).drew).setCells w.heap.size ((i+m)*9) (cs.drop (i*9)):=by
 have u4:=run_underlying (P:=Tryz.prog) Tryz.underlying4;have u3:=run_underlying (P:=Tryz.prog) Tryz.underlying3;have u48:=run_underlying (P:=Tryz.prog) Tryz.underlying48;have u48x:=run_underlying (P:=Tryz.prog) Tryz.underlying48;have u50:=run_underlying (P:=Tryz.prog) Tryz.underlying50
 have mixed:Tryz.prog.follows .mixedOrders=true:=by kernel_rfl
 obtain⟨i0,hi0,hz0,hzs,hzb⟩:=info_parts i50
 have hz1:¬((m:Int)=0):=by omega
 have hz2:¬((i:Int)=(n:Int)):=by omega
 have hz3:(c:Int) < (n:Int)+(m:Int):=by omega
 have hsz:(Tryz.prog.info? 50).map (·.size)=some 9:=by rw[hi0];simp[hzs]
 have hbw:b < w.heap.size:=block_lt_of_cell (hcs 0 _ (List.getElem?_eq_getElem (by omega)))
 have hvw:vb < w.heap.size:=block_lt_of_cell (hvs 0 _ (List.getElem?_eq_getElem (by omega)))
 have hkk:(n:Int)+(m:Int) - (i:Int)=((n+m - i:Nat):Int):=by omega
 have hik:i+(n+m - i)=n+m:=by omega
 have hold:(Builtin.firstCells i0.size i (.slice (some ⟨b,off,none⟩) i c)).run Tryz.prog w.drew=.ok (cs.take (i*9)).toArray w.drew:=by
  rw[hzs]
  exact run_firstCells_some w.drew 9 i ⟨b,off,none⟩ i c (cs.take (i*9)) (by rw[List.length_take];omega) (fun j v hj=>by
   rw[Addr.add_lit]
   rw[List.getElem?_take] at hj
   split at hj
   ·exact hcs j v hj
   ·cases hj)
 have hrz:∀ ty,(Builtin.append_ #[48,3] ty #[.slice (some ⟨b,off,none⟩) i c,.int .i64 ((n:Int)+(m:Int) - (i:Int))]).run Tryz.prog w =
   .ok (.slice (some ⟨w.heap.size,0,none⟩) (n+m) (grownCap w (n+m) c 50)) (w.drew.alloc (.cells ((cs.take (i*9)).toArray++Builtin.zeroCells zeroE.cells (n+m - i)++Builtin.zeroCells zeroE.cells (grownCap w (n+m) c 50 - (n+m))) 50)):=fun ty=>by
  have h:=Lib.run_append_grow_zeros w 48 3 ty 50 i0 _ .i64 .i64 Tryz.underlying48 Tryz.underlying3 hi0 hz0 (some ⟨b,off,none⟩) i c (cs.take (i*9)) hold (n+m - i) (by omega) (by omega) (by omega) (by omega) (by rw[hzb];omega) (by rw[hzb,hik];exact growslice_fits hroom hbig)
  rw[hik] at h
  rw[hkk]
  exact h
 obtain⟨G,hG⟩:∃ G,G=grownCap w (n+m) c 50:=⟨_,rfl⟩
 obtain⟨ROW,hROW⟩:∃ ROW:Array Value,ROW=(cs.take (i*9)).toArray++Builtin.zeroCells zeroE.cells (n+m - i)++Builtin.zeroCells zeroE.cells (G - (n+m)):=⟨_,rfl⟩
 rw[<-hG] at hrz ⊢
 rw[<-hROW] at hrz ⊢
 have hRl:(n+m)*9<=ROW.size:=by
  rw[hROW]
  simp only[Array.size_append,Go.size_zeroCells,List.size_toArray,List.length_take,hcl,show zeroE.cells.size=9 from rfl]
  omega
 obtain⟨W1,hW1⟩:∃ W1,W1=w.drew.alloc (.cells ROW 50):=⟨_,rfl⟩
 rw[<-hW1] at hrz
 have hN:∀ j,j < (n+m)*9->(W1.cell? ⟨w.heap.size,j,none⟩).isSome=true:=fun j hj=>by
  rw[hW1,World.cell?_alloc_at (w:=w.drew) ROW _ w.heap.size j rfl,Array.getElem?_eq_getElem (by omega)];rfl
 have hNf:∀ j,W1.frozen? ⟨w.heap.size,j,none⟩=false:=fun j=>by rw[hW1];exact World.frozen?_alloc_at (w:=w.drew) ROW _ w.heap.size j rfl
 have hOb:∀ j v,w.cell? ⟨b,j,none⟩=some v->W1.cell? ⟨b,j,none⟩=some v:=fun j v h=>by rw[hW1,World.cell?_alloc_past (w:=w.drew) _ b j hbw];exact h
 have hOv:∀ j v,w.cell? ⟨vb,j,none⟩=some v->W1.cell? ⟨vb,j,none⟩=some v:=fun j v h=>by rw[hW1,World.cell?_alloc_past (w:=w.drew) _ vb j hvw];exact h
 have hcpA:∀(W:World),(∀ x,W.cell? x=W1.cell? x)->(∀ x,W.frozen? x=W1.frozen? x)->∀ ty dc,(Builtin.copy_ #[48,48] ty #[.slice (some ⟨w.heap.size,i*9,none⟩) (n+m - i) dc,.slice (some ⟨vb,voff,none⟩) m vc]).run Tryz.prog W=.ok (goInt m) (W.setCells w.heap.size (i*9) vs):=fun W hWc hWf ty dc=>
  run_copy_z W _ _ ty 50 w.heap.size (i*9) (n+m - i) dc ⟨vb,voff,none⟩ m vc 9 m vs Tryz.underlying48 hsz (by simp only[Nat.min_def];split<;>omega) hvl
   (fun j v hj=>by rw[Addr.add_lit,hWc];exact hOv _ v (hvs j v hj))
   (fun j hj=>by rw[hWc];exact hN _ (by omega)) (fun j hj=>by rw[hWf];exact hNf _) h1v
 have hGn:n+m<=G:=by rw[hG];exact grownCap_ge w _ _ _
 have hG63:G<=9223372036854775807:=by
  have:=grownCap_le_maxLen w (n+m) c 50 (by unfold maxLen;omega)
  rw[<-hG] at this
  unfold maxLen at this
  omega
 have hGi:¬(G=i):=by omega
 have hGim:¬(G=i+m):=by omega
 have hci:¬(c=i):=by omega
 have hbN:b≠w.heap.size:=by omega
 have hdl:(cs.drop (i*9)).length=(n - i)*9:=by rw[List.length_drop,hcl,Nat.sub_mul]
 have hcpB:∀(W:World),(∀ x,W.cell? x=(W1.setCells w.heap.size (i*9) vs).cell? x)->(∀ x,W.frozen? x=(W1.setCells w.heap.size (i*9) vs).frozen? x)->∀ ty dc sc,(Builtin.copy_ #[48,48] ty #[.slice (some ⟨w.heap.size,(i+m)*9,none⟩) (n+m - (i+m)) dc,.slice (some ⟨b,off+i*9,none⟩) (n - i) sc]).run Tryz.prog W=.ok (goInt (n - i:Nat)) (W.setCells w.heap.size ((i+m)*9) (cs.drop (i*9))):=fun W hWc hWf ty dc sc=>
  run_copy_z W _ _ ty 50 w.heap.size ((i+m)*9) (n+m - (i+m)) dc ⟨b,off+i*9,none⟩ (n - i) sc 9 (n - i) (cs.drop (i*9)) Tryz.underlying48 hsz (by simp only[Nat.min_def];split<;>omega) hdl
   (fun j v hj=>by
    rw[Addr.add_lit,hWc,World.cell?_setCells_out _ _ _ _ _ (fun h _=>absurd h hbN),Nat.add_assoc]
    exact hOb _ v (hcs (i*9+j) v (by rwa [List.getElem?_drop] at hj)))
   (fun j hj=>by rw[hWc];exact isSome_setCells _ _ _ _ (fun t ht=>hN _ (by omega)) _ (hN _ (by omega)))
   (fun j hj=>by rw[hWf,World.frozen?_setCells];exact hNf _) (fun v hv=>h1c v (List.mem_of_mem_drop hv))
 subst hW1
 have hE1:∀ x,((w.alloc (.cells ROW 50)).drew).cell? x=(w.drew.alloc (.cells ROW 50)).cell? x:=fun x=>rfl
 have hE2:∀ x,((w.alloc (.cells ROW 50)).drew).frozen? x=(w.drew.alloc (.cells ROW 50)).frozen? x:=fun x=>rfl
 have hF1:∀ x,(((w.alloc (.cells ROW 50)).drew.setCells w.heap.size (i*9) vs).drew).cell? x=((w.drew.alloc (.cells ROW 50)).setCells w.heap.size (i*9) vs).cell? x:=fun x=>rfl
 have hF2:∀ x,(((w.alloc (.cells ROW 50)).drew.setCells w.heap.size (i*9) vs).drew).frozen? x=((w.drew.alloc (.cells ROW 50)).setCells w.heap.size (i*9) vs).frozen? x:=fun x=>rfl
 have hw1:IntKind.i64.wrap ((i:Int)+(m:Int))=(i:Int)+(m:Int):=by rw[IntKind.wrap_i64];omega
 have hb1:(0:Int)<=(i:Int)+(m:Int):=by omega
 have hin:i<=n:=by omega
 have htn:((i:Int)+(m:Int)).toNat=i+m:=by omega
 have hb3:(i:Int)<=(n:Int):=by omega
 clear hkk hik hold hROW hG hRl
 go_enter Tryz.func14,Tryz.ntmps14
 go_wp2_with (first
  | (at_builtin;refine Lib.wpList_append_run _ rfl _ _ _ _ rfl _ _ rfl rfl _ _ (hrz _) ?_)
  | (at_builtin;refine wpList_copy_runI _ rfl _ _ 48 48 rfl _ _ rfl rfl (hcpA _ hE1 hE2 _ _) ?_)
  | (at_builtin;refine wpList_copy_runI _ rfl _ _ 48 48 rfl _ _ rfl rfl (hcpB _ (fun _=>rfl) (fun _=>rfl) _ _ _) ?_))
 go_region_law_o (refine step_copy_runI rfl _ _ 48 48 rfl (.slice (some ⟨w.heap.size,(i+m)*9,none⟩) (n+m - (i+m)) (G - (i+m))) (.slice (some ⟨b,off+i*9,none⟩) (n - i) (c - i)) (by simp[Act.eval,Act.put]) (by simp[Act.eval,Act.put]) (hcpB _ hF1 hF2 3 (G - (i+m)) (c - i)) ?_)
 go_wp2
 go_ret
 exact⟨rfl,rfl⟩
theorem Tryz.insert9Ok:Go.AM.Insert9Ok Tryz.prog 14:={
 ent:=enters_of Tryz.func14 (by kernel_rfl) rfl
 grow:=fun w b n c k vb vc cs xs hk hn hc1 hc2 hcl hxl hcs hxs oc ox=>by
  refine (Tryz.ins9_grow b 0 n c k vb 0 1 vc cs xs w hk (by omega) hc1 (by omega) (by omega) hcl (by omega) (fun j v hj=>by rw[Nat.zero_add];exact hcs j v hj) (fun j v hj=>by rw[Nat.zero_add];exact hxs j v hj) oc ox).mono ?_
  rintro e w' ⟨rfl,rfl⟩
  have hc:=grownCap_ge w (n+1) c 50
  generalize grownCap w (n+1) c 50=G at *
  generalize hROW:((cs.take (k*9)).toArray++Builtin.zeroCells zeroE.cells (n+1 - k)++Builtin.zeroCells zeroE.cells (G - (n+1)))=ROW
  have hz:zeroE.cells.size=9:=rfl
  have hsz:ROW.size=G*9:=by
   rw[<-hROW]
   simp only[Array.size_append,Go.size_zeroCells,List.size_toArray,List.length_take,hcl,hz]
   omega
  have hpre:∀(j:Nat) (v:Value),j < k*9->cs[j]?=some v->ROW[j]?=some v:=fun j v hj hv=>by
   rw[<-hROW,Array.getElem?_append_left (by simp only[Array.size_append,List.size_toArray,List.length_take,hcl];omega),Array.getElem?_append_left (by simp only[List.size_toArray,List.length_take,hcl];omega)]
   simp only[List.getElem?_toArray,List.getElem?_take,if_pos hj];exact hv
  have g1:(w.alloc (.cells ROW 50)).drew.heap[w.heap.size]?=some (.cells ROW 50 (0,0)):=Go.AM.Vz w _
  obtain⟨r1,a1,a2,a3,a4,a5,a6,a7,a8⟩:=Go.AM.RX w.heap.size xs (k*9) _ ROW 50 (0,0) g1 (by omega)
  have g2:((w.alloc (.cells ROW 50)).drew.setCells w.heap.size (k*9) xs).drew.heap[w.heap.size]?=some (.cells r1 50 (0,0)):=a1
  obtain⟨r2,b1,b2,b3,b4,b5,b6,b7,b8⟩:=Go.AM.RX w.heap.size (cs.drop (k*9)) ((k+1)*9) _ r1 50 (0,0) g2 (by rw[List.length_drop];omega)
  refine⟨G,r2,50,rfl,b1,⟨b6.trans a6,b7.trans a7,b8.trans a8,?_,fun q hq=>?_⟩,by omega,hc,fun j v hj=>?_⟩
  ·rw[b5];exact Nat.le_trans (size_le_alloc w (.cells ROW 50)) (Nat.le_of_eq a5.symm)
  ·rw[b4 q (by omega)]
   exact(a4 q (by omega)).trans (Go.AM.Ww w _ q hq)
  ·have hjl:=(List.getElem?_eq_some_iff.1 hj).1
   simp only[List.length_append,List.length_take,List.length_drop,hcl,hxl] at hjl
   rw[Go.AM.ins_get hcl hxl hk] at hj
   rw[b3]
   by_cases j1:j < k*9
   ·rw[if_pos j1] at hj
    rw[if_neg (by omega),a3,if_neg (by omega)];exact hpre j v j1 hj
   ·rw[if_neg j1] at hj
    by_cases j2:j < (k+1)*9
    ·rw[if_pos j2] at hj
     rw[if_neg (by omega),a3,if_pos (by omega)];exact hj
    ·rw[if_neg j2] at hj
     rw[if_pos (by rw[List.length_drop];omega),List.getElem?_drop,show k*9+(j - (k+1)*9)=j - 9 by omega];exact hj
 shift:=fun w b n c k vb vc cs xs cur curv t f hk hn hc hsz hne hb hf hv hcl hxl hcs hxs oc ox=>by
  have hcl2:∀ j,j < (n+1)*9->(w.cell? ⟨b,0+j,none⟩).isSome=true:=fun j hj=>by
   rw[Nat.zero_add,Go.cell_of_row w b _ cur t f hb,Array.getElem?_eq_getElem (by omega)];rfl
  have hvs:0 < curv.size:=by
   have h0:=hxs 0 _ (List.getElem?_eq_getElem (by omega))
   exact(Array.getElem?_eq_some_iff.1 h0).1
  refine (Tryz.ins9_shift b 0 n c k vb 0 1 vc cs xs w hk (by omega) (by omega) (by omega) hne hcl (by omega) (fun j v hj=>by rw[Nat.zero_add,Go.cell_of_row w b _ cur t f hb];exact hcs j v hj) hcl2 (fun j hj=>?_) (fun j v hj=>by rw[Nat.zero_add,Go.cell_of_row w vb _ curv Go.AM.Pe (0,0) hv];exact hxs j v hj) oc ox Go.AM.Pe t curv.size cur.size
   (by unfold World.shape?;rw[hv]) (by unfold World.shape?;rw[hb]) (by omega) ?_ ?_).mono ?_
  ·rw[Nat.zero_add];exact Go.AM.TZ w b _ cur t f hb hf (by omega)
  ·exact Go.AM.TZ w vb _ curv Go.AM.Pe (0,0) hv (.inl rfl) hvs
  ·simp only[World.frozen?,hv];simp
  ·rintro e w' ⟨rfl,rfl⟩
   exact⟨rfl,by simp only[Nat.zero_add]⟩}
end Go.Proofs
