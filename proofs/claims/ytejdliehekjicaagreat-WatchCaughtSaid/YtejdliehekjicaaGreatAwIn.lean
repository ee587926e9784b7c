import Derived.Test.YtejdliehekjicaaGreatAwWl
import Derived.Test.YtejdliehekjicaaGreatProg
import GoSem.ClaimJoined
import Derived.ChangeArms
import Derived.KernelRfl
set_option maxRecDepth 100000
namespace Go.AM.D32
open Go Go.AM Go.Proofs
section
variable {H:Type} {enc:TypeId × Value->H} {E:Env} {w:World}
theorem lt_of_cell{a:Addr}{x:Value}(h:w.cell? a=some x):a.block < w.heap.size:=by
 unfold World.cell? at h
 cases hb:w.heap[a.block]? with
 | none=>rw[hb] at h;cases h
 | some o=>exact(Qv.1 hb).1
theorem cells_at{a:Addr}{z:Nat}{cs:List Value}(h:w.cells? 0 a z=some cs):cs.length=z/\∀ i,i < z->w.cell? (a.add i)=cs[i]?:=by
 unfold World.cells? at h
 rw[Qm (X3 _)] at h
 exact⟨by simpa using mapM_some_length h,fun i hi=>mapM_some_get h i i (by simp[hi])⟩
theorem rvMem_app{a:Addr}:∀(l:List AV) (i:Nat) (l':List AV),V3 E w a i l->V3 E w a (i+l.length) l'->V3 E w a i (l++l')
 | [],i,l',_,h=>by simpa using h
 | c::l,i,l',⟨h1,h2⟩,h=>⟨h1,rvMem_app l (i+1) l' h2 (by
   have e:i+1+l.length=i+(c::l).length:=by simp only[QC];omega
   rw[e];exact h)⟩
theorem rvMem_of{a:Addr}:∀(l:List AV) (cs:List Value) (i:Nat),(∀ j,j < cs.length->w.cell? (a.add (i+j))=cs[j]?)->R2 E w l cs->V3 E w a i l
 | [],cs,i,_,_=>trivial
 | c::l,cs,i,h,hv=>by
  obtain⟨x,xs,rfl,h1,h2⟩:=hv
  refine⟨⟨x,by simpa using h 0 (by simp),h1⟩,rvMem_of l xs (i+1) (fun j hj=>?_) h2⟩
  have:=h (j+1) (by simpa using hj)
  rw[show i+1+j=i+(j+1) by omega,this];simp
theorem rvL_app:∀(l:List AV) (cs:List Value) (l':List AV) (cn:List Value),R2 E w l cs->R2 E w l' cn->R2 E w (l++l') (cs++cn)
 | [],cs,l',cn,h,h'=>by cases (show cs=[] from h);exact h'
 | c::l,cs,l',cn,h,h'=>by
  obtain⟨x,xs,rfl,h1,h2⟩:=h
  exact⟨x,xs++cn,rfl,h1,rvL_app l xs l' cn h2 h'⟩
def Y8(P:Program)(t:TypeId)(d:DataW H):Prop:=(d.weights P t).all (·<=reachBytes)=true
theorem fit_all{P:Program}{e:TypeId}:∀{ds:List (DataW H)},(DataW.weightsAll P e ds).all (·<=reachBytes)=true->∀ d∈ds,Y8 P e d
 | [],_,d,hd=>by simp at hd
 | x::ds,h,d,hd=>by
  unfold DataW.weightsAll at h
  rw[List.all_append,Qd] at h
  rcases Qx.1 hd with rfl | hd
  ·exact h.1
  ·exact fit_all h.2 d hd
theorem fit_each{P:Program}:∀{ts:List TypeId} {ds:List (DataW H)},(DataW.weightsEach P ts ds).all (·<=reachBytes)=true->∀(i:Nat) (t:TypeId) (d:DataW H),ts[i]?=some t->ds[i]?=some d->Y8 P t d
 | [],ds,_,i,t,d,ht,_=>by simp at ht
 | _::_,[],_,i,t,d,_,hd=>by simp at hd
 | u::ts,x::ds,h,i,t,d,ht,hd=>by
  unfold DataW.weightsEach at h
  rw[List.all_append,Qd] at h
  cases i with
  | zero=>simp at ht hd;subst ht;subst hd;exact h.1
  | succ i=>simp at ht hd;exact fit_each h.2 i t d ht hd
theorem Ym{P:Program}{t:TypeId}{fs:Array Field}{ds:List (DataW H)}(ht:P.underlying t=some (.struct fs))(h:Y8 P t (.agg ds))(i:Nat)(f:Field)(d:DataW H)(hf:fs[i]?=some f)(hd:ds[i]?=some d):Y8 P f.type d:=by
 unfold Y8 DataW.weights at h
 rw[ht] at h
 exact fit_each h i f.type d (by rw[Q5,X7,hf];rfl) hd
theorem Kh{T:Type}{cells:T->List AV}{ok:T->Prop}{P:Program}{e t:TypeId}{z:Nat}(hE:∀ b,b < w.heap.size->E.Fz b)(hz:0 < z)(hc:P.cellsOf e=z)(Bs:1<=P.bytesOf e)(h3:∀ t,ok t->(cells t).length=z)(ht:P.underlying t=some (.slice e)){fuel:Nat}
  (IH:∀ n,n < fuel->∀ cs x,DataW.trod enc P w 0 (fun _=>true) true n e cs=some x->Y8 P e x.1->∃ t,ok t/\R2 E w (cells t) cs) {cs:List Value} {x:DataW H × List MemPlace} (h:DataW.trod enc P w 0 (fun _=>true) true fuel t cs=some x) (hw:Y8 P t x.1):
  ∃ (nl ex:Bool) (l:List T) (v:Value),cs=[v]/\(nl=true->l=[])/\l.length<=140737488351232/\(∀ t∈l,ok t)/\Rv E w (V7 nl ex (l.map cells)) v:=by
 rcases DataW.trod_slice ht h with⟨rfl,_⟩|⟨a,len,cap,elems,rest,n,rfl,rfl,rfl,_,hl,eV,al,de,_,_⟩
 ·exact⟨true,true,[],_,rfl,fun _=>rfl,by simp,by simp,rfl⟩
 ·unfold Y8 DataW.weights at hw
  rw[ht] at hw
  simp only[QN,List.all_append,Qd,QF,Qu] at hw
  obtain⟨wC,mP,_⟩:=hw
  have lV:elems.length<=140737488351232:=by
   have h1:(elems.length+rest.length)*1<=(elems.length+rest.length)*P.bytesOf e:=Nat.mul_le_mul_left _ Bs
   have h2:reachBytes=140737488351232:=by decide
   omega
  have key:∀ k i,i+k=len->∃ l:List T,l.length=k/\(∀ t∈l,ok t)/\V3 E w a (i*z) (l.map cells).flatten/\(k≠0->E.Fz a.block):=by
   intro k
   induction k with
   | zero=>intro i _;exact⟨[],rfl,by simp,trivial,fun h=>absurd rfl h⟩
   | succ k ih=>
    intro i hi
    obtain⟨l,h1,h2,h4,_⟩:=ih (i+1) (by omega)
    have cj:=de i (by omega)
    have hs:∃ y,elems[i]?=some y:=⟨elems[i]'(by omega),Qn (by omega)⟩
    obtain⟨y,hy⟩:=hs
    rw[hy,hc] at cj
    obtain⟨cs,aY,Bt⟩:=Qh.1 cj
    obtain⟨t,bc,iF⟩:=IH n (by omega) cs y Bt (fit_all mP _ (List.mem_map_of_mem (Qr hy)))
    obtain⟨bB,rP⟩:=cells_at aY
    have bv:E.Fz a.block:=hE _ (by
     have cP:=rP 0 hz
     rw[Qn (by omega)] at cP
     have:=lt_of_cell cP
     rw[Si,Si] at this;exact this)
    refine⟨t::l,by simp[h1],fun x hx=>?_,?_,fun _=>bv⟩
    ·rcases Qx.1 hx with rfl | hx
     ·exact bc
     ·exact h2 x hx
    ·simp only[Q4,Xc]
     refine rvMem_app _ _ _ (rvMem_of _ cs _ (fun j hj=>?_) iF) ?_
     ·have:=rP j (by omega)
      rw[add_add] at this;exact this
     ·rw[h3 t bc,show i*z+z=(i+1)*z by rw[Xv,Nat.one_mul]];exact h4
  obtain⟨l,h1,h2,h4,h5⟩:=key len 0 (by omega)
  refine⟨false,decide (cap=len),l,_,rfl,(fun h=>nomatch h),by omega,h2,?_⟩
  simp only[V7,Qq]
  refine⟨a,cap,?_,?_,fun h=>by have:=ZD h;simp[h1,this],fun az=>h5 (fun h0=>?_),?_⟩
  ·simp[h1]
  ·simpa [h1] using hl
  ·rw[h0] at h1
   obtain rfl:=XY h1
   exact az rfl
  ·simpa using h4
theorem okL_of{l:List Tm}(h:∀ t∈l,t.ok):Tm.okL l:=by
 induction l with
 | nil=>trivial
 | cons t l ih=>exact⟨h t (by simp),ih fun x hx=>h x (by simp[hx])⟩
theorem dokL_of{l:List Dv}(h:∀ t∈l,t.ok):Dv.okL l:=by
 induction l with
 | nil=>trivial
 | cons t l ih=>exact⟨h t (by simp),ih fun x hx=>h x (by simp[hx])⟩
theorem cl108:Tryz.prog.cellsOf 108=3:=by decide +kernel
theorem cl42:Tryz.prog.cellsOf 42=3:=by decide +kernel
theorem cl39:Tryz.prog.cellsOf 39=2:=by decide +kernel
theorem cl50:Tryz.prog.cellsOf 50=9:=by decide +kernel
theorem cl48:Tryz.prog.cellsOf 48=1:=by decide +kernel
theorem cl25:Tryz.prog.cellsOf 25=3:=by decide +kernel
theorem cl3:Tryz.prog.cellsOf 3=1:=by decide +kernel
theorem cl37:Tryz.prog.cellsOf 37=1:=by decide +kernel
theorem cl40:Tryz.prog.cellsOf 40=1:=by decide +kernel
theorem cl22:Tryz.prog.cellsOf 22=1:=by decide +kernel
theorem cl23:Tryz.prog.cellsOf 23=1:=by decide +kernel
theorem by108:1<=Tryz.prog.bytesOf 108:=by decide +kernel
theorem by42:1<=Tryz.prog.bytesOf 42:=by decide +kernel
theorem by50:1<=Tryz.prog.bytesOf 50:=by decide +kernel
theorem by48:1<=Tryz.prog.bytesOf 48:=by decide +kernel
theorem by23:1<=Tryz.prog.bytesOf 23:=by decide +kernel
theorem by3:1<=Tryz.prog.bytesOf 3:=by decide +kernel
theorem len3{cs:List Value}(h:cs.length=3):∃ x y z,cs=[x,y,z]:=by
 match cs,h with
 | [x,y,z],_=>exact⟨x,y,z,rfl⟩
theorem YL{T:Type}{xs:List T}{n:Nat}(h:xs.length=n)(i:Nat)(hi:i < n):∃ y,xs[i]?=some y:=⟨xs[i]'(by omega),Qn (by omega)⟩
theorem mp_of{xs:List (DataW H × List MemPlace)}{i:Nat}{y:DataW H × List MemPlace}(h:xs[i]?=some y):(xs.map (·.1))[i]?=some y.1:=by rw[Q5,h];rfl
theorem tm_in(hE:∀ b,b < w.heap.size->E.Fz b):∀(fuel:Nat) (cs:List Value) (x:DataW H × List MemPlace),DataW.trod enc Tryz.prog w 0 (fun _=>true) true fuel 108 cs=some x->Y8 Tryz.prog 108 x.1->∃ t:Tm,t.ok/\R2 E w t.cells cs:=by
 intro fuel
 induction fuel using Nat.strongRecOn with
 | _ fuel ih=>
 intro cs x h hw
 obtain⟨xs,n,rfl,rfl,al,bn,hf⟩:=DataW.trod_struct Tryz.underlying108 h
 rw[cl108] at al
 obtain⟨p,q,r,rfl⟩:=len3 al
 have bn:xs.length=3:=bn
 obtain⟨y0,m9⟩:=YL bn 0 (by decide)
 obtain⟨y1,bd⟩:=YL bn 1 (by decide)
 obtain⟨y2,eX⟩:=YL bn 2 (by decide)
 have f0:DataW.trod enc Tryz.prog w 0 (fun _=>true) true n 3 (([p,q,r].drop 0).take (Tryz.prog.cellsOf 3))=xs[0]?:=hf 0 _ rfl
 have f1:DataW.trod enc Tryz.prog w 0 (fun _=>true) true n 3 (([p,q,r].drop 1).take (Tryz.prog.cellsOf 3))=xs[1]?:=hf 1 _ rfl
 have f2:DataW.trod enc Tryz.prog w 0 (fun _=>true) true n 37 (([p,q,r].drop 2).take (Tryz.prog.cellsOf 37))=xs[2]?:=hf 2 _ rfl
 have w2:Y8 Tryz.prog 37 y2.1:=Ym Tryz.underlying108 hw 2 _ _ rfl (mp_of eX)
 simp only[cl3,cl37,Xw,XH,Xf,Xe] at f0 f1 f2
 rw[m9] at f0
 rw[bd] at f1
 rw[eX] at f2
 obtain⟨k,e0,_⟩:=DataW.trod_int Tryz.underlying3 f0
 obtain⟨m,e1,Cf⟩:=DataW.trod_int Tryz.underlying3 f1
 obtain⟨nl,ex,l,v,e2,hn,hl,bc,iF⟩:=Kh (cells:=Tm.cells) (ok:=Tm.ok) (z:=3) hE (by decide) cl108 by108 (fun t _=>t.cells3.1) Tryz.underlying37 (fun n' lL=>ih n' (by omega)) f2 w2
 obtain rfl:=(Xi e0).1
 obtain rfl:=(Xi e1).1
 obtain rfl:=(Xi e2).1
 refine⟨.mk k m nl ex l,?_,?_⟩
 ·simp only[Tm.ok]
  exact⟨hn,by omega,okL_of bc⟩
 ·simp only[Tm.cells,Tm.cellsL_eq]
  exact⟨_,_,rfl,rfl,_,_,rfl,rfl,_,_,rfl,iF,rfl⟩
theorem dv_in(hE:∀ b,b < w.heap.size->E.Fz b):∀(fuel:Nat) (cs:List Value) (x:DataW H × List MemPlace),DataW.trod enc Tryz.prog w 0 (fun _=>true) true fuel 42 cs=some x->Y8 Tryz.prog 42 x.1->∃ t:Dv,t.ok/\R2 E w t.cells cs:=by
 intro fuel
 induction fuel using Nat.strongRecOn with
 | _ fuel ih=>
 intro cs x h hw
 obtain⟨xs,n,rfl,rfl,al,bn,hf⟩:=DataW.trod_struct Tryz.underlying42 h
 rw[cl42] at al
 obtain⟨p,q,r,rfl⟩:=len3 al
 have bn:xs.length=3:=bn
 obtain⟨y0,m9⟩:=YL bn 0 (by decide)
 obtain⟨y1,bd⟩:=YL bn 1 (by decide)
 obtain⟨y2,eX⟩:=YL bn 2 (by decide)
 have f0:DataW.trod enc Tryz.prog w 0 (fun _=>true) true n 3 (([p,q,r].drop 0).take (Tryz.prog.cellsOf 3))=xs[0]?:=hf 0 _ rfl
 have f1:DataW.trod enc Tryz.prog w 0 (fun _=>true) true n 37 (([p,q,r].drop 1).take (Tryz.prog.cellsOf 37))=xs[1]?:=hf 1 _ rfl
 have f2:DataW.trod enc Tryz.prog w 0 (fun _=>true) true n 40 (([p,q,r].drop 2).take (Tryz.prog.cellsOf 40))=xs[2]?:=hf 2 _ rfl
 have w1:Y8 Tryz.prog 37 y1.1:=Ym Tryz.underlying42 hw 1 _ _ rfl (mp_of bd)
 have w2:Y8 Tryz.prog 40 y2.1:=Ym Tryz.underlying42 hw 2 _ _ rfl (mp_of eX)
 simp only[cl3,cl37,cl40,Xw,XH,Xf,Xe] at f0 f1 f2
 rw[m9] at f0
 rw[bd] at f1
 rw[eX] at f2
 obtain⟨k,e0,_⟩:=DataW.trod_int Tryz.underlying3 f0
 obtain⟨aP,aM,l1,v1,e1,dg,oO,wj,wk⟩:=Kh (cells:=Tm.cells) (ok:=Tm.ok) (z:=3) hE (by decide) cl108 by108 (fun t _=>t.cells3.1) Tryz.underlying37 (fun n' _=>tm_in hE n') f1 w1
 obtain⟨nl,ex,l,v,e2,hn,hl,bc,iF⟩:=Kh (cells:=Dv.cells) (ok:=Dv.ok) (z:=3) hE (by decide) cl42 by42 (fun t _=>t.cells3.1) Tryz.underlying40 (fun n' lL=>ih n' (by omega)) f2 w2
 obtain rfl:=(Xi e0).1
 obtain rfl:=(Xi e1).1
 obtain rfl:=(Xi e2).1
 refine⟨.mk k aP aM l1 nl ex l,?_,?_⟩
 ·simp only[Dv.ok]
  exact⟨dg,by omega,okL_of wj,hn,by omega,dokL_of bc⟩
 ·simp only[Dv.cells,Tm.cellsL_eq,Dv.cellsL_eq]
  exact⟨_,_,rfl,rfl,_,_,rfl,wk,_,_,rfl,iF,rfl⟩
theorem int_in(n:Nat)(cs:List Value)(x:DataW H × List MemPlace)(h:DataW.trod enc Tryz.prog w 0 (fun _=>true) true n 3 cs=some x):∃ i:Int,True/\R2 E w [.int .i64 i] cs:=by
 obtain⟨k,rfl,_⟩:=DataW.trod_int Tryz.underlying3 h
 exact⟨k,trivial,_,_,rfl,rfl,rfl⟩
theorem flat1{T:Type}(f:T->AV)(l:List T):(l.map fun i=>[f i]).flatten=l.map f:=by
 induction l with
 | nil=>rfl
 | cons x l ih=>simp[ih]
theorem slAV_int(nl ex:Bool)(l:List Int):V7 nl ex (l.map fun i=>[AV.int .i64 i])=slI nl ex l:=by
 unfold V7 slI
 rw[flat1,Qu]
theorem slN_of{z:Nat}{nl ex:Bool}{xs:List (List AV)}(hz:0 < z)(hn:nl=true->xs=[])(hl:xs.length<=4611686018427387904)(h:∀ x∈xs,x.length=z/\x.all AV.one=true)(st:St):RB z (fun _=>False) st (V7 nl ex xs) xs:=by
 refine⟨hz,h,hl,?_⟩
 cases nl with
 | true=>exact .inl ⟨rfl,hn rfl⟩
 | false=>exact .inr (.inl ⟨ex,rfl⟩)
theorem en_in(hE:∀ b,b < w.heap.size->E.Fz b)(fuel:Nat)(cs:List Value)(x:DataW H × List MemPlace)(h:DataW.trod enc Tryz.prog w 0 (fun _=>true) true fuel 50 cs=some x)(hw:Y8 Tryz.prog 50 x.1):∃ e:En,e.ok/\R2 E w e.cells cs:=by
 obtain⟨xs,n,rfl,rfl,al,bn,hf⟩:=DataW.trod_struct Tryz.underlying50 h
 rw[cl50] at al
 obtain⟨c0,c1,c2,c3,c4,c5,c6,c7,c8,rfl⟩:∃ c0 c1 c2 c3 c4 c5 c6 c7 c8,cs=[c0,c1,c2,c3,c4,c5,c6,c7,c8]:=by
  match cs,al with
  | [c0,c1,c2,c3,c4,c5,c6,c7,c8],_=>exact⟨_,_,_,_,_,_,_,_,_,rfl⟩
 have bn:xs.length=6:=bn
 obtain⟨y0,m9⟩:=YL bn 0 (by decide)
 obtain⟨y1,bd⟩:=YL bn 1 (by decide)
 obtain⟨y2,eX⟩:=YL bn 2 (by decide)
 obtain⟨y3,oQ⟩:=YL bn 3 (by decide)
 obtain⟨y4,xJ⟩:=YL bn 4 (by decide)
 obtain⟨y5,xK⟩:=YL bn 5 (by decide)
 have f0:DataW.trod enc Tryz.prog w 0 (fun _=>true) true n 3 (([c0,c1,c2,c3,c4,c5,c6,c7,c8].drop 0).take (Tryz.prog.cellsOf 3))=xs[0]?:=hf 0 _ rfl
 have f1:DataW.trod enc Tryz.prog w 0 (fun _=>true) true n 3 (([c0,c1,c2,c3,c4,c5,c6,c7,c8].drop 1).take (Tryz.prog.cellsOf 3))=xs[1]?:=hf 1 _ rfl
 have f2:DataW.trod enc Tryz.prog w 0 (fun _=>true) true n 3 (([c0,c1,c2,c3,c4,c5,c6,c7,c8].drop 2).take (Tryz.prog.cellsOf 3))=xs[2]?:=hf 2 _ rfl
 have f3:DataW.trod enc Tryz.prog w 0 (fun _=>true) true n 39 (([c0,c1,c2,c3,c4,c5,c6,c7,c8].drop 3).take (Tryz.prog.cellsOf 39))=xs[3]?:=hf 3 _ rfl
 have f4:DataW.trod enc Tryz.prog w 0 (fun _=>true) true n 42 (([c0,c1,c2,c3,c4,c5,c6,c7,c8].drop 5).take (Tryz.prog.cellsOf 42))=xs[4]?:=hf 4 _ rfl
 have f5:DataW.trod enc Tryz.prog w 0 (fun _=>true) true n 23 (([c0,c1,c2,c3,c4,c5,c6,c7,c8].drop 8).take (Tryz.prog.cellsOf 23))=xs[5]?:=hf 5 _ rfl
 have w3:Y8 Tryz.prog 39 y3.1:=Ym Tryz.underlying50 hw 3 _ _ rfl (mp_of oQ)
 have w4:Y8 Tryz.prog 42 y4.1:=Ym Tryz.underlying50 hw 4 _ _ rfl (mp_of xJ)
 have w5:Y8 Tryz.prog 23 y5.1:=Ym Tryz.underlying50 hw 5 _ _ rfl (mp_of xK)
 simp only[cl3,cl39,cl42,cl23,Xw,XH,Xf,Xe] at f0 f1 f2 f3 f4 f5
 rw[m9] at f0
 rw[bd] at f1
 rw[eX] at f2
 rw[oQ] at f3
 rw[xJ] at f4
 rw[xK] at f5
 obtain⟨k0,e0,_⟩:=DataW.trod_int Tryz.underlying3 f0
 obtain⟨k1,e1,_⟩:=DataW.trod_int Tryz.underlying3 f1
 obtain⟨k2,e2,_⟩:=DataW.trod_int Tryz.underlying3 f2
 -- the label
 obtain⟨zs,n3,rfl,fV,_,aT,hg⟩:=DataW.trod_struct Tryz.underlying39 f3
 have aT:zs.length=2:=aT
 obtain⟨z0,gX⟩:=YL aT 0 (by decide)
 obtain⟨z1,mp⟩:=YL aT 1 (by decide)
 have g0:DataW.trod enc Tryz.prog w 0 (fun _=>true) true n3 3 (([c3,c4].drop 0).take (Tryz.prog.cellsOf 3))=zs[0]?:=hg 0 _ rfl
 have g1:DataW.trod enc Tryz.prog w 0 (fun _=>true) true n3 37 (([c3,c4].drop 1).take (Tryz.prog.cellsOf 37))=zs[1]?:=hg 1 _ rfl
 rw[fV] at w3
 have v1:Y8 Tryz.prog 37 z1.1:=Ym Tryz.underlying39 w3 1 _ _ rfl (mp_of mp)
 simp only[cl3,cl37,Xw,XH,Xf,Xe] at g0 g1
 rw[gX] at g0
 rw[mp] at g1
 obtain⟨k3,e3,_⟩:=DataW.trod_int Tryz.underlying3 g0
 obtain⟨vnl,vex,vals,v,e4,Bu,dq,wl,Bv⟩:=Kh (cells:=Tm.cells) (ok:=Tm.ok) (z:=3) hE (by decide) cl108 by108 (fun t _=>t.cells3.1) Tryz.underlying37 (fun n' _=>tm_in hE n') g1 v1
 obtain⟨d,wm,bH⟩:=dv_in hE _ _ _ f4 w4
 obtain⟨snl,sex,seen,u,e5,Bw,aD,_,lP⟩:=Kh (cells:=fun i:Int=>[AV.int .i64 i]) (ok:=fun _=>True) (z:=1) hE (by decide) cl3 by3 (fun t _=>rfl) Tryz.underlying23 (fun n' _ cs x h _=>int_in n' cs x h) f5 w5
 rw[slAV_int] at lP
 obtain rfl:=(Xi e0).1
 obtain rfl:=(Xi e1).1
 obtain rfl:=(Xi e2).1
 obtain rfl:=(Xi e3).1
 obtain rfl:=(Xi e4).1
 obtain rfl:=(Xi e5).1
 refine⟨⟨k0,k1,k2,k3,vnl,vex,vals,d,snl,sex,seen⟩,⟨Bu,by show vals.length<=_;omega,okL_of wl,wm,Bw,by show seen.length<=_;omega⟩,?_⟩
 unfold En.cells En.vsl En.ssl
 simp only[Tm.cellsL_eq]
 exact rvL_app _ [_,_,_,_,_,c5,c6,c7] _ [_] (rvL_app _ [_,_,_,_,_] _ [c5,c6,c7] ⟨_,_,rfl,rfl,_,_,rfl,rfl,_,_,rfl,rfl,_,_,rfl,rfl,_,_,rfl,Bv,rfl⟩ bH) ⟨_,_,rfl,lP,rfl⟩
theorem layout_in(hE:∀ b,b < w.heap.size->E.Fz b){v:Value}{d:DataW H}{ps:List MemPlace}(h:DataW.Trod enc Tryz.prog w 0 (fun _=>true) true 25 v d ps)(hw:Y8 Tryz.prog 25 d):
  ∃ (lv pv:AV) (ls:List (List AV)) (qs:List Int) (N:Int),(∀ st,RB 1 (fun _=>False) st lv ls)/\(∀ st,RE (fun _=>False) st pv qs)/\Rv E w (.agg [lv,pv,.int .i64 N]) v:=by
 obtain⟨fuel,h⟩:=h
 obtain⟨xs,n,rfl,hx,al,bn,hf⟩:=DataW.trod_struct Tryz.underlying25 h
 obtain⟨rfl,_⟩:=Prod.mk.inj hx
 rw[cl25] at al
 obtain⟨p,q,r,hv⟩:=len3 al
 have bn:xs.length=3:=bn
 obtain⟨y0,m9⟩:=YL bn 0 (by decide)
 obtain⟨y1,bd⟩:=YL bn 1 (by decide)
 obtain⟨y2,eX⟩:=YL bn 2 (by decide)
 rw[hv] at hf
 have f0:DataW.trod enc Tryz.prog w 0 (fun _=>true) true n 22 (([p,q,r].drop 0).take (Tryz.prog.cellsOf 22))=xs[0]?:=hf 0 _ rfl
 have f1:DataW.trod enc Tryz.prog w 0 (fun _=>true) true n 23 (([p,q,r].drop 1).take (Tryz.prog.cellsOf 23))=xs[1]?:=hf 1 _ rfl
 have f2:DataW.trod enc Tryz.prog w 0 (fun _=>true) true n 3 (([p,q,r].drop 2).take (Tryz.prog.cellsOf 3))=xs[2]?:=hf 2 _ rfl
 have w0:Y8 Tryz.prog 22 y0.1:=Ym Tryz.underlying25 hw 0 _ _ rfl (mp_of m9)
 have w1:Y8 Tryz.prog 23 y1.1:=Ym Tryz.underlying25 hw 1 _ _ rfl (mp_of bd)
 simp only[cl3,cl22,cl23,Xw,XH,Xf,Xe] at f0 f1 f2
 rw[m9] at f0
 rw[bd] at f1
 rw[eX] at f2
 obtain⟨N,e2,_⟩:=DataW.trod_int Tryz.underlying3 f2
 obtain⟨By,tX,l0,v0,e0,gO,d3,wo,mU⟩:=Kh (T:=AV) (cells:=fun a=>[a]) (ok:=fun a=>AV.one a=true) (z:=1) hE (by decide) cl23 by23 (fun t _=>rfl) Tryz.underlying22 (fun n' _ cs x h hw=>by
  obtain⟨nl,ex,l,v,rfl,_,_,_,hr⟩:=Kh (cells:=fun i:Int=>[AV.int .i64 i]) (ok:=fun _=>True) (z:=1) hE (by decide) cl3 by3 (fun t _=>rfl) Tryz.underlying23 (fun n' _ cs x h _=>int_in n' cs x h) h hw
  exact⟨_,by unfold V7;cases nl<;>rfl,_,_,rfl,hr,rfl⟩) f0 w0
 obtain⟨aP,aM,l1,v1,e1,dg,oO,_,gy⟩:=Kh (cells:=fun i:Int=>[AV.int .i64 i]) (ok:=fun _=>True) (z:=1) hE (by decide) cl3 by3 (fun t _=>rfl) Tryz.underlying23 (fun n' _ cs x h _=>int_in n' cs x h) f1 w1
 obtain rfl:=(Xi e0).1
 obtain rfl:=(Xi e1).1
 obtain rfl:=(Xi e2).1
 refine⟨V7 By tX (l0.map fun a=>[a]),V7 aP aM (l1.map fun i=>[AV.int .i64 i]),l0.map fun a=>[a],l1,N,fun st=>slN_of (by decide) (fun h=>by rw[gO h];rfl) (by rw[Qu];omega) (fun x hx=>?_) st,fun st=>?_,?_⟩
 ·obtain⟨a,ha,rfl⟩:=Q6.1 hx
  exact⟨rfl,by simp[wo a ha]⟩
 ·show RB 1 _ st _ ((l1.map (AV.int .i64)).map fun x=>[x])
  rw[Xq]
  exact slN_of (by decide) (fun h=>by rw[dg h];rfl) (by rw[Qu];omega) (fun x hx=>by
   obtain⟨a,_,rfl⟩:=Q6.1 hx
   exact⟨rfl,rfl⟩) st
 ·cases v with
  | agg zs=>
   have hz:zs.toList=_:=hv
   exact⟨zs,rfl,by rw[hz];exact⟨_,_,rfl,mU,_,_,rfl,gy,_,_,rfl,rfl,rfl⟩⟩
  | _=>simp[Value.cells] at hv
theorem jour_in(hE:∀ b,b < w.heap.size->E.Fz b){v:Value}{d:DataW H}{ps:List MemPlace}(hv:v.cells.toList=[v])(h:DataW.Trod enc Tryz.prog w 0 (fun _=>true) true 26 v d ps)(hw:Y8 Tryz.prog 26 d):
  ∃ (jv:AV) (js:List (AV × List En)),(∀ st,YQ (fun _=>False) st jv js)/\Rv E w jv v:=by
 obtain⟨fuel,h⟩:=h
 obtain⟨nl,ex,l,u,e0,hn,hl,bc,hr⟩:=Kh (T:=AV × List En) (cells:=fun p=>[p.1]) (ok:=fun p=>AV.one p.1=true/\(∀ st,RB 9 (fun _=>False) st p.1 (p.2.map En.cells))/\∀ e∈p.2,e.ok) (z:=1) hE (by decide) cl48 by48 (fun t _=>rfl) Tryz.underlying26 (fun n' _ cs x h hw=>by
  obtain⟨nl,ex,l,v,rfl,hn,hl,bc,hr⟩:=Kh (cells:=En.cells) (ok:=En.ok) (z:=9) hE (by decide) cl50 by50 (fun t _=>t.cells9.1) Tryz.underlying48 (fun n' _=>en_in hE n') h hw
  exact⟨(V7 nl ex (l.map En.cells),l),⟨by unfold V7;cases nl<;>rfl,fun st=>slN_of (by decide) (fun h=>by rw[hn h];rfl) (by rw[Qu];omega) (fun x hx=>by
   obtain⟨a,_,rfl⟩:=Q6.1 hx
   exact a.cells9) st,bc⟩,_,_,rfl,hr,rfl⟩) h hw
 rw[hv] at e0
 obtain rfl:=(Xi e0).1
 refine⟨V7 nl ex (l.map fun p=>[p.1]),l,fun st=>⟨slN_of (by decide) (fun h=>by rw[hn h];rfl) (by rw[Qu];omega) (fun x hx=>?_) st,fun p hp=>⟨(bc p hp).2.1 st,(bc p hp).2.2⟩⟩,hr⟩
 obtain⟨a,ha,rfl⟩:=Q6.1 hx
 exact⟨rfl,by simp[(bc a ha).1]⟩
end
end Go.AM.D32
