import Derived.Test.YtejdliehekjicaaGreatAwWa22
set_option maxRecDepth 100000
set_option linter.unusedSimpArgs false
namespace Go.AM.D32
open Go Go.AM
noncomputable section
open Nat renaming reduceEqDiff -> rQ, reduceAdd -> rA
theorem avPtr(i o:Nat):V8 (.ptr i o) (.ptr i o)=true:=by simp only[V8,QD,Bool.and_self]
theorem bu3(a b:Int){v:AV}(hv:AV.one v=true):VN [Z0,Z0,.nilsl] [(0,1,.int .i64 a),(1,1,.int .i64 b),(2,1,v)]=some [.int .i64 a,.int .i64 b,v]:=by
 have h:=one_cells hv
 have h1:(AV.int .i64 a).cells=[.int .i64 a]:=rfl
 have h2:(AV.int .i64 b).cells=[.int .i64 b]:=rfl
 simp[VN,h,h1,h2,setCells,Nat.ble]
def wg98_0:List Vc:=[ZM 2 (.c .nilsl)]
def wg98_1:List Vc:=[ZM 3 (.c .nilsl)]
def wg98_2:List Vc:=[ZV 6 0,ZN 7 6,ZM 8 (ZC 0)]
def wg98_3:List Vc:=[ZO 9 (.bin false .lss (.t 8) (.t 7))]
def wg98_4:List Vc:=[ZP 10 3 6 8,ZK 11 3 10,ZO 5 (.alloc [Z0,Z0,.nilsl]),ZS 3 5 11]
def Tx:List (Vc × Nat):=[(ZV 12 3,0),(ZA 13 0 5,0),(ZL 14 13,2),(ZA 15 1 5,0),(ZL 16 15,8),(ZA 17 2 5,0),(ZL 18 17,32),(ZX 19 98 [(.t 18)],96),(ZO 20 (.build [Z0,Z0,.nilsl] [(0,1,(.t 14)),(1,1,(.t 16)),(2,1,(.t 19))]),254),(ZO 21 (.bslice 1 [Z0,Z0,.nilsl] [(0,3,(.t 20))]),510),(ZO 22 (.append 40 3 none (.t 12) (.t 21)),1023),(ZV 3 22,2047)]
def wg98_6:List Vc:=[ZO 23 (.bin false .add (.t 8) (ZC 1)),ZV 8 23]
def wg98_7:List Vc:=[ZV 24 3,ZV 2 24]
def TB:Vn:=(ZQ wg98_3 (.seq (.cond (.t 9) .skip (.exit 0)) (.seq (.block 1 (ZQ wg98_4 (.draw Tx [(2,some 7),(2,some 10),(4,some 7),(4,some 10)]))) (.region wg98_6))))
def wf98:Vm:=⟨25,(ZQ wg98_0 (ZQ wg98_1 (.seq (ZQ wg98_2 (.block 0 (.loop TB))) (ZR wg98_7)))),[.t 2]⟩
theorem t98:tbl 98=some wf98:=by kernel_rfl
theorem terms98_run:∀(n:Nat) (l:List Tm) (m:Nat) (Y:Vi),Tm.fzL l+l.length=n->n+2 < m->shL l=true->l.length<=1000->∀(F:Nat->Prop) (st:St) (sl:AV) (xs:List (List AV)),SlR F st sl xs->Vy F st l xs->(∀ i,F i->i < st.next) ->
  ∃ sl' xs' st',R m Y 98 [sl] st=.ret sl' st'/\Vd st st'/\SlR (fun i=>st.next<=i/\i < st'.next) st' sl' xs'/\Vy (fun i=>st.next<=i/\i < st'.next) st' l xs':=by
 intro n
 induction n using Nat.strongRecOn with
 | _ n ih=>
 intro l m' Y hs hn hsh hlen F st sl xs hsl hrs hF
 obtain⟨m,rfl⟩:∃ m,m'=m+1:=⟨m' - 1,by omega⟩
 have hxl:=hrs.len
 have hln:=hsl.len st
 have hL:∀(fr:Fr),fr.ds=[]->fr.get 3=some .nilsl->fr.get 6=some sl->fr.get 7=some (ZI xs.length)->fr.get 8=some Z0 ->
   ∃ FR s' so xo G,Vx (ac m Y TB none) m fr st=.exit 0 FR s'/\FR.ds=[]/\FR.get 3=some so/\Vd st s'/\xo.length=xs.length/\Vy G s' l xo/\Gr st.next s' so xo G:=by
  intro fr d0 g3 g6 g7 g8
  refine Ws (B:=ac m Y TB none) (N:=xs.length) (Inv:=fun k f s=>f.ds=[]/\f.get 6=some sl/\f.get 7=some (ZI xs.length)/\f.get 8=some (ZI k)/\Vd st s/\∃ so xo G,f.get 3=some so/\xo.length=k/\Vy G s (l.take k) xo/\Gr st.next s so xo G)
   (Out:=fun r=>∃ FR s' so xo G,r=.exit 0 FR s'/\FR.ds=[]/\FR.get 3=some so/\Vd st s'/\xo.length=xs.length/\Vy G s' l xo/\Gr st.next s' so xo G) ?_ xs.length 0 fr st m (by omega) (by omega) ⟨d0,g6,g7,g8,Vd.refl st,.nilsl,[],_,g3,rfl,by simp[Vy],Gr.nil _ _⟩
  intro k f s hk ⟨d0,q6,q7,q8,hks,so,xo,G,q3,hxo,hro,hgr⟩
  have hlt:=Wt k xs.length
  by_cases hkN:k < xs.length
  ·obtain⟨t,ht,hdr⟩:=WR (l:=l) (k:=k) (by omega)
   obtain⟨x,hx,hrx⟩:=hrs.at ht
   have hsame:Vs F st s:=Vs.of hks hF
   obtain⟨p,ia,ld⟩:=hsl.at hx
   have ld:=ld s hsame
   obtain⟨s1,sto,ks,go,hnx⟩:=next_el s (zs:=[Z0,Z0,.nilsl]) rfl hrx.cells3
   have hmem:=Qr ht
   have hfz:=Tm.fzL_mem hmem
   have hF1:∀ i,F i->i < s1.next:=fun i hi=>Qz (hF i hi) (QY hks.1 ks.1)
   have hrx1:=hrx.mono (hsame.trans (Vs.of ks fun i hi=>Qz (hF i hi) hks.1)) fun _ h=>h
   have htake:l.take (k+1)=l.take k++[t]:=by rw[QT,ht];rfl
   have hsht:=shL_mem hsh t hmem
   cases t with
   | mk k1 n1 nl1 ex1 l1=>
   simp only[Tm.fz] at hfz
   obtain⟨hl8,hsl1⟩:=shT_mk hsht
   have hrx2:=hrx1
   simp only[We] at hrx2
   obtain⟨slx,xx,rfl,hslx,hrsx⟩:=hrx2
   obtain⟨sl1,x1,s2,hcall,ks2,hsl2,hrs2⟩:=ih (Tm.fzL l1+l1.length) (by omega) l1 m Y rfl (by omega) hsl1 (by omega) F s1 slx xx hslx hrsx hF1
   have hcall':((gT m).cg Y).fn 98 [slx] s1=.ret sl1 s2:=hcall
   have hk02:Vd s s2:=ks.trans ks2
   have o1:=hsl2.one
   obtain⟨so',s3,happ,hk3,hn3,sG,sG2,hgr'⟩:=hgr.app (bytes:=40) (y:=[.int .i64 k1,.int .i64 n1,sl1]) (G2:=fun i=>s1.next<=i/\i < s2.next) hks.1 (by omega) (by omega) hk02 ⟨rfl,by simp only[QN,QW,o1];rfl⟩ (fun i hi=>⟨by have:=ks.1;omega,hi.2⟩)
   have hk03:Vd st s3:=⟨by have:=hks.1;have:=hk02.1;omega,fun i hi=>by
    rw[hk3 i (by have:=hks.1;have:=hk02.1;omega) (fun e=>by
     rcases hgr.2.2 with⟨e',_⟩|⟨id,e',hid,_⟩
     ·rw[e'] at e;cases e
     ·rw[e'] at e;injection e with e1;omega),hk02.2 i (by have:=hks.1;omega),hks.2 i hi]⟩
   have hro':Vy (fun i=>G i\/s1.next<=i/\i < s2.next) s3 (l.take (k+1)) (xo++[[.int .i64 k1,.int .i64 n1,sl1]]):=by
    rw[htake]
    refine Vy.snoc (Vy.mono sG (fun i hi=>.inl hi) _ _ hro) ?_
    simp only[We]
    exact⟨sl1,x1,rfl,hsl2.mono sG2 fun i hi=>.inr hi,Vy.mono sG2 (fun i hi=>.inr hi) _ _ hrs2⟩
   have go2:s2.get s.next=some (.row [.int .i64 k1,.int .i64 n1,slx]):=(ks2.2 _ (by omega)).trans go
   have l0:Vf false 1 s1 (.ptr s.next 0)=some (.int .i64 k1):=Vk go rfl
   have l1':Vf false 1 s1 (.ptr s.next 1)=some (.int .i64 n1):=Vk go rfl
   have l2:Vf false 1 s1 (.ptr s.next 2)=some slx:=Vk go rfl
   have m0:Vf false 1 s2 (.ptr s.next 0)=some (.int .i64 k1):=Vk go2 rfl
   have m1:Vf false 1 s2 (.ptr s.next 1)=some (.int .i64 n1):=Vk go2 rfl
   have bu:=bu3 k1 n1 o1
   have fl:VN [Z0,Z0,.nilsl] [(0,3,.agg [.int .i64 k1,.int .i64 n1,sl1])]=some [.int .i64 k1,.int .i64 n1,sl1]:=rfl
   have had:=WC (i:=k) (by omega)
   rw[Qs hkN] at hlt
   obtain⟨J1,H1,O1_9⟩:∃ fr',ar m Y wg98_3 f s=.ok fr' s/\fr'.get 9=some (.bool true):=⟨_,by simp only[amE,rQ,↓reduceIte,rA,q7,q8,wg98_3,hlt]<;>rfl,gh⟩
   have V1_3:=ag H1 q3
   have V1_6:=ag H1 q6
   have V1_7:=ag H1 q7
   have V1_8:=ag H1 q8
   have W1:=ad H1 d0
   obtain⟨J2,H2,O2_5⟩:∃ fr',ar m Y wg98_4 J1 s=.ok fr' s1/\fr'.get 5=some (.ptr s.next 0):=⟨_,by simp only[amE,rQ,↓reduceIte,rA,V1_6,V1_8,wg98_4,ia,ld,sto]<;>rfl,gh⟩
   have V2_3:=ag H2 V1_3
   have V2_6:=ag H2 V1_6
   have V2_7:=ag H2 V1_7
   have V2_8:=ag H2 V1_8
   have W2:=ad H2 W1
   obtain⟨J3,H3,K3,O3_3⟩:∃ fr',VK ((gT m).cg Y) Tx [(2,some 7),(2,some 10),(4,some 7),(4,some 10)] J2 s1=.ok fr' s3/\Kp [6,7,8,9,5] J2 fr'/\fr'.get 3=some (so'):=by
    refine⟨?r30,?r31,?r32,?r3o3⟩
    case r31=>
     refine KB (its:=?r3i) ?r3x ?r3y ?r3z
     case r3x=>
      simp only[amE,rQ,↓reduceIte,rA,WH,WU,DR.cons,V5,VJ,VT,V2_3,O2_5,Tx,faP,l0,l1',l2,m0,m1,hcall',bu,fl,cnt1,happ,tag0]
      rfl
     case r3y=>rfl
     case r3z=>
      simp only[QN,QW,Qy,Qd]
      refine⟨Wo (i:=2) (k:=7) rfl rfl rfl rfl ?r3k0,Wo (i:=2) (k:=10) rfl rfl rfl rfl ?r3k1,Wo (i:=4) (k:=7) rfl rfl rfl rfl ?r3k2,Wo (i:=4) (k:=10) rfl rfl rfl rfl ?r3k3⟩
      case r3k0=>
       right
       refine⟨?r3s0,?r3l0,bint _⟩
       case r3l0=>
        simp only[amE,rQ,↓reduceIte,rA,V5,V2_3,O2_5,Tx,faP,l0,l1',l2,m0,m1,hcall',bu,fl,cnt1,happ,tag0]
        rfl
      case r3k1=>
       right
       refine⟨?r3s1,?r3l1,bint _⟩
       case r3l1=>
        simp only[amE,rQ,↓reduceIte,rA,V5,V2_3,O2_5,Tx,faP,l0,l1',l2,m0,m1,hcall',bu,fl,cnt1,happ,tag0]
        rfl
      case r3k2=>
       right
       refine⟨?r3s2,?r3l2,bint _⟩
       case r3l2=>
        simp only[amE,rQ,↓reduceIte,rA,V5,V2_3,O2_5,Tx,faP,l0,l1',l2,m0,m1,hcall',bu,fl,cnt1,happ,tag0]
        rfl
      case r3k3=>
       right
       refine⟨?r3s3,?r3l3,bint _⟩
       case r3l3=>
        simp only[amE,rQ,↓reduceIte,rA,V5,V2_3,O2_5,Tx,faP,l0,l1',l2,m0,m1,hcall',bu,fl,cnt1,happ,tag0]
        rfl
    case r32=>repeat (first | exact Kp.refl | refine Kp.set (by decide) ?_)
    case r3o3=>simp only[Fr.get_set,rQ,↓reduceIte]
   have V3_6:=K3.g 6 V2_6
   have V3_7:=K3.g 7 V2_7
   have V3_8:=K3.g 8 V2_8
   have W3:=K3.1.trans W2
   obtain⟨J4,H4,O4_8⟩:∃ fr',ar m Y wg98_6 J3 s3=.ok fr' s3/\fr'.get 8=some (ZI ((k+1))):=⟨_,by simp only[amE,rQ,↓reduceIte,rA,V3_8,wg98_6,had]<;>rfl,gh⟩
   have V4_6:=ag H4 V3_6
   have V4_7:=ag H4 V3_7
   have V4_3:=ag H4 O3_3
   have W4:=ad H4 W3
   have hI4:ac m Y TB none f s=.norm J4 s3:=by
    simp only[amE,rQ,↓reduceIte,rA,TB,b00,b11,b22,b33,H1,H2,H3,H4,O1_9]
   rw[hI4]
   exact⟨hkN,W4,V4_6,V4_7,O4_8,hk03,so',_,_,V4_3,by simp[hxo],hro',hgr'⟩
  ·rw[Qp hkN] at hlt
   have hkl:k=xs.length:=by omega
   rw[hkl,hxl,QH] at hro
   obtain⟨J5,H5,O5_9⟩:∃ fr',ar m Y wg98_3 f s=.ok fr' s/\fr'.get 9=some (.bool false):=⟨_,by simp only[amE,rQ,↓reduceIte,rA,q7,q8,wg98_3,hlt]<;>rfl,gh⟩
   have V5_3:=ag H5 q3
   have W5:=ad H5 d0
   have hI5:ac m Y TB none f s=.exit 0 J5 s:=by
    simp only[amE,rQ,↓reduceIte,rA,TB,b00,b11,b22,b33,H5,O5_9]
   rw[hI5]
   exact⟨_,_,so,xo,G,rfl,W5,V5_3,hks,by omega,hro,hgr⟩
 obtain⟨fA6,hA6⟩:∃ fA,fA=Vo 0 [sl] Fr.nil:=⟨_,rfl⟩
 have gA6_0:=gAt hA6 0
 have dA6:fA6.ds=[]:=by rw[hA6];rfl
 obtain⟨J7,H7⟩:∃ fr',ar m Y wg98_0 fA6 st=.ok fr' st:=⟨_,by simp only[amE,rQ,↓reduceIte,rA,wg98_0]<;>rfl⟩
 have V7_0:=ag H7 gA6_0
 have W7:=ad H7 dA6
 obtain⟨J8,H8,O8_3⟩:∃ fr',ar m Y wg98_1 J7 st=.ok fr' st/\fr'.get 3=some (.nilsl):=⟨_,by simp only[amE,rQ,↓reduceIte,rA,wg98_1]<;>rfl,gh⟩
 have V8_0:=ag H8 V7_0
 have W8:=ad H8 W7
 obtain⟨J9,H9,O9_6,O9_7,O9_8⟩:∃ fr',ar m Y wg98_2 J8 st=.ok fr' st/\fr'.get 6=some (sl)/\fr'.get 7=some (ZI xs.length)/\fr'.get 8=some Z0:=⟨_,by simp only[amE,rQ,↓reduceIte,rA,V8_0,wg98_2,hln]<;>rfl,gn (gn gh),gn gh,gh⟩
 have V9_3:=ag H9 O8_3
 have W9:=ad H9 W8
 obtain⟨FR,s',so,xo,G,hL,dF,F3,k3,hxo,hro,hgr⟩:=hL J9 W9 V9_3 O9_6 O9_7 O9_8
 obtain⟨J11,H11,O11_2⟩:∃ fr',ar m Y wg98_7 FR s'=.ok fr' s'/\fr'.get 2=some (so):=⟨_,by simp only[amE,rQ,↓reduceIte,rA,F3,wg98_7]<;>rfl,gh⟩
 have W11:=ad H11 dF
 refine⟨so,xo,_,Ve (mf:=wf98) (fr:=J11) t98 rfl (.inl ?q11) W11 (by simp only[wf98,amE,O11_2]),k3,hgr.slr (by omega),Vy.mono (Vs.refl _ _) (fun i hi=>hgr.1 i hi) _ _ hro⟩
 case q11=>
  rw[<-hA6]
  simp only[amE,rQ,↓reduceIte,rA,wf98,b00,b11,b22,b33,H7,H8,H9,hL,H11]
def wg54_0:List Vc:=[ZO 1 (.box true (.t 0)),ZO 2 (.alloc [Z0,.nilsl])]
def wg54_1:List (Vc × Nat):=[(ZA 3 0 1,0),(ZL 4 3,1),(ZA 5 1 1,0),(ZL 6 5,4),(ZX 7 98 [(.t 6)],12),(ZO 8 (.build [Z0,.nilsl] [(0,1,(.t 4)),(1,1,(.t 7))]),31),(ZS 2 2 8,63)]
def wf54:Vm:=⟨9,(ZQ wg54_0 (.seq (.draw wg54_1 [(1,some 4),(1,some 6)]) .ret)),[.cell 2 true 2]⟩
theorem t54:tbl 54=some wf54:=by kernel_rfl
theorem fresh54_run(l:List Tm)(g:Int)(hsh:shL l=true)(hlen:l.length<=1000)(m:Nat)(Y:Vi)(hm:Tm.fzL l+l.length+4 < m)(F:Nat->Prop)(st:St)(sl:AV)(xs:List (List AV))(hsl:SlR F st sl xs)(hrs:Vy F st l xs)(hF:∀ i,F i->i < st.next):
  ∃ sl' xs' st',R (m+1) Y 54 [.agg [.int .i64 g,sl]] st=.ret (.agg [.int .i64 g,sl']) st'/\Vd st st'/\SlR (fun i=>st.next<=i/\i < st'.next) st' sl' xs'/\Vy (fun i=>st.next<=i/\i < st'.next) st' l xs':=by
 have hF1:∀ i,F i->i < (st.new (.row [Z0,.nilsl])).next:=fun i hi=>by have:=hF i hi;simp;omega
 have S0:Vs F st (st.new (.row [Z0,.nilsl])):=Vs.of (Vd.new st _) hF
 obtain⟨sl',xs',s2,hc,k2,h1,h2⟩:=terms98_run _ l m Y rfl (by omega) hsh hlen F _ sl xs (hsl.mono S0 fun _ h=>h) (Vy.mono S0 (fun _ h=>h) _ _ hrs) hF1
 have hc:((gT m).cg Y).fn 98 [sl] (st.new (.row [Z0,.nilsl]))=.ret sl' s2:=hc
 have o1:=h1.one
 have g2:s2.get st.next=some (.row [Z0,.nilsl]):=by rw[k2.2 _ (by simp),St.get_new,Qm rfl]
 have bu:VN [Z0,.nilsl] [(0,1,.int .i64 g),(1,1,sl')]=some [.int .i64 g,sl']:=by
  have h:=one_cells o1
  have h1:(AV.int .i64 g).cells=[.int .i64 g]:=rfl
  simp[VN,h,h1,setCells,Nat.ble]
 have sto:Vt 2 s2 (.ptr st.next 0) (.agg [.int .i64 g,sl'])=some (s2.put st.next (.row [.int .i64 g,sl'])):=V4 g2 rfl rfl (by simp) (by show (AV.one (.int .i64 g)&&(AV.one sl'&&true))=true;rw[o1];rfl)
 have ldr:Vf true 2 (s2.put st.next (.row [.int .i64 g,sl'])) (.ptr st.next 0)=some (.agg [.int .i64 g,sl']):=Wk (by rw[St.get_put,Qm rfl]) rfl
 have kk:Vd st (s2.put st.next (.row [.int .i64 g,sl'])):=((Vd.new st _).trans k2).put _ _ (Qw _)
 have S2:Vs (fun i=>(st.new (.row [Z0,.nilsl])).next<=i/\i < s2.next) s2 (s2.put st.next (.row [.int .i64 g,sl'])):=fun i hi=>by
  rw[St.get_put,Qe (by have h:st.next+1<=i:=hi.1;omega)]
 have hG:∀ i,((st.new (.row [Z0,.nilsl])).next<=i/\i < s2.next)->(st.next<=i/\i < (s2.put st.next (.row [.int .i64 g,sl'])).next):=fun i hi=>⟨by have h:st.next+1<=i:=hi.1;omega,hi.2⟩
 obtain⟨fA12,hA12⟩:∃ fA,fA=Vo 0 [.agg [.int .i64 g,sl]] Fr.nil:=⟨_,rfl⟩
 have gA12_0:=gAt hA12 0
 have dA12:fA12.ds=[]:=by rw[hA12];rfl
 obtain⟨J13,H13,O13_1,O13_2⟩:∃ fr',ar m Y wg54_0 fA12 st=.ok fr' (st.new (.row [Z0,.nilsl]))/\fr'.get 1=some (.fptr [.int .i64 g,sl] 0)/\fr'.get 2=some (.ptr st.next 0):=⟨_,by simp only[amE,rQ,↓reduceIte,rA,gA12_0,wg54_0]<;>rfl,gn gh,gh⟩
 have W13:=ad H13 dA12
 obtain⟨J14,H14,K14⟩:∃ fr',VK ((gT m).cg Y) wg54_1 [(1,some 4),(1,some 6)] J13 (st.new (.row [Z0,.nilsl]))=.ok fr' (s2.put st.next (.row [.int .i64 g,sl']))/\Kp [0,1,2] J13 fr':=by
  refine⟨?r140,?r141,?r142⟩
  case r141=>
   refine KB (its:=?r14i) ?r14x ?r14y ?r14z
   case r14x=>
    simp only[amE,rQ,↓reduceIte,rA,WH,WU,DR.cons,V5,VJ,VT,O13_1,O13_2,wg54_1,faF,ld2_0,ld2_1,hc,bu,sto]
    rfl
   case r14y=>rfl
   case r14z=>
    simp only[QN,QW,Qy,Qd]
    refine⟨Wo (i:=1) (k:=4) rfl rfl rfl rfl ?r14k0,Wo (i:=1) (k:=6) rfl rfl rfl rfl ?r14k1⟩
    case r14k0=>
     left
     simp only[amE,rQ,↓reduceIte,rA,W0,O13_1,O13_2,wg54_1,faF,ld2_0,ld2_1,hc,bu,sto]
    case r14k1=>
     left
     simp only[amE,rQ,↓reduceIte,rA,W0,O13_1,O13_2,wg54_1,faF,ld2_0,ld2_1,hc,bu,sto]
  case r142=>repeat (first | exact Kp.refl | refine Kp.set (by decide) ?_)
 have V14_2:=K14.g 2 O13_2
 have W14:=K14.1.trans W13
 refine⟨sl',xs',_,Ve (mf:=wf54) (fr:=J14) t54 rfl (.inl ?q14) W14 (by simp only[wf54,amE,V14_2,ldr]),kk,h1.mono S2 hG,Vy.mono S2 hG _ _ h2⟩
 case q14=>
  rw[<-hA12]
  simp only[amE,rQ,↓reduceIte,rA,wf54,b00,b11,b22,b33,H13,H14]
def wg80_0:List Vc:=[ZO 1 (.box true (.t 0)),ZO 2 (.alloc [Z0,.nilsl,.nilsl])]
def Ti:List (Vc × Nat):=[(ZA 6 0 1,0),(ZL 7 6,1),(ZA 8 1 1,0),(ZL 9 8,4),(ZX 10 98 [(.t 9)],12),(ZO 11 (.build [Z0,.nilsl,.nilsl] [(0,1,(.t 7)),(1,1,(.t 10))]),31),(ZO 3 (.alloc [Z0,.nilsl,.nilsl]),0),(ZS 3 3 11,127)]
def wg80_2:List Vc:=[ZA 12 2 1,ZL 13 12,ZN 14 13,ZM 15 (ZC 0)]
def wg80_3:List Vc:=[ZO 16 (.bin false .lss (.t 15) (.t 14))]
def wg80_4:List Vc:=[ZP 17 3 13 15,ZK 18 3 17,ZO 5 (.alloc [Z0,.nilsl,.nilsl]),ZS 3 5 18]
def wg80_5:List (Vc × Nat):=[(ZA 19 2 3,0),(ZL 20 19,1),(ZK 21 3 5,0),(ZX 22 80 [(.t 21)],4),(ZO 23 (.bslice 1 [Z0,.nilsl,.nilsl] [(0,3,(.t 22))]),12),(ZO 24 (.append 56 3 none (.t 20) (.t 23)),31),(ZA 25 2 3,63),(ZS 1 25 24,127)]
def wg80_6:List Vc:=[ZO 26 (.bin false .add (.t 15) (ZC 1)),ZV 15 26]
def wg80_7:List Vc:=[ZK 27 3 3,ZS 3 2 27]
def Tv:Vn:=(ZQ wg80_3 (.seq (.cond (.t 16) .skip (.exit 0)) (.seq (.block 1 (ZQ wg80_4 (.draw wg80_5 [(1,some 3),(1,some 5)]))) (.region wg80_6))))
def wf80:Vm:=⟨28,(ZQ wg80_0 (.seq (.draw Ti [(1,some 4),(1,some 7),(6,some 4),(6,some 7)]) (.seq (ZQ wg80_2 (.block 0 (.loop Tv))) (ZR wg80_7)))),[.cell 2 true 3]⟩
theorem t80:tbl 80=some wf80:=by kernel_rfl
set_option maxHeartbeats 1000000 in
theorem freshDeriv_run:∀(n:Nat) (d:Dv) (m:Nat) (Y:Vi),d.fz=n->n+4 < m->Dv.good gr d=true->∀(F:Nat->Prop) (st:St) (cs:List AV),VU F st d cs->(∀ i,F i->i < st.next) ->
  ∃ cs' st',R m Y 80 [.agg cs] st=.ret (.agg cs') st'/\Vd st st'/\VU (fun i=>st.next<=i/\i < st'.next) st' d cs':=by
 intro n
 induction n using Nat.strongRecOn with
 | _ n ih=>
 intro d m' Y hs hn hgd F st cs hr hF
 obtain⟨m,rfl⟩:∃ m,m'=m+1:=⟨m' - 1,by omega⟩
 cases d with
 | mk r nv ev vs nl ex l=>
 obtain⟨g1,g2,g3,g4,g5,g6⟩:=good_mk hgd
 have a2:=arN_le r
 have v64:=vaN_le r
 simp only[Dv.fz] at hs
 simp only[VU] at hr
 obtain⟨sv,xv,sl,xs,rfl,hv1,hv2,hsl,hrs⟩:=hr
 have hxl:=hrs.len
 have hln:=hsl.len
 have hlb:=hsl.2.1
 -- the object of the result;the object of the copy
 obtain⟨s0,hs0⟩:∃ s0,s0=st.new (.row [Z0,.nilsl,.nilsl]):=⟨_,rfl⟩
 have n0:s0.next=st.next+1:=by rw[hs0];rfl
 have k0:Vd st s0:=by rw[hs0];exact Vd.new st _
 obtain⟨sP,hsP⟩:∃ sP,sP=s0.new (.row [Z0,.nilsl,.nilsl]):=⟨_,rfl⟩
 have nP:sP.next=s0.next+1:=by rw[hsP];rfl
 have kP:Vd s0 sP:=by rw[hsP];exact Vd.new s0 _
 have gP:sP.get s0.next=some (.row [Z0,.nilsl,.nilsl]):=by rw[hsP,St.get_new,Qm rfl]
 have SP:=Vs.of (k0.trans kP) hF
 obtain⟨sv',xv',s1,hc,k1,h1,h2⟩:=terms98_run _ vs m Y rfl (by omega) g5 (by omega) F sP sv xv (hv1.mono SP fun _ h=>h) (Vy.mono SP (fun _ h=>h) _ _ hv2) (fun i hi=>by have:=hF i hi;omega)
 have hc:((gT m).cg Y).fn 98 [sv] sP=.ret sv' s1:=hc
 have o1:=h1.one
 have gP1:s1.get s0.next=some (.row [Z0,.nilsl,.nilsl]):=(k1.2 _ (by omega)).trans gP
 have bu:=fill2 (v:=sv') r o1
 have b3:VG [ZI 0,.nilsl,.nilsl] [ZI 0,.nilsl,.nilsl]=true:=rfl
 have sto1:Vt 3 s1 (.ptr s0.next 0) (.agg [.int .i64 r,sv',.nilsl])=some (s1.put s0.next (.row [.int .i64 r,sv',.nilsl])):=V4 gP1 rfl rfl (by simp) (by show (AV.one (.int .i64 r)&&(AV.one sv'&&(AV.one .nilsl&&true)))=true;rw[o1];rfl)
 obtain⟨s2,hs2⟩:∃ s2,s2=s1.put s0.next (.row [.int .i64 r,sv',.nilsl]):=⟨_,rfl⟩
 have n2:s2.next=s1.next:=by rw[hs2];rfl
 have o2:∀ j,j≠s0.next->s2.get j=s1.get j:=fun j hj=>by rw[hs2,St.get_put,Qe hj]
 have k02:Vd st s2:=⟨by have:=k1.1;omega,fun j hj=>by rw[o2 j (by omega),k1.2 j (by omega),kP.2 j (by omega),k0.2 j hj]⟩
 have G2:s2.get s0.next=some (.row [.int .i64 r,sv',.nilsl]):=by rw[hs2,St.get_put,Qm rfl]
 have Sv:Vs (fun i=>sP.next<=i/\i < s1.next) s1 s2:=fun i hi=>o2 i (by omega)
 have h1:=h1.mono Sv (fun _ h=>h)
 have h2:=Vy.mono Sv (fun _ h=>h) _ _ h2
 have hL:∀(fr:Fr),fr.ds=[]->fr.get 2=some (.ptr st.next 0)->fr.get 3=some (.ptr s0.next 0)->fr.get 13=some sl->fr.get 14=some (ZI xs.length)->fr.get 15=some Z0 ->
   ∃ FR s' so xo G,Vx (ac m Y Tv none) m fr s2=.exit 0 FR s'/\FR.ds=[]/\FR.get 2=some (.ptr st.next 0)/\FR.get 3=some (.ptr s0.next 0)/\s2.next<=s'.next/\(∀ j,j < s2.next->j≠s0.next->s'.get j=s2.get j)/\s'.get s0.next=some (.row [.int .i64 r,sv',so])/\xo.length=xs.length/\VI G s' l xo/\Gr s2.next s' so xo G:=by
  intro fr d0 q2 q3 q13 q14 q15
  refine Ws (B:=ac m Y Tv none) (N:=xs.length) (Inv:=fun k f s=>f.ds=[]/\f.get 2=some (.ptr st.next 0)/\f.get 3=some (.ptr s0.next 0)/\f.get 13=some sl/\f.get 14=some (ZI xs.length)/\f.get 15=some (ZI k)/\s2.next<=s.next/\(∀ j,j < s2.next->j≠s0.next->s.get j=s2.get j)/\∃ so xo G,s.get s0.next=some (.row [.int .i64 r,sv',so])/\xo.length=k/\VI G s (l.take k) xo/\Gr s2.next s so xo G)
   (Out:=fun rr=>∃ FR s' so xo G,rr=.exit 0 FR s'/\FR.ds=[]/\FR.get 2=some (.ptr st.next 0)/\FR.get 3=some (.ptr s0.next 0)/\s2.next<=s'.next/\(∀ j,j < s2.next->j≠s0.next->s'.get j=s2.get j)/\s'.get s0.next=some (.row [.int .i64 r,sv',so])/\xo.length=xs.length/\VI G s' l xo/\Gr s2.next s' so xo G) ?_ xs.length 0 fr s2 m (by omega) (by omega) ⟨d0,q2,q3,q13,q14,q15,Qw _,fun _ _ _=>rfl,.nilsl,[],_,G2,rfl,by simp[VI],Gr.nil _ _⟩
  intro k f s hk ⟨d0,q2,q3,q13,q14,q15,hnx0,hold,so,xo,G,hrow,hxo,hro,hgr⟩
  have hlt:=Wt k xs.length
  by_cases hkN:k < xs.length
  ·obtain⟨t,ht,hdr⟩:=WR (l:=l) (k:=k) (by omega)
   obtain⟨x,hx,hrx⟩:=hrs.at ht
   have hsame:Vs F st s:=fun i hi=>by have:=hF i hi;rw[hold i (by have:=k02.1;omega) (by omega)];exact k02.2 i this
   obtain⟨p,ia,ld⟩:=hsl.at hx
   have ld:=ld s hsame
   obtain⟨s3,sto,ks,go,hnx⟩:=next_el s (zs:=[Z0,.nilsl,.nilsl]) rfl hrx.cells3
   have hmem:=Qr ht
   have hfz:=Dv.fzL_mem hmem
   have kk1:=k02.1
   have hF1:∀ i,F i->i < s3.next:=fun i hi=>by have:=hF i hi;omega
   have hrx1:=VU.mono (hsame.trans (Vs.of ks fun i hi=>by have:=hF i hi;omega)) (fun _ h=>h) t x hrx
   have htake:l.take (k+1)=l.take k++[t]:=by rw[QT,ht];rfl
   obtain⟨y,s4,hcall,ks2,hry⟩:=ih t.fz (by omega) t m Y rfl (by omega) (goodL_mem g6 t hmem) F s3 x hrx1 hF1
   have hcall':((gT m).cg Y).fn 80 [.agg x] s3=.ret (.agg y) s4:=hcall
   have hk02:Vd s s4:=ks.trans ks2
   have hk1:=hk02.1
   obtain⟨so',s5,happ,hk3,hn3,sG,sG2,hgr'⟩:=hgr.app (bytes:=56) (y:=y) (G2:=fun i=>s3.next<=i/\i < s4.next) hnx0 (by omega) (by omega) hk02 hry.cells3 (fun i hi=>⟨by omega,hi.2⟩)
   have hks0:so≠.own s0.next 0 xo.length 3 none xo.length:=fun e=>by
    rcases hgr.2.2 with⟨e',_⟩|⟨id,e',hid,_⟩
    ·rw[e'] at e;cases e
    ·rw[e'] at e;injection e with e1;have:=k1.1;omega
   have g5r:s5.get s0.next=some (.row [.int .i64 r,sv',so]):=by rw[hk3 _ (by have:=k1.1;omega) hks0,hk02.2 _ (by have:=k1.1;omega)];exact hrow
   have oso:AV.one so'=true:=hgr'.one
   have st5:Vt 1 s5 (.ptr s0.next 2) so'=some (s5.put s0.next (.row [.int .i64 r,sv',so'])):=st32 g5r oso
   have hold5:∀ j,j < s2.next->j≠s0.next->(s5.put s0.next (.row [.int .i64 r,sv',so'])).get j=s2.get j:=fun j h1 h2=>by
    rw[St.get_put,Qe h2,hk3 j (by omega) (fun e=>by
     rcases hgr.2.2 with⟨e',_⟩|⟨id,e',hid,_⟩
     ·rw[e'] at e;cases e
     ·rw[e'] at e;injection e with e1;omega),hk02.2 j (by omega)]
    exact hold j h1 h2
   have hlow:∀ i,s2.next<=i->(s5.put s0.next (.row [.int .i64 r,sv',so'])).get i=s5.get i:=fun i hi=>by rw[St.get_put,Qe (by have:=k1.1;omega)]
   have hro':VI (fun i=>G i\/s3.next<=i/\i < s4.next) (s5.put s0.next (.row [.int .i64 r,sv',so'])) (l.take (k+1)) (xo++[y]):=by
    rw[htake]
    exact VI.snoc (VI.mono (sG.trans fun i hi=>hlow i (hgr.1 i hi).1) (fun i hi=>.inl hi) _ _ hro) (VU.mono (sG2.trans fun i hi=>hlow i (by omega)) (fun i hi=>.inr hi) _ _ hry)
   have hgr5:Gr s2.next (s5.put s0.next (.row [.int .i64 r,sv',so'])) so' (xo++[y]) (fun i=>G i\/s3.next<=i/\i < s4.next):=hgr'.mono (Qw _) (fun id h1 _ _ _=>hlow id h1)
   obtain⟨ya,yb,yc,rfl⟩:∃ a b c,y=[a,b,c]:=by
    match y,hry.cells3.1 with
    | [a,b,c],_=>exact⟨a,b,c,rfl⟩
   have fl:VN [Z0,.nilsl,.nilsl] [(0,3,.agg [ya,yb,yc])]=some [ya,yb,yc]:=rfl
   have r3:s3.get s0.next=some (.row [.int .i64 r,sv',so]):=by rw[ks.2 _ (by have:=k1.1;omega)];exact hrow
   have r4:s4.get s0.next=some (.row [.int .i64 r,sv',so]):=by rw[ks2.2 _ (by have:=k1.1;omega)];exact r3
   have l2:Vf false 1 s3 (.ptr s0.next 2)=some so:=Vk r3 rfl
   have l2':Vf false 1 s4 (.ptr s0.next 2)=some so:=Vk r4 rfl
   have lx:=load_row go hrx.cells3.1
   have had:=WC (i:=k) (by omega)
   rw[Qs hkN] at hlt
   obtain⟨J15,H15,O15_16⟩:∃ fr',ar m Y wg80_3 f s=.ok fr' s/\fr'.get 16=some (.bool true):=⟨_,by simp only[amE,rQ,↓reduceIte,rA,q14,q15,wg80_3,hlt]<;>rfl,gh⟩
   have V15_2:=ag H15 q2
   have V15_3:=ag H15 q3
   have V15_13:=ag H15 q13
   have V15_14:=ag H15 q14
   have V15_15:=ag H15 q15
   have W15:=ad H15 d0
   obtain⟨J16,H16,O16_5⟩:∃ fr',ar m Y wg80_4 J15 s=.ok fr' s3/\fr'.get 5=some (.ptr s.next 0):=⟨_,by simp only[amE,rQ,↓reduceIte,rA,V15_13,V15_15,wg80_4,ia,ld,sto]<;>rfl,gh⟩
   have V16_2:=ag H16 V15_2
   have V16_3:=ag H16 V15_3
   have V16_13:=ag H16 V15_13
   have V16_14:=ag H16 V15_14
   have V16_15:=ag H16 V15_15
   have W16:=ad H16 W15
   obtain⟨J17,H17,K17⟩:∃ fr',VK ((gT m).cg Y) wg80_5 [(1,some 3),(1,some 5)] J16 s3=.ok fr' (s5.put s0.next (.row [.int .i64 r,sv',so']))/\Kp [2,3,13,14,15,16,5] J16 fr':=by
    refine⟨?r170,?r171,?r172⟩
    case r171=>
     refine KB (its:=?r17i) ?r17x ?r17y ?r17z
     case r17x=>
      simp only[amE,rQ,↓reduceIte,rA,WH,WU,DR.cons,V5,VJ,VT,V16_3,O16_5,wg80_5,faP,l2,l2',lx,hcall',fl,cnt1,happ,tag0,st5]
      rfl
     case r17y=>rfl
     case r17z=>
      simp only[QN,QW,Qy,Qd]
      refine⟨Wo (i:=1) (k:=3) rfl rfl rfl rfl ?r17k0,Wo (i:=1) (k:=5) rfl rfl rfl rfl ?r17k1⟩
      case r17k0=>
       right
       refine⟨?r17s0,?r17l0,hgr.beq⟩
       case r17l0=>
        simp only[amE,rQ,↓reduceIte,rA,V5,V16_3,O16_5,wg80_5,faP,l2,l2',lx,hcall',fl,cnt1,happ,tag0,st5]
        rfl
      case r17k1=>
       right
       refine⟨?r17s1,?r17l1,hgr.beq⟩
       case r17l1=>
        simp only[amE,rQ,↓reduceIte,rA,V5,V16_3,O16_5,wg80_5,faP,l2,l2',lx,hcall',fl,cnt1,happ,tag0,st5]
        rfl
    case r172=>repeat (first | exact Kp.refl | refine Kp.set (by decide) ?_)
   have V17_2:=K17.g 2 V16_2
   have V17_3:=K17.g 3 V16_3
   have V17_13:=K17.g 13 V16_13
   have V17_14:=K17.g 14 V16_14
   have V17_15:=K17.g 15 V16_15
   have W17:=K17.1.trans W16
   obtain⟨J18,H18,O18_15⟩:∃ fr',ar m Y wg80_6 J17 (s5.put s0.next (.row [.int .i64 r,sv',so']))=.ok fr' (s5.put s0.next (.row [.int .i64 r,sv',so']))/\fr'.get 15=some (ZI ((k+1))):=⟨_,by simp only[amE,rQ,↓reduceIte,rA,V17_15,wg80_6,had]<;>rfl,gh⟩
   have V18_2:=ag H18 V17_2
   have V18_3:=ag H18 V17_3
   have V18_13:=ag H18 V17_13
   have V18_14:=ag H18 V17_14
   have W18:=ad H18 W17
   have hI18:ac m Y Tv none f s=.norm J18 (s5.put s0.next (.row [.int .i64 r,sv',so'])):=by
    simp only[amE,rQ,↓reduceIte,rA,Tv,b00,b11,b22,b33,H15,H16,H17,H18,O15_16]
   rw[hI18]
   exact⟨hkN,W18,V18_2,V18_3,V18_13,V18_14,O18_15,by show s2.next<=s5.next;omega,hold5,so',_,_,by rw[St.get_put,Qm rfl],by simp[hxo],hro',hgr5⟩
  ·rw[Qp hkN] at hlt
   have hkl:k=xs.length:=by omega
   rw[hkl,hxl,QH] at hro
   obtain⟨J19,H19,O19_16⟩:∃ fr',ar m Y wg80_3 f s=.ok fr' s/\fr'.get 16=some (.bool false):=⟨_,by simp only[amE,rQ,↓reduceIte,rA,q14,q15,wg80_3,hlt]<;>rfl,gh⟩
   have V19_2:=ag H19 q2
   have V19_3:=ag H19 q3
   have W19:=ad H19 d0
   have hI19:ac m Y Tv none f s=.exit 0 J19 s:=by
    simp only[amE,rQ,↓reduceIte,rA,Tv,b00,b11,b22,b33,H19,O19_16]
   rw[hI19]
   exact⟨_,_,so,xo,G,rfl,W19,V19_2,V19_3,hnx0,hold,hrow,by omega,hro,hgr⟩
 obtain⟨fA20,hA20⟩:∃ fA,fA=Vo 0 [.agg [.int .i64 r,sv,sl]] Fr.nil:=⟨_,rfl⟩
 have gA20_0:=gAt hA20 0
 have dA20:fA20.ds=[]:=by rw[hA20];rfl
 obtain⟨J21,H21,O21_1,O21_2⟩:∃ fr',ar m Y wg80_0 fA20 st=.ok fr' s0/\fr'.get 1=some (.fptr [.int .i64 r,sv,sl] 0)/\fr'.get 2=some (.ptr st.next 0):=⟨_,by simp only[amE,rQ,↓reduceIte,rA,gA20_0,wg80_0,hs0]<;>rfl,gn gh,gh⟩
 have W21:=ad H21 dA20
 obtain⟨J22,H22,K22,O22_3⟩:∃ fr',VK ((gT m).cg Y) Ti [(1,some 4),(1,some 7),(6,some 4),(6,some 7)] J21 s0=.ok fr' s2/\Kp [0,1,2] J21 fr'/\fr'.get 3=some (.ptr s0.next 0):=by
  refine⟨?r220,?r221,?r222,?r22o3⟩
  case r221=>
   refine KB (its:=?r22i) ?r22x ?r22y ?r22z
   case r22x=>
    simp only[amE,rQ,↓reduceIte,rA,WH,WU,DR.cons,V5,VJ,VT,O21_1,Ti,faF,YV,Ks,hc,bu,gP1,gP,b3,sto1,<-hsP,hs2]
    rfl
   case r22y=>rfl
   case r22z=>
    simp only[QN,QW,Qy,Qd]
    refine⟨Wo (i:=1) (k:=4) rfl rfl rfl rfl ?r22k0,Wo (i:=1) (k:=7) rfl rfl rfl rfl ?r22k1,Wo (i:=6) (k:=4) rfl rfl rfl rfl ?r22k2,Wo (i:=6) (k:=7) rfl rfl rfl rfl ?r22k3⟩
    case r22k0=>
     left
     simp only[amE,rQ,↓reduceIte,rA,W0,O21_1,Ti,faF,YV,Ks,hc,bu,gP1,gP,b3,sto1,<-hsP,hs2]
    case r22k1=>
     left
     simp only[amE,rQ,↓reduceIte,rA,W0,O21_1,Ti,faF,YV,Ks,hc,bu,gP1,gP,b3,sto1,<-hsP,hs2]
    case r22k2=>
     right
     refine⟨?r22s2,?r22l2,avPtr _ _⟩
     case r22l2=>
      simp only[amE,rQ,↓reduceIte,rA,V5,Wf,VJ,O21_1,Ti,faF,YV,Ks,hc,bu,gP1,gP,b3,sto1,<-hsP,hs2]
      rfl
    case r22k3=>
     right
     refine⟨?r22s3,?r22l3,avPtr _ _⟩
     case r22l3=>
      simp only[amE,rQ,↓reduceIte,rA,V5,Wf,VJ,O21_1,Ti,faF,YV,Ks,hc,bu,gP1,gP,b3,sto1,<-hsP,hs2]
      rfl
  case r222=>repeat (first | exact Kp.refl | refine Kp.set (by decide) ?_)
  case r22o3=>simp only[Fr.get_set,rQ,↓reduceIte]
 have V22_1:=K22.g 1 O21_1
 have V22_2:=K22.g 2 O21_2
 have W22:=K22.1.trans W21
 obtain⟨J23,H23,O23_13,O23_14,O23_15⟩:∃ fr',ar m Y wg80_2 J22 s2=.ok fr' s2/\fr'.get 13=some (sl)/\fr'.get 14=some (ZI xs.length)/\fr'.get 15=some Z0:=⟨_,by simp only[amE,rQ,↓reduceIte,rA,V22_1,wg80_2,faF,ld3_2,hln]<;>rfl,gn (gn gh),gn gh,gh⟩
 have V23_2:=ag H23 V22_2
 have V23_3:=ag H23 O22_3
 have W23:=ad H23 W22
 obtain⟨FR,s6,so,xo,G,hL,dF,F2,F3,n6,o6,r6,hxo,hro,hgr⟩:=hL J23 W23 V23_2 V23_3 O23_13 O23_14 O23_15
 have n1le:=k1.1
 have r6':s6.get st.next=some (.row [Z0,.nilsl,.nilsl]):=by
  rw[o6 _ (by omega) (by omega),o2 _ (by omega),k1.2 _ (by omega),kP.2 _ (by omega),hs0,St.get_new,Qm rfl]
 have l6:Vf true 3 s6 (.ptr s0.next 0)=some (.agg [.int .i64 r,sv',so]):=Wk r6 rfl
 have t6:Vt 3 s6 (.ptr st.next 0) (.agg [.int .i64 r,sv',so])=some (s6.put st.next (.row [.int .i64 r,sv',so])):=V4 r6' rfl rfl (by simp) (by show (AV.one (.int .i64 r)&&(AV.one sv'&&(AV.one so&&true)))=true;rw[o1,hgr.one];rfl)
 have ldr:Vf true 3 (s6.put st.next (.row [.int .i64 r,sv',so])) (.ptr st.next 0)=some (.agg [.int .i64 r,sv',so]):=Wk (by rw[St.get_put,Qm rfl]) rfl
 have kk:Vd st (s6.put st.next (.row [.int .i64 r,sv',so])):=⟨by show st.next<=s6.next;omega,fun j hj=>by rw[St.get_put,Qe (by omega),o6 j (by omega) (by omega)];exact k02.2 j hj⟩
 have hfin:VU (fun i=>st.next<=i/\i < (s6.put st.next (.row [.int .i64 r,sv',so])).next) (s6.put st.next (.row [.int .i64 r,sv',so])) (.mk r nv ev vs nl ex l) [.int .i64 r,sv',so]:=by
  simp only[VU]
  have Sa:Vs (fun i=>sP.next<=i/\i < s1.next) s2 (s6.put st.next (.row [.int .i64 r,sv',so])):=fun i hi=>by rw[St.get_put,Qe (by omega),o6 i (by omega) (by omega)]
  have Sb:Vs G s6 (s6.put st.next (.row [.int .i64 r,sv',so])):=fun i hi=>by have:=(hgr.1 i hi).1;rw[St.get_put,Qe (by omega)]
  have Sc:Vs (fun i=>s2.next<=i/\i < s6.next) s6 (s6.put st.next (.row [.int .i64 r,sv',so])):=fun i hi=>by rw[St.get_put,Qe (by omega)]
  refine⟨sv',xv',so,xo,rfl,h1.mono Sa fun i hi=>⟨by omega,by show i < s6.next;omega⟩,Vy.mono Sa (fun i hi=>⟨by omega,by show i < s6.next;omega⟩) _ _ h2,(hgr.slr (by omega)).mono Sc fun i hi=>⟨by omega,hi.2⟩,VI.mono Sb (fun i hi=>⟨by have:=(hgr.1 i hi).1;omega,(hgr.1 i hi).2⟩) _ _ hro⟩
 obtain⟨J25,H25⟩:∃ fr',ar m Y wg80_7 FR s6=.ok fr' (s6.put st.next (.row [.int .i64 r,sv',so])):=⟨_,by simp only[amE,rQ,↓reduceIte,rA,F2,F3,wg80_7,l6,t6]<;>rfl⟩
 have V25_2:=ag H25 F2
 have W25:=ad H25 dF
 refine⟨[.int .i64 r,sv',so],_,Ve (mf:=wf80) (fr:=J25) t80 rfl (.inl ?q25) W25 (by simp only[wf80,amE,V25_2,ldr]),kk,hfin⟩
 case q25=>
  rw[<-hA20]
  simp only[amE,rQ,↓reduceIte,rA,wf80,b00,b11,b22,b33,H21,H22,H23,hL,H25]
end
end Go.AM.D32
