import Derived.Test.YtejdliehekjicaaGreatAwWa6
set_option maxRecDepth 100000
set_option linter.unusedSimpArgs false
namespace Go.AM.D32
open Go Go.AM
noncomputable section
open Nat renaming reduceEqDiff -> rQ, reduceAdd -> rA
theorem VQ{z:Nat}{st:St}{zs x:List AV}(hz:zs.length=z)(hx:x.length=z)(h1:x.all AV.one=true):Vt z (st.new (.row zs)) (.ptr st.next 0) (.agg x)=some ((st.new (.row zs)).put st.next (.row x)):=by
 simp only[Vt,St.get_new,Xj,AV.cells,hx,hz,h1]
 have:setCells zs 0 x=x:=by
  simp only[setCells,Xe,QR,Q7]
  rw[XX (by omega)];simp
 rw[this]
 simp[Qo (Qw z)]
theorem Wk{z:Nat}{st:St}{id:Nat}{x:List AV}(hg:st.get id=some (.row x))(hx:x.length=z):Vf true z st (.ptr id 0)=some (.agg x):=by
 simp only[Vf,Wy,hg,Qg,Xw]
 rw[Xx (by omega)]
 simp only[Ja,Qi,hx,QD]
theorem Vk{st:St}{id k:Nat}{x:List AV}{a:AV}(hg:st.get id=some (.row x))(hx:x[k]?=some a):Vf false 1 st (.ptr id k)=some a:=by
 simp only[Vf,Wy,hg,Qg]
 have hk:=(Qt.1 hx)
 rw[XO hk.1,hk.2]
 rfl
def VH(js:List (AV × List En)):List En:=js.flatMap (·.2)
theorem allE_take{js:List (AV × List En)}{k:Nat}{p:AV × List En}(hp:js[k]?=some p):VH (js.take (k+1))=VH (js.take k)++p.2:=by
 unfold VH
 rw[QT,hp];simp
theorem allE_len(js:List (AV × List En)):(VH js).length=tot js:=by unfold VH tot;simp[Zj]
def VF(l:List En)(i:Int):Nat:=(l.filter fun e=>e.leaf==i).length
theorem cntE_le(l:List En)(i:Int):VF l i<=l.length:=Zc ..
theorem cntE_app(l l':List En)(i:Int):VF (l++l') i=VF l i+VF l' i:=by unfold VF;simp
theorem cntE_snoc(l:List En)(e:En)(i:Int):VF (l++[e]) i=VF l i+(if (e.leaf==i)=true then 1 else 0):=by
 rw[cntE_app]
 congr 1
 unfold VF
 cases h:e.leaf==i<;>simp[h]
theorem En.cells_at0(e:En):e.cells[0]?=some (.int .i64 e.leaf):=rfl
def ze9:List AV:=[Z0,Z0,Z0,Z0,.nilsl,Z0,.nilsl,.nilsl,.nilsl]
def wg11_0:List Vc:=[ZM 4 (ZC 0)]
def wg11_1:List Vc:=[ZM 5 (ZC 0)]
def wg11_2:List Vc:=[ZV 10 0,ZN 11 10,ZM 12 (ZC 0)]
def wg11_3:List Vc:=[ZO 13 (.bin false .lss (.t 12) (.t 11))]
def wg11_4:List Vc:=[ZP 14 1 10 12,ZL 15 14,ZV 7 15]
def wg11_5:List Vc:=[ZV 16 7,ZN 17 16,ZM 18 (ZC 0)]
def Tn:List Vc:=[ZO 19 (.bin false .lss (.t 18) (.t 17))]
def wg11_7:List Vc:=[ZP 20 9 16 18,ZK 21 9 20,ZO 9 (.alloc [Z0,Z0,Z0,Z0,.nilsl,Z0,.nilsl,.nilsl,.nilsl]),ZS 9 9 21]
def wg11_8:List Vc:=[ZA 22 0 9,ZL 23 22,ZV 24 1,ZO 25 (.bin false .eql (.t 23) (.t 24))]
def wg11_9:List Vc:=[ZV 26 5,ZO 27 (.bin false .add (.t 26) (ZC 1)),ZV 5 27]
def wg11_10:List Vc:=[ZO 28 (.bin false .add (.t 18) (ZC 1)),ZV 18 28]
def wg11_11:List Vc:=[ZO 29 (.bin false .add (.t 12) (ZC 1)),ZV 12 29]
def wg11_12:List Vc:=[ZV 30 5,ZV 4 30]
def Ud:Vn:=(ZQ Tn (.seq (.cond (.t 19) .skip (.exit 2)) (.seq (.block 3 (ZQ wg11_7 (ZQ wg11_8 (.cond (.t 25) (.region wg11_9) .skip)))) (.region wg11_10))))
def TA:Vn:=(ZQ wg11_3 (.seq (.cond (.t 13) .skip (.exit 0)) (.seq (.block 1 (ZQ wg11_4 (ZQ wg11_5 (.block 2 (.loop Ud))))) (.region wg11_11))))
def wf11:Vm:=⟨31,(ZQ wg11_0 (ZQ wg11_1 (.seq (ZQ wg11_2 (.block 0 (.loop TA))) (ZR wg11_12)))),[.t 4]⟩
theorem t11:tbl 11=some wf11:=by kernel_rfl
theorem total_run{F:Nat->Prop}{st:St}{jv:AV}{js:List (AV × List En)}(hj:YQ F st jv js)(hF:∀ i,F i->i < st.next)(ht:tot js<=4000)(lf:Int)(m:Nat)(Y:Vi)(hn:fzJ js < m):
  ∃ st',R (m+1) Y 11 [jv,.int .i64 lf] st=.ret (ZI ((VF (VH js) lf))) st'/\Vd st st':=by
 obtain⟨h1,h2⟩:=hj
 have hln:=h1.len
 rw[Qu] at hln
 have hb:=h1.2.2.1
 rw[Qu] at hb
 have hjl:=UT js
 have h1':SlN 1 F st jv ((js.map Prod.fst).map fun x=>[x]):=by rw[Xq];exact h1
 have hI:∀(i:Nat) (p:AV × List En),js[i]?=some p->∀(fr:Fr) (st0:St),Vd st st0->fr.ds=[]->fr.get 1=some (.int .i64 lf)->fr.get 5=some (ZI ((VF (VH (js.take i)) lf)))->fr.get 10=some jv->fr.get 11=some (ZI js.length)->fr.get 12=some (ZI i)->fr.get 16=some p.1->fr.get 17=some (ZI p.2.length)->fr.get 18=some Z0 ->
   ∃ FR st',Vd st st'/\FR.ds=[]/\Vx (ac m Y Ud none) m fr st0=.exit 2 FR st'/\FR.get 1=some (.int .i64 lf)/\FR.get 5=some (ZI ((VF (VH (js.take (i+1))) lf)))/\FR.get 10=some jv/\FR.get 11=some (ZI js.length)/\FR.get 12=some (ZI i):=by
  intro i p hi fr st0 k0 d0 g1 g5 g10 g11 g12 g16 g17 g18
  have hp:=Qr hi
  obtain⟨e1,e2⟩:=h2 p hp
  have heb:=e1.2.2.1
  rw[Qu] at heb
  have hfp:=fzJ_mem hp
  have htl:=tot_le js (i+1)
  have htk:=allE_take hi
  refine Ws (B:=ac m Y Ud none) (N:=p.2.length) (Inv:=fun k fr st1=>fr.ds=[]/\fr.get 1=some (.int .i64 lf)/\fr.get 5=some (ZI ((VF (VH (js.take i)++p.2.take k) lf)))/\fr.get 10=some jv/\fr.get 11=some (ZI js.length)/\fr.get 12=some (ZI i)/\fr.get 16=some p.1/\fr.get 17=some (ZI p.2.length)/\fr.get 18=some (ZI k)/\Vd st st1)
   (Out:=fun r=>∃ FR st',Vd st st'/\FR.ds=[]/\r=.exit 2 FR st'/\FR.get 1=some (.int .i64 lf)/\FR.get 5=some (ZI ((VF (VH (js.take (i+1))) lf)))/\FR.get 10=some jv/\FR.get 11=some (ZI js.length)/\FR.get 12=some (ZI i)) ?_ p.2.length 0 fr st0 m (by omega) (by omega) ⟨d0,g1,by rw[Xe,QG];exact g5,g10,g11,g12,g16,g17,g18,k0⟩
  intro k fr st1 hk ⟨d0,g1,g5,g10,g11,g12,g16,g17,g18,kp⟩
  have hlt:=Wt k p.2.length
  have hS:=Vs.of kp hF
  by_cases hkN:k < p.2.length
  ·have hx:p.2[k]?=some p.2[k]:=Qn hkN
   generalize p.2[k]=e at hx
   obtain⟨pe,ie,lde⟩:=e1.at (k:=k) (x:=e.cells) (by rw[Q5,hx];rfl)
   have lde:=lde st1 hS
   have had:=WC (i:=k) (by omega)
   have sto:Vt 9 (st1.new (.row ze9)) (.ptr st1.next 0) (.agg e.cells)=some ((st1.new (.row ze9)).put st1.next (.row e.cells)):=VQ rfl e.cells9.1 e.cells9.2
   have k2:Vd st1 ((st1.new (.row ze9)).put st1.next (.row e.cells)):=(Vd.refl st1).newput _ _
   have g2:((st1.new (.row ze9)).put st1.next (.row e.cells)).get st1.next=some (.row e.cells):=by rw[St.get_put,Qm rfl]
   have lf0:=Vk g2 e.cells_at0
   have fa:=faP st1.next 0
   unfold ze9 at sto k2 g2 lf0
   generalize hs2:(st1.new (.row _)).put st1.next (.row e.cells)=st2 at sto k2 g2 lf0
   have heq:=eqlI e.leaf lf
   have hcs:=cntE_snoc (VH (js.take i)++p.2.take k) e lf
   have htk2:VH (js.take i)++p.2.take k++[e]=VH (js.take i)++p.2.take (k+1):=by rw[Xb,QT,hx];rfl
   rw[htk2] at hcs
   have hcl:VF (VH (js.take i)++p.2.take k) lf<=4000:=by
    have h3:=cntE_le (VH (js.take i)++p.2.take k) lf
    rw[QJ,Xl] at h3
    have h4:=allE_len (js.take (i+1))
    rw[htk,QJ] at h4
    omega
   have ha1:=WC (i:=VF (VH (js.take i)++p.2.take k) lf) (by omega)
   rw[Qs hkN] at hlt
   generalize (e.leaf==lf)=B at *
   cases B with
   | true=>
    rw[Qm rfl] at hcs
    obtain⟨J1,H1,O1_19⟩:∃ fr',ar m Y Tn fr st1=.ok fr' st1/\fr'.get 19=some (.bool true):=⟨_,by simp only[amE,rQ,↓reduceIte,rA,g17,g18,Tn,hlt]<;>rfl,gh⟩
    have V1_1:=ag H1 g1
    have V1_5:=ag H1 g5
    have V1_10:=ag H1 g10
    have V1_11:=ag H1 g11
    have V1_12:=ag H1 g12
    have V1_16:=ag H1 g16
    have V1_17:=ag H1 g17
    have V1_18:=ag H1 g18
    have W1:=ad H1 d0
    obtain⟨J2,H2,O2_9⟩:∃ fr',ar m Y wg11_7 J1 st1=.ok fr' st2/\fr'.get 9=some (.ptr st1.next 0):=⟨_,by simp only[amE,rQ,↓reduceIte,rA,V1_16,V1_18,wg11_7,ie,lde,sto]<;>rfl,gh⟩
    have V2_1:=ag H2 V1_1
    have V2_5:=ag H2 V1_5
    have V2_10:=ag H2 V1_10
    have V2_11:=ag H2 V1_11
    have V2_12:=ag H2 V1_12
    have V2_16:=ag H2 V1_16
    have V2_17:=ag H2 V1_17
    have V2_18:=ag H2 V1_18
    have W2:=ad H2 W1
    obtain⟨J3,H3,O3_25⟩:∃ fr',ar m Y wg11_8 J2 st2=.ok fr' st2/\fr'.get 25=some (.bool true):=⟨_,by simp only[amE,rQ,↓reduceIte,rA,V2_1,O2_9,wg11_8,fa,lf0,heq]<;>rfl,gh⟩
    have V3_1:=ag H3 V2_1
    have V3_5:=ag H3 V2_5
    have V3_10:=ag H3 V2_10
    have V3_11:=ag H3 V2_11
    have V3_12:=ag H3 V2_12
    have V3_16:=ag H3 V2_16
    have V3_17:=ag H3 V2_17
    have V3_18:=ag H3 V2_18
    have W3:=ad H3 W2
    obtain⟨J4,H4,O4_5⟩:∃ fr',ar m Y wg11_9 J3 st2=.ok fr' st2/\fr'.get 5=some (ZI ((VF (VH (js.take i)++p.2.take k) lf+1))):=⟨_,by simp only[amE,rQ,↓reduceIte,rA,V3_5,wg11_9,ha1]<;>rfl,gh⟩
    have V4_1:=ag H4 V3_1
    have V4_10:=ag H4 V3_10
    have V4_11:=ag H4 V3_11
    have V4_12:=ag H4 V3_12
    have V4_16:=ag H4 V3_16
    have V4_17:=ag H4 V3_17
    have V4_18:=ag H4 V3_18
    have W4:=ad H4 W3
    obtain⟨J5,H5,O5_18⟩:∃ fr',ar m Y wg11_10 J4 st2=.ok fr' st2/\fr'.get 18=some (ZI ((k+1))):=⟨_,by simp only[amE,rQ,↓reduceIte,rA,V4_18,wg11_10,had]<;>rfl,gh⟩
    have V5_1:=ag H5 V4_1
    have V5_10:=ag H5 V4_10
    have V5_11:=ag H5 V4_11
    have V5_12:=ag H5 V4_12
    have V5_16:=ag H5 V4_16
    have V5_17:=ag H5 V4_17
    have V5_5:=ag H5 O4_5
    have W5:=ad H5 W4
    have hI5:ac m Y Ud none fr st1=.norm J5 st2:=by
     simp only[amE,rQ,↓reduceIte,rA,Ud,b00,b11,b22,b33,H1,H2,H3,H4,H5,O1_19,O3_25]
    rw[hI5]
    exact⟨hkN,W5,V5_1,by rw[hcs];exact V5_5,V5_10,V5_11,V5_12,V5_16,V5_17,O5_18,kp.trans k2⟩
   | false=>
    rw[Qe (by decide),XA] at hcs
    obtain⟨J6,H6,O6_19⟩:∃ fr',ar m Y Tn fr st1=.ok fr' st1/\fr'.get 19=some (.bool true):=⟨_,by simp only[amE,rQ,↓reduceIte,rA,g17,g18,Tn,hlt]<;>rfl,gh⟩
    have V6_1:=ag H6 g1
    have V6_5:=ag H6 g5
    have V6_10:=ag H6 g10
    have V6_11:=ag H6 g11
    have V6_12:=ag H6 g12
    have V6_16:=ag H6 g16
    have V6_17:=ag H6 g17
    have V6_18:=ag H6 g18
    have W6:=ad H6 d0
    obtain⟨J7,H7,O7_9⟩:∃ fr',ar m Y wg11_7 J6 st1=.ok fr' st2/\fr'.get 9=some (.ptr st1.next 0):=⟨_,by simp only[amE,rQ,↓reduceIte,rA,V6_16,V6_18,wg11_7,ie,lde,sto]<;>rfl,gh⟩
    have V7_1:=ag H7 V6_1
    have V7_5:=ag H7 V6_5
    have V7_10:=ag H7 V6_10
    have V7_11:=ag H7 V6_11
    have V7_12:=ag H7 V6_12
    have V7_16:=ag H7 V6_16
    have V7_17:=ag H7 V6_17
    have V7_18:=ag H7 V6_18
    have W7:=ad H7 W6
    obtain⟨J8,H8,O8_25⟩:∃ fr',ar m Y wg11_8 J7 st2=.ok fr' st2/\fr'.get 25=some (.bool false):=⟨_,by simp only[amE,rQ,↓reduceIte,rA,V7_1,O7_9,wg11_8,fa,lf0,heq]<;>rfl,gh⟩
    have V8_1:=ag H8 V7_1
    have V8_5:=ag H8 V7_5
    have V8_10:=ag H8 V7_10
    have V8_11:=ag H8 V7_11
    have V8_12:=ag H8 V7_12
    have V8_16:=ag H8 V7_16
    have V8_17:=ag H8 V7_17
    have V8_18:=ag H8 V7_18
    have W8:=ad H8 W7
    obtain⟨J9,H9,O9_18⟩:∃ fr',ar m Y wg11_10 J8 st2=.ok fr' st2/\fr'.get 18=some (ZI ((k+1))):=⟨_,by simp only[amE,rQ,↓reduceIte,rA,V8_18,wg11_10,had]<;>rfl,gh⟩
    have V9_1:=ag H9 V8_1
    have V9_5:=ag H9 V8_5
    have V9_10:=ag H9 V8_10
    have V9_11:=ag H9 V8_11
    have V9_12:=ag H9 V8_12
    have V9_16:=ag H9 V8_16
    have V9_17:=ag H9 V8_17
    have W9:=ad H9 W8
    have hI9:ac m Y Ud none fr st1=.norm J9 st2:=by
     simp only[amE,rQ,↓reduceIte,rA,Ud,b00,b11,b22,b33,H6,H7,H8,H9,O6_19,O8_25]
    rw[hI9]
    exact⟨hkN,W9,V9_1,by rw[hcs];exact V9_5,V9_10,V9_11,V9_12,V9_16,V9_17,O9_18,kp.trans k2⟩
  ·rw[Qp hkN] at hlt
   have hkl:k=p.2.length:=by omega
   rw[hkl,QH,<-htk] at g5
   obtain⟨J10,H10,O10_19⟩:∃ fr',ar m Y Tn fr st1=.ok fr' st1/\fr'.get 19=some (.bool false):=⟨_,by simp only[amE,rQ,↓reduceIte,rA,g17,g18,Tn,hlt]<;>rfl,gh⟩
   have V10_1:=ag H10 g1
   have V10_5:=ag H10 g5
   have V10_10:=ag H10 g10
   have V10_11:=ag H10 g11
   have V10_12:=ag H10 g12
   have W10:=ad H10 d0
   have hI10:ac m Y Ud none fr st1=.exit 2 J10 st1:=by
    simp only[amE,rQ,↓reduceIte,rA,Ud,b00,b11,b22,b33,H10,O10_19]
   rw[hI10]
   exact⟨_,_,kp,W10,rfl,V10_1,V10_5,V10_10,V10_11,V10_12⟩
 have hO:∀(fr:Fr),fr.ds=[]->fr.get 1=some (.int .i64 lf)->fr.get 5=some Z0->fr.get 10=some jv->fr.get 11=some (ZI js.length)->fr.get 12=some Z0 ->
   ∃ FR st',Vd st st'/\FR.ds=[]/\Vx (ac m Y TA none) m fr st=.exit 0 FR st'/\FR.get 5=some (ZI ((VF (VH js) lf))):=by
  intro fr d0 g1 g5 g10 g11 g12
  refine Ws (B:=ac m Y TA none) (N:=js.length) (Inv:=fun i fr st1=>fr.ds=[]/\fr.get 1=some (.int .i64 lf)/\fr.get 5=some (ZI ((VF (VH (js.take i)) lf)))/\fr.get 10=some jv/\fr.get 11=some (ZI js.length)/\fr.get 12=some (ZI i)/\Vd st st1)
   (Out:=fun r=>∃ FR st',Vd st st'/\FR.ds=[]/\r=.exit 0 FR st'/\FR.get 5=some (ZI ((VF (VH js) lf)))) ?_ js.length 0 fr st m (by omega) (by omega) ⟨d0,g1,g5,g10,g11,g12,Vd.refl st⟩
  intro i fr st1 hk ⟨d0,g1,g5,g10,g11,g12,kp⟩
  have hlt:=Wt i js.length
  have hS:=Vs.of kp hF
  by_cases hiN:i < js.length
  ·have hx:js[i]?=some js[i]:=Qn hiN
   generalize js[i]=p at hx
   obtain⟨pa,ia,lda⟩:=SlN.at1 h1' (k:=i) (x:=p.1) (by rw[Q5,hx];rfl)
   have lda:=lda st1 hS
   have hel:=(h2 p (Qr hx)).1.len st1
   rw[Qu] at hel
   have had:=WC (i:=i) (by omega)
   rw[Qs hiN] at hlt
   obtain⟨J11,H11,O11_13⟩:∃ fr',ar m Y wg11_3 fr st1=.ok fr' st1/\fr'.get 13=some (.bool true):=⟨_,by simp only[amE,rQ,↓reduceIte,rA,g11,g12,wg11_3,hlt]<;>rfl,gh⟩
   have V11_1:=ag H11 g1
   have V11_5:=ag H11 g5
   have V11_10:=ag H11 g10
   have V11_11:=ag H11 g11
   have V11_12:=ag H11 g12
   have W11:=ad H11 d0
   obtain⟨J12,H12,O12_7⟩:∃ fr',ar m Y wg11_4 J11 st1=.ok fr' st1/\fr'.get 7=some (p.1):=⟨_,by simp only[amE,rQ,↓reduceIte,rA,V11_10,V11_12,wg11_4,ia,lda]<;>rfl,gh⟩
   have V12_1:=ag H12 V11_1
   have V12_5:=ag H12 V11_5
   have V12_10:=ag H12 V11_10
   have V12_11:=ag H12 V11_11
   have V12_12:=ag H12 V11_12
   have W12:=ad H12 W11
   obtain⟨J13,H13,O13_16,O13_17,O13_18⟩:∃ fr',ar m Y wg11_5 J12 st1=.ok fr' st1/\fr'.get 16=some (p.1)/\fr'.get 17=some (ZI p.2.length)/\fr'.get 18=some Z0:=⟨_,by simp only[amE,rQ,↓reduceIte,rA,O12_7,wg11_5,hel]<;>rfl,gn (gn gh),gn gh,gh⟩
   have V13_1:=ag H13 V12_1
   have V13_5:=ag H13 V12_5
   have V13_10:=ag H13 V12_10
   have V13_11:=ag H13 V12_11
   have V13_12:=ag H13 V12_12
   have W13:=ad H13 W12
   obtain⟨FR,st2,k2,dF,hL,F1,F5,F10,F11,F12⟩:=hI i p hx J13 st1 kp W13 V13_1 V13_5 V13_10 V13_11 V13_12 O13_16 O13_17 O13_18
   obtain⟨J15,H15,O15_12⟩:∃ fr',ar m Y wg11_11 FR st2=.ok fr' st2/\fr'.get 12=some (ZI ((i+1))):=⟨_,by simp only[amE,rQ,↓reduceIte,rA,F12,wg11_11,had]<;>rfl,gh⟩
   have V15_1:=ag H15 F1
   have V15_5:=ag H15 F5
   have V15_10:=ag H15 F10
   have V15_11:=ag H15 F11
   have W15:=ad H15 dF
   have hI15:ac m Y TA none fr st1=.norm J15 st2:=by
    simp only[amE,rQ,↓reduceIte,rA,TA,b00,b11,b22,b33,H11,H12,H13,hL,H15,O11_13]
   rw[hI15]
   exact⟨hiN,W15,V15_1,V15_5,V15_10,V15_11,O15_12,k2⟩
  ·rw[Qp hiN] at hlt
   have hkl:i=js.length:=by omega
   rw[hkl,QH] at g5
   obtain⟨J16,H16,O16_13⟩:∃ fr',ar m Y wg11_3 fr st1=.ok fr' st1/\fr'.get 13=some (.bool false):=⟨_,by simp only[amE,rQ,↓reduceIte,rA,g11,g12,wg11_3,hlt]<;>rfl,gh⟩
   have V16_5:=ag H16 g5
   have W16:=ad H16 d0
   have hI16:ac m Y TA none fr st1=.exit 0 J16 st1:=by
    simp only[amE,rQ,↓reduceIte,rA,TA,b00,b11,b22,b33,H16,O16_13]
   rw[hI16]
   exact⟨_,_,kp,W16,rfl,V16_5⟩
 obtain⟨fA17,hA17⟩:∃ fA,fA=Vo 0 [jv,.int .i64 lf] Fr.nil:=⟨_,rfl⟩
 have gA17_0:=gAt hA17 0
 have gA17_1:=gAt hA17 1
 have dA17:fA17.ds=[]:=by rw[hA17];rfl
 obtain⟨J18,H18⟩:∃ fr',ar m Y wg11_0 fA17 st=.ok fr' st:=⟨_,by simp only[amE,rQ,↓reduceIte,rA,wg11_0]<;>rfl⟩
 have V18_0:=ag H18 gA17_0
 have V18_1:=ag H18 gA17_1
 have W18:=ad H18 dA17
 obtain⟨J19,H19,O19_5⟩:∃ fr',ar m Y wg11_1 J18 st=.ok fr' st/\fr'.get 5=some Z0:=⟨_,by simp only[amE,rQ,↓reduceIte,rA,wg11_1]<;>rfl,gh⟩
 have V19_0:=ag H19 V18_0
 have V19_1:=ag H19 V18_1
 have W19:=ad H19 W18
 obtain⟨J20,H20,O20_10,O20_11,O20_12⟩:∃ fr',ar m Y wg11_2 J19 st=.ok fr' st/\fr'.get 10=some (jv)/\fr'.get 11=some (ZI js.length)/\fr'.get 12=some Z0:=⟨_,by simp only[amE,rQ,↓reduceIte,rA,V19_0,wg11_2,hln st]<;>rfl,gn (gn gh),gn gh,gh⟩
 have V20_1:=ag H20 V19_1
 have V20_5:=ag H20 O19_5
 have W20:=ad H20 W19
 obtain⟨FR,st2,k2,dF,hL,F5⟩:=hO J20 W20 V20_1 V20_5 O20_10 O20_11 O20_12
 obtain⟨J22,H22,O22_4⟩:∃ fr',ar m Y wg11_12 FR st2=.ok fr' st2/\fr'.get 4=some (ZI ((VF (VH js) lf))):=⟨_,by simp only[amE,rQ,↓reduceIte,rA,F5,wg11_12]<;>rfl,gh⟩
 have W22:=ad H22 dF
 refine⟨_,Ve (mf:=wf11) (fr:=J22) t11 rfl (.inl ?q22) W22 (by simp only[wf11,amE,O22_4]),k2⟩
 case q22=>
  rw[<-hA17]
  simp only[amE,rQ,↓reduceIte,rA,wf11,b00,b11,b22,b33,H18,H19,H20,hL,H22]
end
noncomputable section
open Nat renaming reduceEqDiff -> rQ, reduceAdd -> rA
def row(p:Nat)(l:List En):List (Nat × Nat × En):=l.zipIdx.map fun x=>(p,x.2,x.1)
def Vq(js:List (AV × List En)):List (Nat × Nat × En):=js.zipIdx.flatMap fun x=>row x.2 x.1.2
theorem row_take{p:Nat}{l:List En}{k:Nat}{e:En}(h:l[k]?=some e):row p (l.take (k+1))=row p (l.take k)++[(p,k,e)]:=by
 unfold row
 have hk:=(Qt.1 h).1
 rw[QT,h,List.zipIdx_append]
 simp[Xl,Zw (Nat.le_of_lt hk)]
theorem spots_take{js:List (AV × List En)}{k:Nat}{q:AV × List En}(h:js[k]?=some q):Vq (js.take (k+1))=Vq (js.take k)++row k q.2:=by
 unfold Vq
 have hk:=(Qt.1 h).1
 rw[QT,h,List.zipIdx_append]
 simp[Xl,Zw (Nat.le_of_lt hk)]
theorem build2(a b:Int):VN [Z0,Z0] [(0,1,.int .i64 a),(1,1,.int .i64 b)]=some [.int .i64 a,.int .i64 b]:=rfl
def atV(p i:Nat):AV:=.agg [ZI p,ZI i]
def wg107_0:List Vc:=[ZL 7 1,ZN 8 7,ZM 9 (ZC 0)]
def wg107_1:List Vc:=[ZO 10 (.bin false .lss (.t 9) (.t 8))]
def wg107_2:List Vc:=[ZV 11 9,ZP 12 1 7 9,ZL 13 12,ZV 3 11,ZV 4 13]
def wg107_3:List Vc:=[ZV 14 4,ZN 15 14,ZM 16 (ZC 0)]
def wg107_4:List Vc:=[ZO 17 (.bin false .lss (.t 16) (.t 15))]
def wg107_5:List Vc:=[ZV 18 16,ZP 19 9 14 16,ZK 20 9 19,ZO 6 (.alloc [Z0,Z0,Z0,Z0,.nilsl,Z0,.nilsl,.nilsl,.nilsl]),ZV 5 18,ZS 9 6 20]
def wg107_6:List Vc:=[ZV 21 0,ZV 22 3,ZV 23 5,ZO 24 (.build [Z0,Z0] [(0,1,(.t 22)),(1,1,(.t 23))]),ZK 25 9 6,ZO 26 (.call (.t 21) [(.t 24),(.t 25)]),ZO 27 (.un .not (.t 26))]
def wg107_7:List Vc:=[ZO 28 (.bin false .add (.t 16) (ZC 1)),ZV 16 28]
def wg107_8:List Vc:=[ZO 29 (.bin false .add (.t 9) (ZC 1)),ZV 9 29]
def Jz:Vn:=(ZQ wg107_4 (.seq (.cond (.t 17) .skip (.exit 2)) (.seq (.block 3 (ZQ wg107_5 (ZQ wg107_6 (.cond (.t 27) .ret .skip)))) (.region wg107_7))))
def Ju:Vn:=(ZQ wg107_1 (.seq (.cond (.t 10) .skip (.exit 0)) (.seq (.block 1 (ZQ wg107_2 (ZQ wg107_3 (.block 2 (.loop Jz))))) (.region wg107_8))))
def wf107:Vm:=⟨30,(ZQ wg107_0 (.block 0 (.loop Ju))),[]⟩
theorem t107:tbl 107=some wf107:=by kernel_rfl
theorem iter_run{F:Nat->Prop}{st:St}{jv:AV}{js:List (AV × List En)}(hj:YQ F st jv js){c id:Nat}(m:Nat)(Y:Vi)(hn:fzJ js < m)
  {Inv:List (Nat × Nat × En)->St->Prop} {Fin:St->Prop} (hS:∀ d s,Inv d s->Vs F st s/\s.get c=some (.row [jv])) (hK:∀ d s s',Inv d s->Vd s s'->Inv d s')
  (hy:∀ p q i e s,js[p]?=some q->q.2[i]?=some e->Inv (Vq (js.take p)++row p (q.2.take i)) s->∃ b s',Y id [atV p i,.agg e.cells] s=.ret (.bool b) s'/\(b=true->Inv (Vq (js.take p)++row p (q.2.take i)++[(p,i,e)]) s')/\(b=false->Fin s'))
  (s0:St) (h0:Inv [] s0):
  ∃ s',R (m+1) Y 107 [.yld id,.ptr c 0] s0=.ret (.tuple []) s'/\(Inv (Vq js) s'\/Fin s'):=by
 obtain⟨h1,h2⟩:=hj
 have hln:=h1.len
 rw[Qu] at hln
 have hb:=h1.2.2.1
 rw[Qu] at hb
 have hjl:=UT js
 have h1':SlN 1 F st jv ((js.map Prod.fst).map fun x=>[x]):=by rw[Xq];exact h1
 have hI:∀(i:Nat) (q:AV × List En),js[i]?=some q->∀(fr:Fr) (st0:St),Inv (Vq (js.take i)) st0->fr.ds=[]->fr.get 0=some (.yld id)->fr.get 3=some (ZI i)->fr.get 7=some jv->fr.get 8=some (ZI js.length)->fr.get 9=some (ZI i)->fr.get 14=some q.1->fr.get 15=some (ZI q.2.length)->fr.get 16=some Z0 ->
   ∃ FR st',FR.ds=[]/\((Vx (ac m Y Jz none) m fr st0=.exit 2 FR st'/\Inv (Vq (js.take (i+1))) st'/\FR.get 0=some (.yld id)/\FR.get 7=some jv/\FR.get 8=some (ZI js.length)/\FR.get 9=some (ZI i)) ∨
    (Vx (ac m Y Jz none) m fr st0=.ret FR st'/\Fin st')):=by
  intro i q hi fr st0 k0 d0 g0 g3 g7 g8 g9 g14 g15 g16
  have hp:=Qr hi
  obtain⟨e1,e2⟩:=h2 q hp
  have heb:=e1.2.2.1
  rw[Qu] at heb
  have hfp:=fzJ_mem hp
  have hst:=spots_take hi
  refine Ws (B:=ac m Y Jz none) (N:=q.2.length) (Inv:=fun k fr st1=>fr.ds=[]/\fr.get 0=some (.yld id)/\fr.get 3=some (ZI i)/\fr.get 7=some jv/\fr.get 8=some (ZI js.length)/\fr.get 9=some (ZI i)/\fr.get 14=some q.1/\fr.get 15=some (ZI q.2.length)/\fr.get 16=some (ZI k)/\Inv (Vq (js.take i)++row i (q.2.take k)) st1)
   (Out:=fun r=>∃ FR st',FR.ds=[]/\((r=.exit 2 FR st'/\Inv (Vq (js.take (i+1))) st'/\FR.get 0=some (.yld id)/\FR.get 7=some jv/\FR.get 8=some (ZI js.length)/\FR.get 9=some (ZI i)) ∨
    (r=.ret FR st'/\Fin st'))) ?_ q.2.length 0 fr st0 m (by omega) (by omega) ⟨d0,g0,g3,g7,g8,g9,g14,g15,g16,by rw[Xe];simpa [row] using k0⟩
  intro k fr st1 hk ⟨d0,g0,g3,g7,g8,g9,g14,g15,g16,kp⟩
  have hlt:=Wt k q.2.length
  have hSm:=(hS _ _ kp).1
  by_cases hkN:k < q.2.length
  ·have hx:q.2[k]?=some q.2[k]:=Qn hkN
   generalize q.2[k]=e at hx
   obtain⟨pe,ie,lde⟩:=e1.at (k:=k) (x:=e.cells) (by rw[Q5,hx];rfl)
   have lde:=lde st1 hSm
   have had:=WC (i:=k) (by omega)
   have sto:Vt 9 (st1.new (.row ze9)) (.ptr st1.next 0) (.agg e.cells)=some ((st1.new (.row ze9)).put st1.next (.row e.cells)):=VQ rfl e.cells9.1 e.cells9.2
   have k2:Vd st1 ((st1.new (.row ze9)).put st1.next (.row e.cells)):=(Vd.refl st1).newput _ _
   have g2:((st1.new (.row ze9)).put st1.next (.row e.cells)).get st1.next=some (.row e.cells):=by rw[St.get_put,Qm rfl]
   unfold ze9 at sto k2 g2
   generalize hs2:(st1.new (.row _)).put st1.next (.row e.cells)=st2 at sto k2 g2
   have ld2:=Wk g2 e.cells9.1
   have bu:=build2 (.ofNat i) (.ofNat k)
   have kp2:=hK _ _ _ kp k2
   obtain⟨b,st3,hyy,hb1,hb2⟩:=hy i q k e st2 hi hx kp2
   have hyy:((gT m).cg Y).yld id [.agg [ZI i,ZI k],.agg e.cells] st2=.ret (.bool b) st3:=hyy
   have hrt:=row_take (p:=i) hx
   rw[Xb,<-hrt] at hb1
   rw[Qs hkN] at hlt
   obtain⟨J1,H1,O1_17⟩:∃ fr',ar m Y wg107_4 fr st1=.ok fr' st1/\fr'.get 17=some (.bool true):=⟨_,by simp only[amE,rQ,↓reduceIte,rA,g15,g16,wg107_4,hlt]<;>rfl,gh⟩
   have V1_0:=ag H1 g0
   have V1_3:=ag H1 g3
   have V1_7:=ag H1 g7
   have V1_8:=ag H1 g8
   have V1_9:=ag H1 g9
   have V1_14:=ag H1 g14
   have V1_15:=ag H1 g15
   have V1_16:=ag H1 g16
   have W1:=ad H1 d0
   obtain⟨J2,H2,O2_5,O2_6⟩:∃ fr',ar m Y wg107_5 J1 st1=.ok fr' st2/\fr'.get 5=some (ZI k)/\fr'.get 6=some (.ptr st1.next 0):=⟨_,by simp only[amE,rQ,↓reduceIte,rA,V1_14,V1_16,wg107_5,ie,lde,sto]<;>rfl,gh,gn gh⟩
   have V2_0:=ag H2 V1_0
   have V2_3:=ag H2 V1_3
   have V2_7:=ag H2 V1_7
   have V2_8:=ag H2 V1_8
   have V2_9:=ag H2 V1_9
   have V2_14:=ag H2 V1_14
   have V2_15:=ag H2 V1_15
   have V2_16:=ag H2 V1_16
   have W2:=ad H2 W1
   obtain⟨J3,H3,O3_27⟩:∃ fr',ar m Y wg107_6 J2 st2=.ok fr' st3/\fr'.get 27=some (.bool (!b)):=⟨_,by simp only[amE,rQ,↓reduceIte,rA,V2_0,V2_3,O2_5,O2_6,wg107_6,ld2,bu,hyy,WN,Qc,Qb]<;>rfl,gh⟩
   have V3_0:=ag H3 V2_0
   have V3_3:=ag H3 V2_3
   have V3_7:=ag H3 V2_7
   have V3_8:=ag H3 V2_8
   have V3_9:=ag H3 V2_9
   have V3_14:=ag H3 V2_14
   have V3_15:=ag H3 V2_15
   have V3_16:=ag H3 V2_16
   have W3:=ad H3 W2
   generalize hC4:(!b)=C4 at *
   cases C4 with
   | true=>
    have hI3:ac m Y Jz none fr st1=.ret J3 st3:=by
     simp only[amE,rQ,↓reduceIte,rA,Jz,b00,b11,b22,b33,H1,H2,H3,O1_17,O3_27]
    rw[hI3]
    exact⟨_,_,W3,.inr ⟨rfl,hb2 (by simpa using hC4)⟩⟩
   | false=>
    obtain⟨J5,H5,O5_16⟩:∃ fr',ar m Y wg107_7 J3 st3=.ok fr' st3/\fr'.get 16=some (ZI ((k+1))):=⟨_,by simp only[amE,rQ,↓reduceIte,rA,V3_16,wg107_7,had]<;>rfl,gh⟩
    have V5_0:=ag H5 V3_0
    have V5_3:=ag H5 V3_3
    have V5_7:=ag H5 V3_7
    have V5_8:=ag H5 V3_8
    have V5_9:=ag H5 V3_9
    have V5_14:=ag H5 V3_14
    have V5_15:=ag H5 V3_15
    have W5:=ad H5 W3
    have hI5:ac m Y Jz none fr st1=.norm J5 st3:=by
     simp only[amE,rQ,↓reduceIte,rA,Jz,b00,b11,b22,b33,H1,H2,H3,H5,O1_17,O3_27]
    rw[hI5]
    exact⟨hkN,W5,V5_0,V5_3,V5_7,V5_8,V5_9,V5_14,V5_15,O5_16,hb1 (by simpa using hC4)⟩
  ·rw[Qp hkN] at hlt
   have hkl:k=q.2.length:=by omega
   rw[hkl,QH,<-hst] at kp
   obtain⟨J6,H6,O6_17⟩:∃ fr',ar m Y wg107_4 fr st1=.ok fr' st1/\fr'.get 17=some (.bool false):=⟨_,by simp only[amE,rQ,↓reduceIte,rA,g15,g16,wg107_4,hlt]<;>rfl,gh⟩
   have V6_0:=ag H6 g0
   have V6_7:=ag H6 g7
   have V6_8:=ag H6 g8
   have V6_9:=ag H6 g9
   have W6:=ad H6 d0
   have hI6:ac m Y Jz none fr st1=.exit 2 J6 st1:=by
    simp only[amE,rQ,↓reduceIte,rA,Jz,b00,b11,b22,b33,H6,O6_17]
   rw[hI6]
   exact⟨_,_,W6,.inl ⟨rfl,kp,V6_0,V6_7,V6_8,V6_9⟩⟩
 have hO:∀(fr:Fr),fr.ds=[]->fr.get 0=some (.yld id)->fr.get 7=some jv->fr.get 8=some (ZI js.length)->fr.get 9=some Z0 ->
   ∃ FR st',FR.ds=[]/\((Vx (ac m Y Ju none) m fr s0=.exit 0 FR st'/\Inv (Vq js) st')\/(Vx (ac m Y Ju none) m fr s0=.ret FR st'/\Fin st')):=by
  intro fr d0 g0 g7 g8 g9
  refine Ws (B:=ac m Y Ju none) (N:=js.length) (Inv:=fun i fr st1=>fr.ds=[]/\fr.get 0=some (.yld id)/\fr.get 7=some jv/\fr.get 8=some (ZI js.length)/\fr.get 9=some (ZI i)/\Inv (Vq (js.take i)) st1)
   (Out:=fun r=>∃ FR st',FR.ds=[]/\((r=.exit 0 FR st'/\Inv (Vq js) st')\/(r=.ret FR st'/\Fin st'))) ?_ js.length 0 fr s0 m (by omega) (by omega) ⟨d0,g0,g7,g8,g9,h0⟩
  intro i fr st1 hk ⟨d0,g0,g7,g8,g9,kp⟩
  have hlt:=Wt i js.length
  have hSm:=(hS _ _ kp).1
  by_cases hiN:i < js.length
  ·have hx:js[i]?=some js[i]:=Qn hiN
   generalize js[i]=q at hx
   obtain⟨pa,ia,lda⟩:=SlN.at1 h1' (k:=i) (x:=q.1) (by rw[Q5,hx];rfl)
   have lda:=lda st1 hSm
   have hel:=(h2 q (Qr hx)).1.len st1
   rw[Qu] at hel
   have had:=WC (i:=i) (by omega)
   rw[Qs hiN] at hlt
   obtain⟨J7,H7,O7_10⟩:∃ fr',ar m Y wg107_1 fr st1=.ok fr' st1/\fr'.get 10=some (.bool true):=⟨_,by simp only[amE,rQ,↓reduceIte,rA,g8,g9,wg107_1,hlt]<;>rfl,gh⟩
   have V7_0:=ag H7 g0
   have V7_7:=ag H7 g7
   have V7_8:=ag H7 g8
   have V7_9:=ag H7 g9
   have W7:=ad H7 d0
   obtain⟨J8,H8,O8_3,O8_4⟩:∃ fr',ar m Y wg107_2 J7 st1=.ok fr' st1/\fr'.get 3=some (ZI i)/\fr'.get 4=some (q.1):=⟨_,by simp only[amE,rQ,↓reduceIte,rA,V7_7,V7_9,wg107_2,ia,lda]<;>rfl,gn gh,gh⟩
   have V8_0:=ag H8 V7_0
   have V8_7:=ag H8 V7_7
   have V8_8:=ag H8 V7_8
   have V8_9:=ag H8 V7_9
   have W8:=ad H8 W7
   obtain⟨J9,H9,O9_14,O9_15,O9_16⟩:∃ fr',ar m Y wg107_3 J8 st1=.ok fr' st1/\fr'.get 14=some (q.1)/\fr'.get 15=some (ZI q.2.length)/\fr'.get 16=some Z0:=⟨_,by simp only[amE,rQ,↓reduceIte,rA,O8_4,wg107_3,hel]<;>rfl,gn (gn gh),gn gh,gh⟩
   have V9_0:=ag H9 V8_0
   have V9_7:=ag H9 V8_7
   have V9_8:=ag H9 V8_8
   have V9_9:=ag H9 V8_9
   have V9_3:=ag H9 O8_3
   have W9:=ad H9 W8
   obtain⟨FR,st2,dF,hL⟩:=hI i q hx J9 st1 kp W9 V9_0 V9_3 V9_7 V9_8 V9_9 O9_14 O9_15 O9_16
   rcases hL with⟨hL,k2,F0,F7,F8,F9⟩|⟨hL,hf⟩
   ·have hdummy:=b00
    obtain⟨J11,H11,O11_9⟩:∃ fr',ar m Y wg107_8 FR st2=.ok fr' st2/\fr'.get 9=some (ZI ((i+1))):=⟨_,by simp only[amE,rQ,↓reduceIte,rA,F9,wg107_8,had]<;>rfl,gh⟩
    have V11_0:=ag H11 F0
    have V11_7:=ag H11 F7
    have V11_8:=ag H11 F8
    have W11:=ad H11 dF
    have hI11:ac m Y Ju none fr st1=.norm J11 st2:=by
     simp only[amE,rQ,↓reduceIte,rA,Ju,b00,b11,b22,b33,H7,H8,H9,hL,H11,O7_10]
    rw[hI11]
    exact⟨hiN,W11,V11_0,V11_7,V11_8,O11_9,k2⟩
   ·have hdummy:=b00
    have hI12:ac m Y Ju none fr st1=.ret FR st2:=by
     simp only[amE,rQ,↓reduceIte,rA,Ju,b00,b11,b22,b33,H7,H8,H9,hL,O7_10]
    rw[hI12]
    exact⟨_,_,dF,.inr ⟨rfl,hf⟩⟩
  ·rw[Qp hiN] at hlt
   have hkl:i=js.length:=by omega
   rw[hkl,QH] at kp
   obtain⟨J13,H13,O13_10⟩:∃ fr',ar m Y wg107_1 fr st1=.ok fr' st1/\fr'.get 10=some (.bool false):=⟨_,by simp only[amE,rQ,↓reduceIte,rA,g8,g9,wg107_1,hlt]<;>rfl,gh⟩
   have W13:=ad H13 d0
   have hI13:ac m Y Ju none fr st1=.exit 0 J13 st1:=by
    simp only[amE,rQ,↓reduceIte,rA,Ju,b00,b11,b22,b33,H13,O13_10]
   rw[hI13]
   exact⟨_,_,W13,.inl ⟨rfl,kp⟩⟩
 have hc:=Vk (hS _ _ h0).2 (k:=0) rfl
 obtain⟨fA14,hA14⟩:∃ fA,fA=Vo 0 [.yld id,.ptr c 0] Fr.nil:=⟨_,rfl⟩
 have gA14_0:=gAt hA14 0
 have gA14_1:=gAt hA14 1
 have dA14:fA14.ds=[]:=by rw[hA14];rfl
 obtain⟨J15,H15,O15_7,O15_8,O15_9⟩:∃ fr',ar m Y wg107_0 fA14 s0=.ok fr' s0/\fr'.get 7=some (jv)/\fr'.get 8=some (ZI js.length)/\fr'.get 9=some Z0:=⟨_,by simp only[amE,rQ,↓reduceIte,rA,gA14_1,wg107_0,hc,hln]<;>rfl,gn (gn gh),gn gh,gh⟩
 have V15_0:=ag H15 gA14_0
 have W15:=ad H15 dA14
 obtain⟨FR,st2,dF,hL⟩:=hO J15 W15 V15_0 O15_7 O15_8 O15_9
 rcases hL with⟨hL,k2⟩|⟨hL,hf⟩
 ·have hout:Inv (Vq js) st2\/Fin st2:=.inl k2
  refine⟨_,Ve (mf:=wf107) (fr:=FR) t107 rfl (.inr ?q16) dF (by simp only[wf107,amE,b00]),hout⟩
  case q16=>
   rw[<-hA14]
   simp only[amE,rQ,↓reduceIte,rA,wf107,b00,b11,b22,b33,H15,hL]
 ·have hout:Inv (Vq js) st2\/Fin st2:=.inr hf
  refine⟨_,Ve (mf:=wf107) (fr:=FR) t107 rfl (.inl ?q17) dF (by simp only[wf107,amE,b00]),hout⟩
  case q17=>
   rw[<-hA14]
   simp only[amE,rQ,↓reduceIte,rA,wf107,b00,b11,b22,b33,H15,hL]
def wg65_0:List Vc:=[ZO 1 (.box false (.t 0)),ZM 2 (.c .nilfn)]
def wg65_1:List Vc:=[ZO 3 (.mkfn 107 [] [(.t 1)]),ZV 2 3]
def wf65:Vm:=⟨4,(ZQ wg65_0 (ZR wg65_1)),[.t 2]⟩
theorem t65:tbl 65=some wf65:=by kernel_rfl
theorem S6(jv:AV)(hjv:AV.one jv=true)(m:Nat)(Y:Vi)(st:St):R (m+1) Y 65 [jv] st=.ret (.func (.func 107) [] [.ptr st.next 0]) (st.new (.row [jv])):=by
 have hc:jv.cells=[jv]:=by cases jv<;>first | rfl | (simp[AV.one] at hjv)
 obtain⟨fA18,hA18⟩:∃ fA,fA=Vo 0 [jv] Fr.nil:=⟨_,rfl⟩
 have gA18_0:=gAt hA18 0
 have dA18:fA18.ds=[]:=by rw[hA18];rfl
 obtain⟨J19,H19,O19_1⟩:∃ fr',ar m Y wg65_0 fA18 st=.ok fr' (st.new (.row [jv]))/\fr'.get 1=some (.ptr st.next 0):=⟨_,by simp only[amE,rQ,↓reduceIte,rA,gA18_0,wg65_0,hc]<;>rfl,gn gh⟩
 have W19:=ad H19 dA18
 obtain⟨J20,H20,O20_2⟩:∃ fr',ar m Y wg65_1 J19 (st.new (.row [jv]))=.ok fr' (st.new (.row [jv]))/\fr'.get 2=some (.func (.func 107) [] [.ptr st.next 0]):=⟨_,by simp only[amE,rQ,↓reduceIte,rA,O19_1,wg65_1,Jy]<;>rfl,gh⟩
 have W20:=ad H20 W19
 refine Ve (mf:=wf65) (fr:=J20) t65 rfl (.inl ?q20) W20 (by simp only[wf65,amE,O20_2])
 case q20=>
  rw[<-hA18]
  simp only[amE,rQ,↓reduceIte,rA,wf65,b00,b11,b22,b33,H19,H20]
end
theorem fun_of2{f n:Nat}{mf:Vm}{Y:Vi}{args:List AV}{st st':St}{fr:Fr}{v:AV}(ht:tbl f=some mf)(hle:args.length.ble mf.N=true)
  (h:Vh (gT n) Y n mf.code none (Vo 0 args Fr.nil) st=.ret fr st'\/Vh (gT n) Y n mf.code none (Vo 0 args Fr.nil) st=.norm fr st') (hd:∀(DF:Nat->List AV->St->DM->Option (DM × St)) (m:DM),VO DF fr.ds st' m=some (m,st')) (hr:Vg fr st' mf.res=.ret v st'):
  R (n+1) Y f args st=.ret v st':=by
 unfold R
 rw[Js ht]
 unfold WK
 rw[hle]
 rcases h with h | h<;>simp only[Qi,h,WY,hd,hr]
theorem coll_one{fr:Fr}{st:St}(h:fr.ds=[.coll])(DF:Nat->List AV->St->DM->Option (DM × St))(m:DM):VO DF fr.ds st m=some (m,st):=by rw[h];rfl
theorem SI{F:Nat->Prop}{st:St}{jv:AV}{js:List (AV × List En)}(hj:YQ F st jv js){c:Nat}(m:Nat)(Y:Vi)(hn:fzJ js < m){x:X}{ps:List Nat}{asg body:Vn}{fr:Fr}{s:St}
  (hx:ev fr x=.func (.func 107) [] [.ptr c 0]) (hps:ps.length=2)
  {Inv:List (Nat × Nat × En)->St->Prop} {Fin:St->Prop}
  (hS:∀ d s1,Inv d s1->Vs F st s1/\s1.get c=some (.row [jv])) (hK:∀ d s1 s2,Inv d s1->Vd s1 s2->Inv d s2)
  (hL:∀ d s1 l,Inv d s1->Inv d (s1.put s.next (.loop l))) (hLF:∀ s1 l,Fin s1->Fin (s1.put s.next (.loop l)))
  (h0:Inv [] (s.new (.loop .ready)))
  (hb:∀ p q i e s1,js[p]?=some q->q.2[i]?=some e->Inv (Vq (js.take p)++row p (q.2.take i)) s1->s1.get s.next=some (.loop .ready)->s.next < s1.next ->
   ∃ fr1 s2,Vh (gT (m+1)) Y (m+1) asg (some s.next) (VL ps [atV p i,.agg e.cells] { fr with ds:=[] }) s1=.norm fr1 s2/\Vd s1 s2 ∧
    ((∃ fr2 s3,Vh (gT (m+1)) Y (m+1) body (some s.next) fr1 (s2.put s.next (.loop .busy))=.norm fr2 s3/\s3.get s.next=some (.loop .busy)/\s.next < s3.next/\Inv (Vq (js.take p)++row p (q.2.take i)++[(p,i,e)]) s3) ∨
     (∃ fr2 s3,Vh (gT (m+1)) Y (m+1) body (some s.next) fr1 (s2.put s.next (.loop .busy))=.ret fr2 s3/\s3.get s.next=some (.loop .busy)/\Fin s3))):
  ∃ s',(Vh (gT (m+1)) Y (m+1) (.rfun x ps asg body) none fr s=.norm { fr with ds:=.coll::fr.ds } s'/\Inv (Vq js) s'/\s.next < s'.next) ∨
   (Vh (gT (m+1)) Y (m+1) (.rfun x ps asg body) none fr s=.ret { fr with ds:=.coll::fr.ds } s'/\Fin s'):=by
 generalize hY:Vi.set Y s.next (YZ (Vh (gT (m+1)) Y (m+1) asg (some s.next)) (Vh (gT (m+1)) Y (m+1) body (some s.next)) s.next fr ps)=Y'
 have hyy:∀ args s1,Y' s.next args s1=YZ (Vh (gT (m+1)) Y (m+1) asg (some s.next)) (Vh (gT (m+1)) Y (m+1) body (some s.next)) s.next fr ps args s1:=fun args s1=>by
  rw[<-hY];simp[Vi.set]
 obtain⟨s',hr,hc⟩:=iter_run hj (c:=c) (id:=s.next) m Y' hn (Inv:=fun d s1=>Inv d s1/\s1.get s.next=some (.loop .ready)/\s.next < s1.next) (Fin:=fun s1=>Fin s1/\s1.get s.next=some (.loop .ret))
  (fun d s1 h=>hS d s1 h.1) (fun d s1 s2 h k=>⟨hK d s1 s2 h.1 k,by rw[k.2 _ h.2.2];exact h.2.1,Qz h.2.2 k.1⟩)
  (fun p q i e s1 hp hi ⟨i1,i2,i3⟩=>by
   rw[hyy]
   obtain⟨fr1,s2,e1,k1,hh⟩:=hb p q i e s1 hp hi i1 i2 i3
   have l1:Wh s1 s.next=some .ready:=by unfold Wh;rw[i2]
   have l2:Wh s2 s.next=some .ready:=by unfold Wh;rw[k1.2 _ i3,i2]
   have hlen:([atV p i,AV.agg e.cells].length.beq ps.length)=true:=by rw[hps];rfl
   unfold YZ
   rw[hlen,Qi,l1]
   simp only[e1,l2]
   rcases hh with⟨fr2,s3,e2,g3,n3,i4⟩|⟨fr2,s3,e2,g3,i4⟩
   ·have l3:Wh s3 s.next=some .busy:=by unfold Wh;rw[g3]
    refine⟨true,_,?_,fun _=>⟨hL _ _ .ready i4,by rw[St.get_put,Qm rfl],n3⟩,(fun h=>by cases h)⟩
    rw[e2];simp only[KI,l3]
   ·have l3:Wh s3 s.next=some .busy:=by unfold Wh;rw[g3]
    refine⟨false,_,?_,(fun h=>by cases h),fun _=>⟨hLF _ .ret i4,by rw[St.get_put,Qm rfl]⟩⟩
    rw[e2];simp only[KI,l3])
  (s.new (.loop .ready)) ⟨h0,by rw[St.get_new,Qm rfl],by rw[St.next_new];exact Nat.lt_succ_self _⟩
 have hent:(gT (m+1)).ent 107=true:=by show Kz tbl 107=true;unfold Kz;rw[t107]
 have hcall:(gT (m+1)).call Y' 107 ([]++[.yld s.next]++[.ptr c 0]) (s.new (.loop .ready))=.ret (.tuple []) s':=hr
 refine⟨s'.put s.next (.loop .fin),?_⟩
 rcases hc with⟨i1,i2,i3⟩|⟨i1,i2⟩
 ·have l3:Wh s' s.next=some .ready:=by unfold Wh;rw[i2]
  refine .inl ⟨?_,hL _ _ .fin i1,i3⟩
  rw[Vh,hx]
  simp only[hent,roOk,Qy,Qi,hY,hcall,K8,Ko,l3]
 ·have l3:Wh s' s.next=some .ret:=by unfold Wh;rw[i2]
  refine .inr ⟨?_,hLF _ .fin i1⟩
  rw[Vh,hx]
  simp only[hent,roOk,Qy,Qi,hY,hcall,K8,Ko,l3]
noncomputable section
open Nat renaming reduceEqDiff -> rQ, reduceAdd -> rA
theorem WE{st:St}{id k n:Nat}{x y:List AV}(hg:st.get id=some (.row x))(hx:(x.drop k).take n=y)(hn:y.length=n):Vf true n st (.ptr id k)=some (.agg y):=by
 simp only[Vf,Wy,hg,Qg,hx,Ja,Qi,hn,QD]
theorem V4{st:St}{id k n:Nat}{x y:List AV}{a:AV}(hg:st.get id=some (.row x))(hn:a.cells.length=n)(hx:setCells x k a.cells=y)(hk:k+n<=x.length)(h1:a.cells.all AV.one=true):Vt n st (.ptr id k) a=some (st.put id (.row y)):=by
 simp only[Vt,hg,hn,hx,h1,Qo hk,QD,Qy,Qi]
theorem build3(a b c:AV)(ha:a.cells=[a]:=by rfl)(hb:b.cells=[b]:=by rfl)(hc:c.cells=[c]:=by rfl):VN [Z0,Z0,Z0] [(0,1,a),(1,1,b),(2,1,c)]=some [a,b,c]:=by
 simp[VN,ha,hb,hc,setCells,Nat.ble]
def wg30_0:List Vc:=[ZO 2 (.box true (.t 0)),ZO 4 (.alloc [(.bool false)])]
def wg30_1:List Vc:=[ZM 5 (ZC 0)]
def wg30_2:List Vc:=[ZV 10 1,ZN 11 10,ZM 12 (ZC 0)]
def wg30_3:List Vc:=[ZO 13 (.bin false .lss (.t 12) (.t 11))]
def wg30_4:List Vc:=[ZP 14 1 10 12,ZL 15 14,ZV 7 15]
def wg30_5:List Vc:=[ZV 16 5,ZV 17 7,ZN 18 17,ZO 19 (.bin false .add (.t 16) (.t 18)),ZV 5 19]
def wg30_6:List Vc:=[ZO 20 (.bin false .add (.t 12) (ZC 1)),ZV 12 20]
def wg30_7:List Vc:=[ZV 21 1,ZN 22 21,ZA 23 2 2,ZL 24 23,ZO 25 (.bin false .neq (.t 22) (.t 24)),ZV 26 25,ZG 27 (.mv (.t 5)) 26 false,ZG 28 (.bin false .gtr (.t 27) (ZC 4000)) 26 false,ZO 29 (.pick (.t 26) (ZB true) (.t 28))]
def wg30_8:List Vc:=[⟨none,.store 1 (.t 4) (ZB false),none⟩]
def wg30_9:List Vc:=[ZV 30 1,ZX 31 65 [(.t 30)]]
def wg30_10:List Vc:=[ZO 9 (.alloc [Z0,Z0,Z0,Z0,.nilsl,Z0,.nilsl,.nilsl,.nilsl]),ZS 9 9 33]
def Sq:List Vc:=[ZA 34 0 9,ZL 35 34,ZA 36 1 9,ZL 37 36,ZA 38 2 9,ZL 39 38,ZO 40 (.bslice 3 [Z0,Z0,Z0] [(0,1,(.t 35)),(1,1,(.t 37)),(2,1,(.t 39))]),ZX 41 66 [(.t 40)],ZO 42 (.un .not (.t 41))]
def Sd:List Vc:=[ZV 43 42,ZG 44 (.faddr 3 (.t 9)) 43 false,ZG 45 (.load true 2 (.t 44)) 43 false,ZG 46 (.call (.c (.func (.func 67) [] [])) [(.t 45)]) 43 false,ZG 47 (.un .not (.t 46)) 43 false,ZO 48 (.pick (.t 43) (ZB true) (.t 47))]
def Sm:List Vc:=[ZV 49 48,ZG 50 (.faddr 5 (.t 9)) 49 false,ZG 51 (.load true 3 (.t 50)) 49 false,ZG 52 (.call (.c (.func (.func 68) [] [])) [(.t 51)]) 49 false,ZG 53 (.bin false .neq (.t 52) (ZC 0)) 49 false,ZO 54 (.pick (.t 49) (ZB true) (.t 53))]
def Ss:List Vc:=[ZV 55 54,ZG 56 (.faddr 8 (.t 9)) 55 false,ZG 57 (.load false 1 (.t 56)) 55 false,ZG 58 (.len 0 (.t 57)) 55 false,ZG 59 (.faddr 0 (.t 2)) 55 false,ZG 60 (.load false 1 (.t 59)) 55 false,ZG 61 (.len 0 (.t 60)) 55 false,ZG 62 (.bin false .neq (.t 58) (.t 61)) 55 false,ZO 63 (.pick (.t 55) (ZB true) (.t 62))]
def Sj:List Vc:=[ZV 64 63,ZG 65 (.faddr 8 (.t 9)) 64 false,ZG 66 (.load false 1 (.t 65)) 64 false,ZG 67 (.call (.c (.func (.func 66) [] [])) [(.t 66)]) 64 false,ZG 68 (.un .not (.t 67)) 64 false,ZO 69 (.pick (.t 64) (ZB true) (.t 68))]
def wg30_11:List Vc:=Sq++(Sd++(Sm++(Ss++Sj)))
def wg30_12:List Vc:=[⟨none,.store 1 (.t 4) (ZB false),none⟩]
def wg30_13:List Vc:=[⟨none,.store 1 (.t 4) (ZB true),none⟩]
def To:Vn:=(ZQ wg30_3 (.seq (.cond (.t 13) .skip (.exit 0)) (.seq (.block 1 (ZQ wg30_4 (.region wg30_5))) (.region wg30_6))))
def wa30_0:Vn:=(.region wg30_10)
def wy30_0:Vn:=(.block 3 (ZQ wg30_11 (.cond (.t 69) (ZR wg30_12) .skip)))
def wr30_0:Vn:=(Vn.rfun (.t 31) [32,33] wa30_0 wy30_0)
def wf30:Vm:=⟨70,(ZQ wg30_0 (ZQ wg30_1 (.seq (ZQ wg30_2 (.block 0 (.loop To))) (.seq (ZQ wg30_7 (.cond (.t 29) (ZR wg30_8) .skip)) (.seq (ZQ wg30_9 (.block 2 wr30_0)) (ZR wg30_13)))))),[.cell 4 false 1]⟩
theorem t30:tbl 30=some wf30:=by kernel_rfl
theorem journals_run{F:Nat->Prop}{st:St}{lv pv jv:AV}{ls:List (List AV)}{N:Int}{js:List (AV × List En)}(hl:SlN 1 F st lv ls)(hj:YQ F st jv js)(hF:∀ i,F i->i < st.next)(m:Nat)(Y:Vi)(hn:fzJ js < m)(hA:JK ls.length N js=true):
  ∃ st',R (m+2) Y 30 [.agg [lv,pv,.int .i64 N],jv] st=.ret (.bool true) st'/\Vd st st':=by
 have hj':=hj
 obtain⟨h1,h2⟩:=hj
 have hln:=h1.len
 rw[Qu] at hln
 have hb:=h1.2.2.1
 rw[Qu] at hb
 have hjl:=UT js
 have hll:=hl.len
 have h1':SlN 1 F st jv ((js.map Prod.fst).map fun x=>[x]):=by rw[Xq];exact h1
 unfold JK at hA
 simp only[Qd,QF,QB] at hA
 obtain⟨⟨hA1,hA2⟩,hA3⟩:=hA
 have k0:Vd st (st.new (.row [.bool false])):=Vd.new st _
 have S0:=Vs.of k0 hF
 -- the sum of the lengths
 have hL:∀(fr:Fr),fr.ds=[]->fr.get 1=some jv->fr.get 2=some (.fptr [lv,pv,.int .i64 N] 0)->fr.get 4=some (.ptr st.next 0)->fr.get 5=some Z0->fr.get 10=some jv->fr.get 11=some (ZI js.length)->fr.get 12=some Z0 ->
   ∃ FR,FR.ds=[]/\Vx (ac (m+1) Y To none) (m+1) fr (st.new (.row [.bool false]))=.exit 0 FR (st.new (.row [.bool false]))/\FR.get 1=some jv/\FR.get 2=some (.fptr [lv,pv,.int .i64 N] 0)/\FR.get 4=some (.ptr st.next 0)/\FR.get 5=some (ZI ((tot js))):=by
  intro fr d0 g1 g2 g4 g5 g10 g11 g12
  refine Ws (B:=ac (m+1) Y To none) (N:=js.length) (Inv:=fun k fr st1=>fr.ds=[]/\fr.get 1=some jv/\fr.get 2=some (.fptr [lv,pv,.int .i64 N] 0)/\fr.get 4=some (.ptr st.next 0)/\fr.get 5=some (ZI ((tot (js.take k))))/\fr.get 10=some jv/\fr.get 11=some (ZI js.length)/\fr.get 12=some (ZI k)/\st1=st.new (.row [.bool false]))
   (Out:=fun r=>∃ FR,FR.ds=[]/\r=.exit 0 FR (st.new (.row [.bool false]))/\FR.get 1=some jv/\FR.get 2=some (.fptr [lv,pv,.int .i64 N] 0)/\FR.get 4=some (.ptr st.next 0)/\FR.get 5=some (ZI ((tot js)))) ?_ js.length 0 fr _ (m+1) (by omega) (by omega) ⟨d0,g1,g2,g4,by simpa [tot] using g5,g10,g11,g12,rfl⟩
  intro k fr st1 hk ⟨d0,g1,g2,g4,g5,g10,g11,g12,e1⟩
  subst e1
  have hlt:=Wt k js.length
  by_cases hkN:k < js.length
  ·have hx:js[k]?=some js[k]:=Qn hkN
   generalize js[k]=p at hx
   obtain⟨pa,ia,lda⟩:=SlN.at1 h1' (k:=k) (x:=p.1) (by rw[Q5,hx];rfl)
   have lda:=lda _ S0
   obtain⟨e1,e2⟩:=h2 p (Qr hx)
   have hel:=e1.len (st.new (.row [.bool false]))
   rw[Qu] at hel
   have heb:=e1.2.2.1
   rw[Qu] at heb
   have had:=WC (i:=k) (by omega)
   have htl:=tot_le js k
   have htl1:=tot_le js (k+1)
   have htt:=tot_take hx
   have ha:=addN (i:=tot (js.take k)) (j:=p.2.length) (by omega)
   rw[Qs hkN] at hlt
   obtain⟨J1,H1,O1_13⟩:∃ fr',ar (m+1) Y wg30_3 fr (st.new (.row [.bool false]))=.ok fr' (st.new (.row [.bool false]))/\fr'.get 13=some (.bool true):=⟨_,by simp only[amE,rQ,↓reduceIte,rA,g11,g12,wg30_3,hlt]<;>rfl,gh⟩
   have V1_1:=ag H1 g1
   have V1_2:=ag H1 g2
   have V1_4:=ag H1 g4
   have V1_5:=ag H1 g5
   have V1_10:=ag H1 g10
   have V1_11:=ag H1 g11
   have V1_12:=ag H1 g12
   have W1:=ad H1 d0
   obtain⟨J2,H2,O2_7⟩:∃ fr',ar (m+1) Y wg30_4 J1 (st.new (.row [.bool false]))=.ok fr' (st.new (.row [.bool false]))/\fr'.get 7=some (p.1):=⟨_,by simp only[amE,rQ,↓reduceIte,rA,V1_10,V1_12,wg30_4,ia,lda]<;>rfl,gh⟩
   have V2_1:=ag H2 V1_1
   have V2_2:=ag H2 V1_2
   have V2_4:=ag H2 V1_4
   have V2_5:=ag H2 V1_5
   have V2_10:=ag H2 V1_10
   have V2_11:=ag H2 V1_11
   have V2_12:=ag H2 V1_12
   have W2:=ad H2 W1
   obtain⟨J3,H3,O3_5⟩:∃ fr',ar (m+1) Y wg30_5 J2 (st.new (.row [.bool false]))=.ok fr' (st.new (.row [.bool false]))/\fr'.get 5=some (ZI ((tot (js.take k)+p.2.length))):=⟨_,by simp only[amE,rQ,↓reduceIte,rA,V2_5,O2_7,wg30_5,hel,ha]<;>rfl,gh⟩
   have V3_1:=ag H3 V2_1
   have V3_2:=ag H3 V2_2
   have V3_4:=ag H3 V2_4
   have V3_10:=ag H3 V2_10
   have V3_11:=ag H3 V2_11
   have V3_12:=ag H3 V2_12
   have W3:=ad H3 W2
   obtain⟨J4,H4,O4_12⟩:∃ fr',ar (m+1) Y wg30_6 J3 (st.new (.row [.bool false]))=.ok fr' (st.new (.row [.bool false]))/\fr'.get 12=some (ZI ((k+1))):=⟨_,by simp only[amE,rQ,↓reduceIte,rA,V3_12,wg30_6,had]<;>rfl,gh⟩
   have V4_1:=ag H4 V3_1
   have V4_2:=ag H4 V3_2
   have V4_4:=ag H4 V3_4
   have V4_10:=ag H4 V3_10
   have V4_11:=ag H4 V3_11
   have V4_5:=ag H4 O3_5
   have W4:=ad H4 W3
   have hI4:ac (m+1) Y To none fr (st.new (.row [.bool false]))=.norm J4 (st.new (.row [.bool false])):=by
    simp only[amE,rQ,↓reduceIte,rA,To,b00,b11,b22,b33,H1,H2,H3,H4,O1_13]
   rw[hI4]
   exact⟨hkN,W4,V4_1,V4_2,V4_4,by rw[htt];exact V4_5,V4_10,V4_11,O4_12,rfl⟩
  ·rw[Qp hkN] at hlt
   have hkl:k=js.length:=by omega
   rw[hkl,QH] at g5
   obtain⟨J5,H5,O5_13⟩:∃ fr',ar (m+1) Y wg30_3 fr (st.new (.row [.bool false]))=.ok fr' (st.new (.row [.bool false]))/\fr'.get 13=some (.bool false):=⟨_,by simp only[amE,rQ,↓reduceIte,rA,g11,g12,wg30_3,hlt]<;>rfl,gh⟩
   have V5_1:=ag H5 g1
   have V5_2:=ag H5 g2
   have V5_4:=ag H5 g4
   have V5_5:=ag H5 g5
   have W5:=ad H5 d0
   have hI5:ac (m+1) Y To none fr (st.new (.row [.bool false]))=.exit 0 J5 (st.new (.row [.bool false])):=by
    simp only[amE,rQ,↓reduceIte,rA,To,b00,b11,b22,b33,H5,O5_13]
   rw[hI5]
   exact⟨_,W5,rfl,V5_1,V5_2,V5_4,V5_5⟩
 -- the range over the entries
 have hR:∀(fr:Fr) (s:St),Vd st s->s.get st.next=some (.row [.bool false])->st.next < s.next->fr.ds=[]->∀ c,s.get c=some (.row [jv])->c < s.next->fr.get 2=some (.fptr [lv,pv,.int .i64 N] 0)->fr.get 4=some (.ptr st.next 0)->fr.get 31=some (.func (.func 107) [] [.ptr c 0]) ->
   ∃ s',ac (m+1) Y wr30_0 none fr s=.norm { fr with ds:=.coll::fr.ds } s'/\Vd s s':=by
  intro fr s ks gs ns d0 c hc hcn g2 g4 g31
  obtain⟨s',hh⟩:=SI (ps:=[32,33]) (asg:=wa30_0) (body:=wy30_0) (fr:=fr) (s:=s) hj' m Y hn (x:=.t 31) (c:=c) (by show (fr.get 31).getD .undef=_;rw[g31];rfl) rfl (Inv:=fun _ s1=>Vd s s1) (Fin:=fun _=>False)
   (fun d s1 h=>⟨(Vs.of ks hF).trans (fun i hi=>h.2 i (Qz (hF i hi) ks.1)),by rw[h.2 c hcn];exact hc⟩) (fun d s1 s2 h k=>h.trans k)
   (fun d s1 l h=>h.put _ _ (Qw _)) (fun _ _ h=>h) (Vd.new s _) (fun p q i e s1 hp hi h0 hL0 hL1=>by
    have hm1:=Qr hp
    have hm2:=Qr hi
    have hg:=hA3 q hm1 e hm2
    have he:=(h2 q hm1).2 e hm2
    have hfz:=fzJ_en hm1 hm2
    unfold En.good at hg
    simp only[Qd,QF] at hg
    obtain⟨⟨⟨⟨⟨⟨q1,q2⟩,q3⟩,q4⟩,q5⟩,q6⟩,q7⟩:=hg
    have hfe:4200+e.d.fz+e.seen.length<=e.fz:=by unfold En.fz;omega
    obtain⟨o1,o2,o3,o4,o5,o6⟩:=he
    obtain⟨a,b,c',hd,_⟩:=e.d.cells_abc
    have hcs:e.cells=[.int .i64 e.leaf,.int .i64 e.ver,.int .i64 e.prop,.int .i64 e.gate,e.vsl,a,b,c',e.ssl]:=by unfold En.cells;rw[hd];rfl
    have c9:=e.cells9
    rw[hcs] at c9 ⊢
    generalize hcl:[AV.int .i64 e.leaf,.int .i64 e.ver,.int .i64 e.prop,.int .i64 e.gate,e.vsl,a,b,c',e.ssl]=cl at c9
    obtain⟨fB,hfB⟩:∃ fB,fB=VL [32,33] [atV p i,.agg cl] { fr with ds:=[] }:=⟨_,rfl⟩
    have gB33:fB.get 33=some (.agg cl):=by rw[hfB];simp only[VL,Fr.get_set,rQ,↓reduceIte]
    have gB2:fB.get 2=some (.fptr [lv,pv,.int .i64 N] 0):=by rw[hfB];simp only[VL,Fr.get_set,rQ,↓reduceIte];exact g2
    have gB4:fB.get 4=some (.ptr st.next 0):=by rw[hfB];simp only[VL,Fr.get_set,rQ,↓reduceIte];exact g4
    have dB:fB.ds=[]:=by rw[hfB];rfl
    rw[<-hfB]
    have sto:Vt 9 (s1.new (.row ze9)) (.ptr s1.next 0) (.agg cl)=some ((s1.new (.row ze9)).put s1.next (.row cl)):=VQ rfl c9.1 c9.2
    have k2:Vd s1 ((s1.new (.row ze9)).put s1.next (.row cl)):=(Vd.refl s1).newput _ _
    have g2':((s1.new (.row ze9)).put s1.next (.row cl)).get s1.next=some (.row cl):=by rw[St.get_put,Qm rfl]
    have n2':s1.next < ((s1.new (.row ze9)).put s1.next (.row cl)).next:=by simp
    unfold ze9 at sto k2 g2' n2'
    generalize hs2:(s1.new (.row _)).put s1.next (.row cl)=s2 at sto k2 g2' n2'
    obtain⟨J6,H6,O6_9⟩:∃ fr',ar (m+1) Y wg30_10 fB s1=.ok fr' s2/\fr'.get 9=some (.ptr s1.next 0):=⟨_,by simp only[amE,rQ,↓reduceIte,rA,gB33,wg30_10,sto]<;>rfl,gh⟩
    have V6_2:=ag H6 gB2
    have hI1:ac (m+1) Y wa30_0 (some s.next) fB s1=.norm J6 s2:=by
     simp only[amE,rQ,↓reduceIte,rA,wa30_0,b00,b11,b22,b33,H6]
    have L1:s2.get s.next=some (.loop .ready):=by rw[k2.2 _ hL1];exact hL0
    refine⟨_,_,hI1,k2,.inl ?_⟩
    have k3:Vd s (s2.put s.next (.loop .busy)):=(h0.trans k2).put _ _ (Qw _)
    have hne:s1.next≠s.next:=by omega
    have g3:(s2.put s.next (.loop .busy)).get s1.next=some (.row cl):=by rw[St.get_put,Qe hne];exact g2'
    have g3L:(s2.put s.next (.loop .busy)).get s.next=some (.loop .busy):=by rw[St.get_put,Qm rfl]
    have n3:(s2.put s.next (.loop .busy)).next=s2.next:=rfl
    generalize s2.put s.next (.loop .busy)=s3 at k3 g3 g3L n3
    subst hcl
    have l0:=Vk g3 (k:=0) rfl
    have l1:=Vk g3 (k:=1) rfl
    have l2:=Vk g3 (k:=2) rfl
    have l3:Vf true 2 s3 (.ptr s1.next 3)=some (.agg [.int .i64 e.gate,e.vsl]):=WE g3 rfl rfl
    have bu:=build3 (.int .i64 e.leaf) (.int .i64 e.ver) (.int .i64 e.prop)
    obtain⟨r,hr⟩:∃ r,m+1=r+e.seen.length+4+4:=⟨m+1 - (e.seen.length+8),by omega⟩
    have c66:((gT (m+1)).cg Y).fn 66 [.lst 3 [.int .i64 e.leaf,.int .i64 e.ver,.int .i64 e.prop] true] s3=.ret (.bool true) s3:=by
     have hS:SlI (fun _=>False) s3 (.lst 3 [.int .i64 e.leaf,.int .i64 e.ver,.int .i64 e.prop] true) [e.leaf,e.ver,e.prop]:=SlN.lst (by omega) _ _ (by intro x hx;simp at hx;rcases hx with rfl | rfl | rfl<;>exact⟨rfl,rfl⟩) (by show 3<=_;omega) rfl rfl
     have:=numbers_run (r+e.seen.length+4) Y s3 hS (by show 3 < _;omega)
     rw[<-hr] at this
     have hb:[e.leaf,e.ver,e.prop].all okN=true:=by simp[q1,q2,q3]
     rw[hb] at this
     exact this
    obtain⟨s4,c67,k4⟩:=valuesP_run e ⟨o1,o2,o3,o4,o5,o6⟩ (.int .i64 e.gate) m Y s3 (by omega)
    rw[q4] at c67
    have c67:((gT (m+1)).cg Y).fn 67 [.agg [.int .i64 e.gate,e.vsl]] s3=.ret (.bool true) s4:=c67
    obtain⟨s5,c68,k5⟩:=check68_run e.d m Y (fun _=>False) s4 e.d.cells (VU.line _ s4 e.d o4) (fun _ h=>h.elim) (by omega)
    rw[hd,q5] at c68
    have c68:((gT (m+1)).cg Y).fn 68 [.agg [a,b,c']] s4=.ret Z0 s5:=c68
    have n3':s1.next < s3.next:=by rw[n3];exact n2'
    have g4':s4.get s1.next=_:=(k4.2 _ n3').trans g3
    have g5':s5.get s1.next=_:=(k5.2 _ (Qz n3' k4.1)).trans g4'
    have l5':Vf true 3 s4 (.ptr s1.next 5)=some (.agg [a,b,c']):=WE g4' rfl rfl
    have l8:=Vk g5' (k:=8) rfl
    have hlen:∀ st,(bif VD 0 e.ssl then Wm st e.ssl else none)=some (ZI e.seen.length):=fun st=>SlI.len (JA e.snl e.sex e.seen o5 o6 (fun _=>False) s5) st
    have hne1:Vr false .neq (ZI e.seen.length) (ZI ls.length)=some (.bool false):=by rw[neqN,Qs q6];rfl
    have c66':((gT (m+1)).cg Y).fn 66 [e.ssl] s5=.ret (.bool true) s5:=by
     have:=numbers_run (r+e.seen.length+4) Y s5 (JA e.snl e.sex e.seen o5 o6 (fun _=>False) s5) (by omega)
     rw[<-hr,q7] at this
     exact this
    have ne00':=ne00
    obtain⟨J7,H7,O7_42⟩:∃ fr',ar (m+1) Y Sq J6 s3=.ok fr' s3/\fr'.get 42=some (.bool false):=⟨_,by simp only[amE,rQ,↓reduceIte,rA,O6_9,Sq,faP,l0,l1,l2,bu,c66,WN,Qc,Qc,Qb]<;>rfl,gh⟩
    have V7_2:=ag H7 V6_2
    have V7_9:=ag H7 O6_9
    obtain⟨J8,H8,O8_48⟩:∃ fr',ar (m+1) Y Sd J7 s3=.ok fr' s4/\fr'.get 48=some (.bool false):=⟨_,by simp only[amE,rQ,↓reduceIte,rA,V7_9,O7_42,Sd,faP,l3,c67,WN,Qc,Qc,Qb]<;>rfl,gh⟩
    have V8_2:=ag H8 V7_2
    have V8_9:=ag H8 V7_9
    obtain⟨J9,H9,O9_54⟩:∃ fr',ar (m+1) Y Sm J8 s4=.ok fr' s5/\fr'.get 54=some (.bool false):=⟨_,by simp only[amE,rQ,↓reduceIte,rA,V8_9,O8_48,Sm,faP,l5',c68,ne00',Qc,Qb]<;>rfl,gh⟩
    have V9_2:=ag H9 V8_2
    have V9_9:=ag H9 V8_9
    obtain⟨J10,H10,O10_63⟩:∃ fr',ar (m+1) Y Ss J9 s5=.ok fr' s5/\fr'.get 63=some (.bool false):=⟨_,by simp only[amE,rQ,↓reduceIte,rA,V9_2,V9_9,O9_54,Ss,faP,faF,l8,hlen,YV,hll,hne1,Qc,Qb]<;>rfl,gh⟩
    have V10_9:=ag H10 V9_9
    obtain⟨J11,H11,O11_69⟩:∃ fr',ar (m+1) Y Sj J10 s5=.ok fr' s5/\fr'.get 69=some (.bool false):=⟨_,by simp only[amE,rQ,↓reduceIte,rA,V10_9,O10_63,Sj,faP,l8,c66',WN,Qc,Qc,Qb]<;>rfl,gh⟩
    have H12:ar (m+1) Y wg30_11 J6 s3=.ok J11 s5:=by show Vj _ (Sq++(Sd++(Sm++(Ss++Sj)))) _ _=_;rw[Yv H7,Yv H8,Yv H9,Yv H10];exact H11
    have hI2:ac (m+1) Y wy30_0 (some s.next) J6 s3=.norm J11 s5:=by
     simp only[amE,rQ,↓reduceIte,rA,wy30_0,b00,b11,b22,b33,H12,O11_69]
    exact⟨_,_,hI2,by rw[k5.2 _ (by have:=k4.1;omega),k4.2 _ (by omega)];exact g3L,by have:=k4.1;have:=k5.1;omega,(k3.trans k4).trans k5⟩)
  rcases hh with⟨hh,hi,_⟩|⟨_,hf⟩
  ·exact⟨s',hh,hi⟩
  ·exact hf.elim
 have hne:Vr false .neq (ZI js.length) (.int .i64 N)=some (.bool false):=by
  rw[Yk,<-hA1];simp
 have hgt:Vr false .gtr (ZI ((tot js))) (ZI 4000)=some (.bool false):=by
  rw[gtrN,Qp (by omega)]
 have hone:AV.one jv=true:=h1.one
 have e65:((gT (m+1)).cg Y).fn 65 [jv] (st.new (.row [.bool false]))=.ret (.func (.func 107) [] [.ptr (st.next+1) 0]) ((st.new (.row [.bool false])).new (.row [jv])):=S6 jv hone m Y _
 have g1s:((st.new (.row [.bool false])).new (.row [jv])).get (st.next+1)=some (.row [jv]):=by rw[St.get_new];simp
 have g1b:((st.new (.row [.bool false])).new (.row [jv])).get st.next=some (.row [.bool false]):=by rw[St.get_new,Qe (by simp),St.get_new,Qm rfl]
 have k1:Vd st ((st.new (.row [.bool false])).new (.row [jv])):=k0.trans (Vd.new _ _)
 have n1:((st.new (.row [.bool false])).new (.row [jv])).next=st.next+2:=rfl
 generalize (st.new (.row [.bool false])).new (.row [jv])=s1 at e65 g1s g1b k1 n1
 obtain⟨fA13,hA13⟩:∃ fA,fA=Vo 0 [.agg [lv,pv,.int .i64 N],jv] Fr.nil:=⟨_,rfl⟩
 have gA13_0:=gAt hA13 0
 have gA13_1:=gAt hA13 1
 have dA13:fA13.ds=[]:=by rw[hA13];rfl
 obtain⟨J14,H14,O14_2,O14_4⟩:∃ fr',ar (m+1) Y wg30_0 fA13 st=.ok fr' (st.new (.row [.bool false]))/\fr'.get 2=some (.fptr [lv,pv,.int .i64 N] 0)/\fr'.get 4=some (.ptr st.next 0):=⟨_,by simp only[amE,rQ,↓reduceIte,rA,gA13_0,wg30_0]<;>rfl,gn gh,gh⟩
 have V14_1:=ag H14 gA13_1
 have W14:=ad H14 dA13
 obtain⟨J15,H15,O15_5⟩:∃ fr',ar (m+1) Y wg30_1 J14 (st.new (.row [.bool false]))=.ok fr' (st.new (.row [.bool false]))/\fr'.get 5=some Z0:=⟨_,by simp only[amE,rQ,↓reduceIte,rA,wg30_1]<;>rfl,gh⟩
 have V15_1:=ag H15 V14_1
 have V15_2:=ag H15 O14_2
 have V15_4:=ag H15 O14_4
 have W15:=ad H15 W14
 obtain⟨J16,H16,O16_10,O16_11,O16_12⟩:∃ fr',ar (m+1) Y wg30_2 J15 (st.new (.row [.bool false]))=.ok fr' (st.new (.row [.bool false]))/\fr'.get 10=some (jv)/\fr'.get 11=some (ZI js.length)/\fr'.get 12=some Z0:=⟨_,by simp only[amE,rQ,↓reduceIte,rA,V15_1,wg30_2,hln]<;>rfl,gn (gn gh),gn gh,gh⟩
 have V16_1:=ag H16 V15_1
 have V16_2:=ag H16 V15_2
 have V16_4:=ag H16 V15_4
 have V16_5:=ag H16 O15_5
 have W16:=ad H16 W15
 obtain⟨FR,dF,hL,F1,F2,F4,F5⟩:=hL J16 W16 V16_1 V16_2 V16_4 V16_5 O16_10 O16_11 O16_12
 obtain⟨J18,H18,O18_29⟩:∃ fr',ar (m+1) Y wg30_7 FR (st.new (.row [.bool false]))=.ok fr' (st.new (.row [.bool false]))/\fr'.get 29=some (.bool false):=⟨_,by simp only[amE,rQ,↓reduceIte,rA,F1,F2,F5,wg30_7,hln,faF,ld3_2,hne,hgt,Qc,Qb]<;>rfl,gh⟩
 have V18_1:=ag H18 F1
 have V18_2:=ag H18 F2
 have V18_4:=ag H18 F4
 have W18:=ad H18 dF
 obtain⟨J19,H19,O19_31⟩:∃ fr',ar (m+1) Y wg30_9 J18 (st.new (.row [.bool false]))=.ok fr' s1/\fr'.get 31=some (.func (.func 107) [] [.ptr (st.next+1) 0]):=⟨_,by simp only[amE,rQ,↓reduceIte,rA,V18_1,wg30_9,e65]<;>rfl,gh⟩
 have V19_2:=ag H19 V18_2
 have V19_4:=ag H19 V18_4
 have W19:=ad H19 W18
 obtain⟨s2,hR,kR⟩:=hR J19 s1 k1 g1b (by omega) W19 _ g1s (by omega) V19_2 V19_4 O19_31
 obtain⟨FS,hFS⟩:∃ FS:Fr,FS={ J19 with ds:=.coll::J19.ds }:=⟨_,rfl⟩
 rw[<-hFS] at hR
 have F4:FS.get 4=some (.ptr st.next 0):=by rw[hFS];exact V19_4
 have dS:FS.ds=[.coll]:=by rw[hFS,W19]
 have gb2:s2.get st.next=some (.row [.bool false]):=by rw[kR.2 _ (by omega)];exact g1b
 have sto2:Vt 1 s2 (.ptr st.next 0) (.bool true)=some (s2.put st.next (.row [.bool true])):=
  V4 gb2 rfl rfl (by simp) rfl
 have ldr:Vf false 1 (s2.put st.next (.row [.bool true])) (.ptr st.next 0)=some (.bool true):=Vk (x:=[.bool true]) (by rw[St.get_put,Qm rfl]) rfl
 have kF:Vd st (s2.put st.next (.row [.bool true])):=(k1.trans kR).put _ _ (Qw _)
 obtain⟨J21,H21⟩:∃ fr',ar (m+1) Y wg30_13 FS s2=.ok fr' (s2.put st.next (.row [.bool true])):=⟨_,by simp only[amE,rQ,↓reduceIte,rA,F4,wg30_13,sto2]<;>rfl⟩
 have V21_4:=ag H21 F4
 have W21:=ad H21 dS
 refine⟨_,fun_of2 (mf:=wf30) (fr:=J21) t30 rfl (.inl ?q21) (coll_one W21) (by simp only[wf30,amE,V21_4,ldr]),kF⟩
 case q21=>
  rw[<-hA13]
  simp only[amE,rQ,↓reduceIte,rA,wf30,b00,b11,b22,b33,H14,H15,H16,hL,H18,H19,hR,H21,O18_29]
end
end Go.AM.D32
