import Derived.Test.YtejdliehekjicaaGreatAwWa5
import Derived.Test.YtejdliehekjicaaGreatAwRef
set_option maxRecDepth 100000
set_option linter.unusedSimpArgs false
namespace Go.AM.D32
open Go Go.AM
noncomputable section
open Nat renaming reduceEqDiff -> rQ, reduceAdd -> rA
theorem En.cells9(e:En):e.cells.length=9/\e.cells.all AV.one=true:=by
 obtain⟨a,b,c,hd,ha,hb,hc⟩:=e.d.cells_abc
 unfold En.cells
 rw[hd]
 have h1:AV.one e.vsl=true:=by unfold En.vsl V7;cases e.vnl<;>rfl
 have h2:AV.one e.ssl=true:=by unfold En.ssl slI;cases e.snl<;>rfl
 refine⟨rfl,?_⟩
 simp only[QP,QR,QN,QW,ha,hb,hc,h1,h2]
 rfl
def YQ(F:Nat->Prop)(st:St)(jv:AV)(js:List (AV × List En)):Prop:=
 RB 1 F st jv (js.map fun p=>[p.1])/\∀ p∈js,RB 9 F st p.1 (p.2.map En.cells)/\∀ e∈p.2,e.ok
theorem YQ.mono{F G:Nat->Prop}{s a:St}{jv:AV}{js:List (AV × List En)}(h:YQ F s jv js)(k:Vs F s a)(oR:∀ i,F i->G i):YQ G a jv js:=
 ⟨h.1.mono k oR,fun p hp=>⟨(h.2 p hp).1.mono k oR,(h.2 p hp).2⟩⟩
def tot(js:List (AV × List En)):Nat:=(js.map fun p=>p.2.length).sum
def fzJ(js:List (AV × List En)):Nat:=(js.map fun p=>(p.2.map En.fz).sum+p.2.length+1).sum
theorem Pl{l:List Nat}{x:Nat}(h:x∈l):x<=l.sum:=by
 induction l with
 | nil=>simp at h
 | cons a l ih=>
  simp only[Zq]
  rcases Qx.1 h with rfl | h
  ·omega
  ·have:=ih h;omega
theorem Pm{js:List (AV × List En)}{p:AV × List En}(h:p∈js):(p.2.map En.fz).sum+p.2.length+1<=fzJ js:=Pl (Q6.2 ⟨p,h,rfl⟩)
theorem Pq{js:List (AV × List En)}{p:AV × List En}{e:En}(h:p∈js)(he:e∈p.2):e.fz<=fzJ js:=by
 have h1:=Pm h
 have h2:e.fz<=(p.2.map En.fz).sum:=Pl (Q6.2 ⟨e,he,rfl⟩)
 omega
theorem fzJ_len(js:List (AV × List En)):js.length<=fzJ js:=by
 unfold fzJ
 induction js with
 | nil=>simp
 | cons p js ih=>simp only[Q4,Zq,QC];omega
theorem tot_take{js:List (AV × List En)}{k:Nat}{p:AV × List En}(hp:js[k]?=some p):tot (js.take (k+1))=tot (js.take k)+p.2.length:=by
 unfold tot
 rw[QT,hp];simp
theorem tot_le(js:List (AV × List En))(k:Nat):tot (js.take k)<=tot js:=by
 have:tot js=tot (js.take k)+tot (js.drop k):=by
  unfold tot
  rw[<-List.sum_append_nat,<-QQ,Zb]
 omega
theorem addI(x y:Int):Vr false .add (.int .i64 x) (.int .i64 y)=some (.int .i64 (aw x y)):=rfl
theorem addN{i j:Nat}(h:i+j<=9223372036854775807):Vr false .add (ZI i) (ZI j)=some (ZI ((i+j))):=by
 show some (AV.int .i64 (wr .i64 (.ofNat (i+j))))=_
 rw[wr_nat h]
theorem leqI(x y:Int):Vr false .leq (.int .i64 x) (.int .i64 y)=some (.bool (decide (x<=y))):=rfl
theorem eqlI(x y:Int):Vr false .eql (.int .i64 x) (.int .i64 y)=some (.bool (x==y)):=rfl
def wg7_0:List Vc:=[ZM 2 (ZB false)]
def wg7_1:List Vc:=[ZM 3 (ZC 0)]
def wg7_2:List Vc:=[ZV 6 0,ZN 7 6,ZM 8 (ZC 0)]
def wg7_3:List Vc:=[ZO 9 (.bin false .lss (.t 8) (.t 7))]
def wg7_4:List Vc:=[ZP 10 1 6 8,ZL 11 10,ZV 5 11]
def wg7_5:List Vc:=[ZV 12 3,ZV 13 5,ZN 14 13,ZO 15 (.bin false .add (.t 12) (.t 14)),ZV 3 15]
def wg7_6:List Vc:=[ZO 16 (.bin false .add (.t 8) (ZC 1)),ZV 8 16]
def wg7_7:List Vc:=[ZV 17 3,ZO 18 (.bin false .leq (.t 17) (ZC 80)),ZV 19 18,ZG 20 (.mv (.t 0)) 19 true,ZG 21 (.len 0 (.t 20)) 19 true,ZG 22 (.bin false .leq (.t 21) (ZC 12)) 19 true,ZO 23 (.pick (.t 19) (.t 22) (ZB false)),ZV 2 23]
def wl7_0:Vn:=(ZQ wg7_3 (.seq (.cond (.t 9) .skip (.exit 0)) (.seq (.block 1 (ZQ wg7_4 (.region wg7_5))) (.region wg7_6))))
def wf7:Vm:=⟨24,(ZQ wg7_0 (ZQ wg7_1 (.seq (ZQ wg7_2 (.block 0 (.loop wl7_0))) (ZR wg7_7)))),[.t 2]⟩
theorem t7:Ry 7=some wf7:=by kernel_rfl
def wg9_0:List Vc:=[ZO 2 (.box true (.t 0)),ZM 4 (ZB false)]
def wg9_1:List Vc:=[ZV 9 1,ZN 10 9,ZA 11 2 2,ZL 12 11,ZO 13 (.bin false .neq (.t 10) (.t 12))]
def wg9_2:List Vc:=[ZM 4 (ZB false)]
def wg9_3:List Vc:=[ZM 5 (ZC 0)]
def wg9_4:List Vc:=[ZM 6 (ZC 0)]
def wg9_5:List Vc:=[ZV 14 6,ZV 15 1,ZN 16 15,ZO 17 (.bin false .lss (.t 14) (.t 16))]
def wg9_6:List Vc:=[ZV 20 5,ZV 21 1,ZV 22 6,ZP 23 1 21 22,ZL 24 23,ZN 25 24,ZO 26 (.bin false .add (.t 20) (.t 25)),ZV 5 26]
def wg9_7:List Vc:=[ZV 27 5,ZO 28 (.bin false .gtr (.t 27) (ZC 4000))]
def wg9_8:List Vc:=[ZM 4 (ZB false)]
def wg9_9:List Vc:=[ZM 7 (ZC 0)]
def wg9_10:List Vc:=[ZV 29 7,ZV 30 1,ZV 31 6,ZP 32 1 30 31,ZL 33 32,ZN 34 33,ZO 35 (.bin false .lss (.t 29) (.t 34))]
def wg9_11:List (Vc × Nat):=[(ZA 38 0 2,0),(ZL 39 38,1),(ZN 40 39,3),(ZV 41 1,0),(ZV 42 6,0),(ZP 43 1 41 42,24),(ZL 44 43,56),(ZV 45 7,0),(ZP 46 9 44 45,248),(ZK 47 9 46,504),(ZX 48 28 [(.t 40),(.t 47)],1023),(ZV 8 48,2047)]
def wg9_12:List Vc:=[ZV 49 8,ZO 50 (.un .not (.t 49))]
def wg9_13:List Vc:=[ZM 4 (ZB false)]
def wg9_14:List Vc:=[ZV 36 7,ZO 37 (.bin false .add (.t 36) (ZC 1)),ZV 7 37]
def wg9_15:List Vc:=[ZV 18 6,ZO 19 (.bin false .add (.t 18) (ZC 1)),ZV 6 19]
def wg9_16:List Vc:=[ZM 4 (ZB true)]
def Uy:Vn:=(.seq (ZQ wg9_10 (.cond (.t 35) .skip (.exit 2))) (.seq (.block 3 (.seq (.draw wg9_11 []) (ZQ wg9_12 (.cond (.t 50) (ZR wg9_13) .skip)))) (.region wg9_14)))
def Kr:Vn:=(.seq (ZQ wg9_5 (.cond (.t 17) .skip (.exit 0))) (.seq (.block 1 (ZQ wg9_6 (.seq (ZQ wg9_7 (.cond (.t 28) (ZR wg9_8) .skip)) (ZQ wg9_9 (.block 2 (.loop Uy)))))) (.region wg9_15)))
def wf9:Vm:=⟨51,(ZQ wg9_0 (.seq (ZQ wg9_1 (.cond (.t 13) (ZR wg9_2) .skip)) (ZQ wg9_3 (.seq (ZQ wg9_4 (.block 0 (.loop Kr))) (ZR wg9_16))))),[.t 4]⟩
theorem t9:Ry 9=some wf9:=by kernel_rfl
def areB(k:Nat)(N:Int)(js:List (AV × List En)):Bool:=decide ((js.length:Int)=N)&&decide (tot js<=4000)&&js.all fun p=>p.2.all (En.good k)
theorem areJ_run{F:Nat->Prop}{st:St}{lv pv jv:AV}{ls:List (List AV)}{N:Int}{js:List (AV × List En)}(hl:RB 1 F st lv ls)(hj:YQ F st jv js)(hF:∀ i,F i->i < st.next)(m:Nat)(Y:Vi)(hn:fzJ js < m):
  ∃ af,R (m+2) Y 9 [.agg [lv,pv,.int .i64 N],jv] st=.ret (.bool (areB ls.length N js)) af/\Vd st af:=by
 obtain⟨h1,h2⟩:=hj
 have bO:=h1.len
 rw[Qu] at bO
 have hb:=h1.2.2.1
 rw[Qu] at hb
 have b9:=fzJ_len js
 have d6:=hl.len
 have mh:RB 1 F st jv ((js.map Prod.fst).map fun x=>[x]):=by rw[Xq];exact h1
 -- the entries of one journal
 have hI:∀(i:Nat) (p:AV × List En) (x:AV),js[i]?=some p->∀(fr:Fr) (aB:St),Vd st aB->fr.ds=[]->fr.get 1=some jv->fr.get 2=some (.fptr [lv,pv,.int .i64 N] 0)->fr.get 5=some x->fr.get 6=some (ZI i)->fr.get 7=some Z0 ->
   ∃ FR af,Vd st af/\FR.ds=[]/\((Vx (ac (m+1) Y Uy none) (m+1) fr aB=.exit 2 FR af/\p.2.all (En.good ls.length)=true/\FR.get 1=some jv/\FR.get 2=some (.fptr [lv,pv,.int .i64 N] 0)/\FR.get 5=some x/\FR.get 6=some (ZI i)) ∨
    (Vx (ac (m+1) Y Uy none) (m+1) fr aB=.ret FR af/\p.2.all (En.good ls.length)=false/\FR.get 4=some (.bool false))):=by
  intro i p x hi fr aB k0 d0 g1 g2 g5 g6 g7
  have hp:=Qr hi
  obtain⟨e1,e2⟩:=h2 p hp
  have de:=e1.len
  rw[Qu] at de
  have kZ:=e1.2.2.1
  rw[Qu] at kZ
  have wU:=Pm hp
  obtain⟨pa,ia,lda⟩:=RB.at1 mh (k:=i) (x:=p.1) (by rw[Q5,hi];rfl)
  refine Ws (B:=ac (m+1) Y Uy none) (N:=p.2.length) (R3:=fun k fr ai=>fr.ds=[]/\fr.get 1=some jv/\fr.get 2=some (.fptr [lv,pv,.int .i64 N] 0)/\fr.get 5=some x/\fr.get 6=some (ZI i)/\fr.get 7=some (ZI k)/\Vd st ai/\(p.2.take k).all (En.good ls.length)=true)
   (Out:=fun r=>∃ FR af,Vd st af/\FR.ds=[]/\((r=.exit 2 FR af/\p.2.all (En.good ls.length)=true/\FR.get 1=some jv/\FR.get 2=some (.fptr [lv,pv,.int .i64 N] 0)/\FR.get 5=some x/\FR.get 6=some (ZI i)) ∨
    (r=.ret FR af/\p.2.all (En.good ls.length)=false/\FR.get 4=some (.bool false)))) ?_ p.2.length 0 fr aB (m+1) (by omega) (by omega) ⟨d0,g1,g2,g5,g6,g7,k0,rfl⟩
  intro k fr ai hk ⟨d0,g1,g2,g5,g6,g7,kp,aA⟩
  have am:=Wt k p.2.length
  have hS:=Vs.of kp hF
  have lda:=lda ai hS
  by_cases aQ:k < p.2.length
  ·have hx:p.2[k]?=some p.2[k]:=Qn aQ
   generalize p.2[k]=e at hx
   obtain⟨pe,ie,bk⟩:=e1.at (k:=k) (x:=e.cells) (by rw[Q5,hx];rfl)
   have bk:=bk ai hS
   have aU:=WC (i:=k) (by omega)
   have bz:=YR (En.good ls.length) p.2 k e hx
   rw[aA,Q3] at bz
   have wV:=Qr hx
   obtain⟨st2,c1,k2⟩:=entry_run e (e2 e wV) ls.length m Y ai (by have:=Pq hp wV;omega)
   have eS:((gT (m+1)).cg Y).fn 28 [ZI ls.length,.agg e.cells] ai=.ret (.bool (e.good ls.length)) st2:=c1
   rw[Qs aQ] at am
   generalize e.good ls.length=B at *
   obtain⟨J1,H1,O1_35⟩:∃ aa,ar (m+1) Y wg9_10 fr ai=.ok aa ai/\aa.get 35=some (.bool true):=⟨_,by simp only[Rw,rQ,rA,g1,g6,g7,wg9_10,ia,lda,de,am]<;>rfl,gh⟩
   have V1_1:=ag H1 g1
   have V1_2:=ag H1 g2
   have V1_6:=ag H1 g6
   have V1_7:=ag H1 g7
   obtain⟨J2,H2,K2,O2_8⟩:∃ aa,VK ((gT (m+1)).cg Y) wg9_11 [] J1 ai=.ok aa st2/\Kp [1,2,5,6,7,35] J1 aa/\aa.get 8=some (.bool B):=⟨_,Wj rfl (by simp only[Rw,rQ,rA,V1_1,V1_2,V1_6,V1_7,wg9_11,RI,YV,d6,ia,lda,ie,bk,eS]<;>rfl),Kp.refl.s.s.s.s.s.s.s.s.s.s.s.s,gh⟩
   have V2_1:=K2.g 1 V1_1
   have V2_2:=K2.g 2 V1_2
   have V2_5:=K2.g 5 (ag H1 g5)
   have V2_6:=K2.g 6 V1_6
   have V2_7:=K2.g 7 V1_7
   have W2:=K2.1.trans (ad H1 d0)
   obtain⟨J3,H3,O3_50⟩:∃ aa,ar (m+1) Y wg9_12 J2 st2=.ok aa st2/\aa.get 50=some (.bool (!B)):=⟨_,by simp only[Rw,rQ,rA,O2_8,wg9_12,WN,Qc,Qb]<;>rfl,gh⟩
   have V3_1:=ag H3 V2_1
   have W3:=ad H3 W2
   generalize jp:(!B)=C4 at *
   cases C4 with
   | true=>
    obtain⟨J5,H5,O5_4⟩:∃ aa,ar (m+1) Y wg9_13 J3 st2=.ok aa st2/\aa.get 4=some (.bool false):=⟨_,by simp only[Rw,rQ,rA,wg9_13]<;>rfl,gh⟩
    have W5:=ad H5 W3
    have bV:ac (m+1) Y Uy none fr ai=.ret J5 st2:=by
     simp only[Rw,rQ,rA,Uy,Rx,R5,R6,R7,H1,H2,H3,H5,O1_35,O3_50]
    rw[bV]
    exact⟨_,_,kp.trans k2,W5,.inr ⟨rfl,WV (k:=k+1) (by rw[bz];simpa using jp),O5_4⟩⟩
   | false=>
    obtain⟨J6,H6,O6_7⟩:∃ aa,ar (m+1) Y wg9_14 J3 st2=.ok aa st2/\aa.get 7=some (ZI ((k+1))):=⟨_,by simp only[Rw,rQ,rA,(ag H3 V2_7),wg9_14,aU]<;>rfl,gh⟩
    have ed:ac (m+1) Y Uy none fr ai=.norm J6 st2:=by
     simp only[Rw,rQ,rA,Uy,Rx,R5,R6,R7,H1,H2,H3,H6,O1_35,O3_50]
    rw[ed]
    exact⟨aQ,(ad H6 W3),(ag H6 V3_1),(ag H6 (ag H3 V2_2)),(ag H6 (ag H3 V2_5)),(ag H6 (ag H3 V2_6)),O6_7,kp.trans k2,by rw[bz];simpa using jp⟩
  ·rw[Qp aQ] at am
   have ce:k=p.2.length:=by omega
   rw[ce,QH] at aA
   obtain⟨J7,H7,O7_35⟩:∃ aa,ar (m+1) Y wg9_10 fr ai=.ok aa ai/\aa.get 35=some (.bool false):=⟨_,by simp only[Rw,rQ,rA,g1,g6,g7,wg9_10,ia,lda,de,am]<;>rfl,gh⟩
   have V7_1:=ag H7 g1
   have V7_2:=ag H7 g2
   have W7:=ad H7 d0
   have kV:ac (m+1) Y Uy none fr ai=.exit 2 J7 ai:=by
    simp only[Rw,rQ,rA,Uy,Rx,R5,R6,R7,H7,O7_35]
   rw[kV]
   exact⟨_,_,kp,W7,.inl ⟨rfl,aA,V7_1,V7_2,(ag H7 g5),(ag H7 g6)⟩⟩
 have hO:∀(fr:Fr),fr.ds=[]->fr.get 1=some jv->fr.get 2=some (.fptr [lv,pv,.int .i64 N] 0)->fr.get 5=some Z0->fr.get 6=some Z0 ->
   ∃ FR af,Vd st af/\FR.ds=[]/\((Vx (ac (m+1) Y Kr none) (m+1) fr st=.exit 0 FR af/\(decide (tot js<=4000)&&js.all fun p=>p.2.all (En.good ls.length))=true) ∨
    (Vx (ac (m+1) Y Kr none) (m+1) fr st=.ret FR af/\(decide (tot js<=4000)&&js.all fun p=>p.2.all (En.good ls.length))=false/\FR.get 4=some (.bool false))):=by
  intro fr d0 g1 g2 g5 g6
  refine Ws (B:=ac (m+1) Y Kr none) (N:=js.length) (R3:=fun k fr ai=>fr.ds=[]/\fr.get 1=some jv/\fr.get 2=some (.fptr [lv,pv,.int .i64 N] 0)/\fr.get 5=some (ZI ((tot (js.take k))))/\fr.get 6=some (ZI k)/\Vd st ai/\tot (js.take k)<=4000/\((js.take k).all fun p=>p.2.all (En.good ls.length))=true)
   (Out:=fun r=>∃ FR af,Vd st af/\FR.ds=[]/\((r=.exit 0 FR af/\(decide (tot js<=4000)&&js.all fun p=>p.2.all (En.good ls.length))=true) ∨
    (r=.ret FR af/\(decide (tot js<=4000)&&js.all fun p=>p.2.all (En.good ls.length))=false/\FR.get 4=some (.bool false)))) ?_ js.length 0 fr st (m+1) (by omega) (by omega) ⟨d0,g1,g2,g5,g6,Vd.refl st,by simp[tot],rfl⟩
  intro i fr ai hk ⟨d0,g1,g2,g5,g6,kp,ht,aA⟩
  have am:=Wt i js.length
  have hS:=Vs.of kp hF
  by_cases gG:i < js.length
  ·have hx:js[i]?=some js[i]:=Qn gG
   generalize js[i]=p at hx
   have hp:=Qr hx
   obtain⟨pa,ia,lda⟩:=RB.at1 mh (k:=i) (x:=p.1) (by rw[Q5,hx];rfl)
   have lda:=lda ai hS
   obtain⟨e1,e2⟩:=h2 p hp
   have de:=e1.len ai
   rw[Qu] at de
   have kZ:=e1.2.2.1
   rw[Qu] at kZ
   have aU:=WC (i:=i) (by omega)
   have ha:=addN (i:=tot (js.take i)) (j:=p.2.length) (by omega)
   have nz:=tot_take hx
   have en:=gtrN (tot (js.take i)+p.2.length) 4000
   have bz:=YR (fun p:AV × List En=>p.2.all (En.good ls.length)) js i p hx
   rw[aA,Q3] at bz
   have rH:=tot_le js (i+1)
   rw[Qs gG] at am
   by_cases eT:4000 < tot (js.take i)+p.2.length
   ·rw[Qs eT] at en
    have hf:(decide (tot js<=4000)&&js.all fun p=>p.2.all (En.good ls.length))=false:=by rw[Qp (by omega)];rfl
    obtain⟨J8,H8,O8_17⟩:∃ aa,ar (m+1) Y wg9_5 fr ai=.ok aa ai/\aa.get 17=some (.bool true):=⟨_,by simp only[Rw,rQ,rA,g1,g6,wg9_5,bO,am]<;>rfl,gh⟩
    have W8:=ad H8 d0
    obtain⟨J9,H9,O9_5⟩:∃ aa,ar (m+1) Y wg9_6 J8 ai=.ok aa ai/\aa.get 5=some (ZI ((tot (js.take i)+p.2.length))):=⟨_,by simp only[Rw,rQ,rA,(ag H8 g1),(ag H8 g5),(ag H8 g6),wg9_6,ia,lda,de,ha]<;>rfl,gh⟩
    have W9:=ad H9 W8
    obtain⟨J10,H10,O10_28⟩:∃ aa,ar (m+1) Y wg9_7 J9 ai=.ok aa ai/\aa.get 28=some (.bool true):=⟨_,by simp only[Rw,rQ,rA,O9_5,wg9_7,en]<;>rfl,gh⟩
    have W10:=ad H10 W9
    obtain⟨J11,H11,O11_4⟩:∃ aa,ar (m+1) Y wg9_8 J10 ai=.ok aa ai/\aa.get 4=some (.bool false):=⟨_,by simp only[Rw,rQ,rA,wg9_8]<;>rfl,gh⟩
    have ga:ac (m+1) Y Kr none fr ai=.ret J11 ai:=by
     simp only[Rw,rQ,rA,Kr,Rx,R5,R6,R7,H8,H9,H10,H11,O8_17,O10_28]
    rw[ga]
    exact⟨_,_,kp,(ad H11 W10),.inr ⟨rfl,hf,O11_4⟩⟩
   ·rw[Qp eT] at en
    obtain⟨J12,H12,O12_17⟩:∃ aa,ar (m+1) Y wg9_5 fr ai=.ok aa ai/\aa.get 17=some (.bool true):=⟨_,by simp only[Rw,rQ,rA,g1,g6,wg9_5,bO,am]<;>rfl,gh⟩
    have V12_1:=ag H12 g1
    have V12_6:=ag H12 g6
    obtain⟨J13,H13,O13_5⟩:∃ aa,ar (m+1) Y wg9_6 J12 ai=.ok aa ai/\aa.get 5=some (ZI ((tot (js.take i)+p.2.length))):=⟨_,by simp only[Rw,rQ,rA,V12_1,(ag H12 g5),V12_6,wg9_6,ia,lda,de,ha]<;>rfl,gh⟩
    obtain⟨J14,H14,O14_28⟩:∃ aa,ar (m+1) Y wg9_7 J13 ai=.ok aa ai/\aa.get 28=some (.bool false):=⟨_,by simp only[Rw,rQ,rA,O13_5,wg9_7,en]<;>rfl,gh⟩
    obtain⟨J15,H15,O15_7⟩:∃ aa,ar (m+1) Y wg9_9 J14 ai=.ok aa ai/\aa.get 7=some Z0:=⟨_,by simp only[Rw,rQ,rA,wg9_9]<;>rfl,gh⟩
    obtain⟨FR,st2,k2,dF,hL⟩:=hI i p _ hx J15 ai kp (ad H15 (ad H14 (ad H13 (ad H12 d0)))) (ag H15 (ag H14 (ag H13 V12_1))) (ag H15 (ag H14 (ag H13 (ag H12 g2)))) (ag H15 (ag H14 O13_5)) (ag H15 (ag H14 (ag H13 V12_6))) O15_7
    rcases hL with⟨hL,cm,F1,F2,F5,F6⟩|⟨hL,cm,F4⟩
    ·rw[cm] at bz
     obtain⟨J16,H16,O16_6⟩:∃ aa,ar (m+1) Y wg9_15 FR st2=.ok aa st2/\aa.get 6=some (ZI ((i+1))):=⟨_,by simp only[Rw,rQ,rA,F6,wg9_15,aU]<;>rfl,gh⟩
     have V16_5:=ag H16 F5
     have ub:ac (m+1) Y Kr none fr ai=.norm J16 st2:=by
      simp only[Rw,rQ,rA,Kr,Rx,R5,R6,R7,H12,H13,H14,H15,hL,H16,O12_17,O14_28]
     rw[ub]
     exact⟨gG,(ad H16 dF),(ag H16 F1),(ag H16 F2),by rw[nz];exact V16_5,O16_6,k2,by omega,bz⟩
    ·rw[cm] at bz
     have uc:ac (m+1) Y Kr none fr ai=.ret FR st2:=by
      simp only[Rw,rQ,rA,Kr,Rx,R5,R6,R7,H12,H13,H14,H15,hL,O12_17,O14_28]
     rw[uc]
     exact⟨_,_,k2,dF,.inr ⟨rfl,by rw[WV (k:=i+1) bz,QK],F4⟩⟩
  ·rw[Qp gG] at am
   have ce:i=js.length:=by omega
   rw[ce,QH] at aA ht
   obtain⟨J18,H18,O18_17⟩:∃ aa,ar (m+1) Y wg9_5 fr ai=.ok aa ai/\aa.get 17=some (.bool false):=⟨_,by simp only[Rw,rQ,rA,g1,g6,wg9_5,bO,am]<;>rfl,gh⟩
   have ud:ac (m+1) Y Kr none fr ai=.exit 0 J18 ai:=by
    simp only[Rw,rQ,rA,Kr,Rx,R5,R6,R7,H18,O18_17]
   rw[ud]
   exact⟨_,_,kp,(ad H18 d0),.inl ⟨rfl,by rw[aA,Qs ht];rfl⟩⟩
 have az:Vr false .neq (ZI js.length) (.int .i64 N)=some (.bool (!decide ((js.length:Int)=N))):=by
  rw[Yk];rfl
 unfold areB
 rw[Bool.and_assoc]
 generalize decide ((js.length:Int)=N)=A at *
 cases A with
 | false=>
  obtain⟨fA19,lh⟩:∃ fA,fA=Vo 0 [.agg [lv,pv,.int .i64 N],jv] Fr.nil:=⟨_,rfl⟩
  have gA19_0:=R9 lh 0
  have gA19_1:=R9 lh 1
  have dA19:fA19.ds=[]:=by rw[lh];rfl
  obtain⟨J20,H20,O20_2⟩:∃ aa,ar (m+1) Y wg9_0 fA19 st=.ok aa st/\aa.get 2=some (.fptr [lv,pv,.int .i64 N] 0):=⟨_,by simp only[Rw,rQ,rA,gA19_0,wg9_0]<;>rfl,gn gh⟩
  obtain⟨J21,H21,O21_13⟩:∃ aa,ar (m+1) Y wg9_1 J20 st=.ok aa st/\aa.get 13=some (.bool true):=⟨_,by simp only[Rw,rQ,rA,(ag H20 gA19_1),O20_2,wg9_1,bO,RI,ld3_2,az,Qb]<;>rfl,gh⟩
  obtain⟨J22,H22,O22_4⟩:∃ aa,ar (m+1) Y wg9_2 J21 st=.ok aa st/\aa.get 4=some (.bool false):=⟨_,by simp only[Rw,rQ,rA,wg9_2]<;>rfl,gh⟩
  refine⟨_,Ve (mf:=wf9) (fr:=J22) t9 rfl (.inl ?q22) (ad H22 (ad H21 (ad H20 dA19))) (by simp only[wf9,Rw,O22_4,Q8,Q3,Qy,QK,Qc,Qb]),Vd.refl st⟩
  case q22=>
   rw[<-lh]
   simp only[Rw,rQ,rA,wf9,Rx,R5,R6,R7,H20,H21,H22,O21_13]
 | true=>
  obtain⟨fA23,jr⟩:∃ fA,fA=Vo 0 [.agg [lv,pv,.int .i64 N],jv] Fr.nil:=⟨_,rfl⟩
  have gA23_0:=R9 jr 0
  have gA23_1:=R9 jr 1
  have dA23:fA23.ds=[]:=by rw[jr];rfl
  obtain⟨J24,H24,O24_2⟩:∃ aa,ar (m+1) Y wg9_0 fA23 st=.ok aa st/\aa.get 2=some (.fptr [lv,pv,.int .i64 N] 0):=⟨_,by simp only[Rw,rQ,rA,gA23_0,wg9_0]<;>rfl,gn gh⟩
  have V24_1:=ag H24 gA23_1
  obtain⟨J25,H25,O25_13⟩:∃ aa,ar (m+1) Y wg9_1 J24 st=.ok aa st/\aa.get 13=some (.bool false):=⟨_,by simp only[Rw,rQ,rA,V24_1,O24_2,wg9_1,bO,RI,ld3_2,az,Qc]<;>rfl,gh⟩
  obtain⟨J26,H26,O26_5⟩:∃ aa,ar (m+1) Y wg9_3 J25 st=.ok aa st/\aa.get 5=some Z0:=⟨_,by simp only[Rw,rQ,rA,wg9_3]<;>rfl,gh⟩
  obtain⟨J27,H27,O27_6⟩:∃ aa,ar (m+1) Y wg9_4 J26 st=.ok aa st/\aa.get 6=some Z0:=⟨_,by simp only[Rw,rQ,rA,wg9_4]<;>rfl,gh⟩
  obtain⟨FR,st2,k2,dF,hL⟩:=hO J27 (ad H27 (ad H26 (ad H25 (ad H24 dA23)))) (ag H27 (ag H26 (ag H25 V24_1))) (ag H27 (ag H26 (ag H25 O24_2))) (ag H27 O26_5) O27_6
  rcases hL with⟨hL,cm⟩|⟨hL,cm,F4⟩
  ·rw[cm]
   obtain⟨J28,H28,O28_4⟩:∃ aa,ar (m+1) Y wg9_16 FR st2=.ok aa st2/\aa.get 4=some (.bool true):=⟨_,by simp only[Rw,rQ,rA,wg9_16]<;>rfl,gh⟩
   refine⟨_,Ve (mf:=wf9) (fr:=J28) t9 rfl (.inl ?q28) (ad H28 dF) (by simp only[wf9,Rw,O28_4,Q8,Q3,Qy,QK,Qc,Qb]),k2⟩
   case q28=>
    rw[<-jr]
    simp only[Rw,rQ,rA,wf9,Rx,R5,R6,R7,H24,H25,H26,H27,hL,H28,O25_13]
  ·rw[cm]
   refine⟨_,Ve (mf:=wf9) (fr:=FR) t9 rfl (.inl ?q29) dF (by simp only[wf9,Rw,F4,Q8,Q3,Qy,QK,Qc,Qb]),k2⟩
   case q29=>
    rw[<-jr]
    simp only[Rw,rQ,rA,wf9,Rx,R5,R6,R7,H24,H25,H26,H27,hL,O25_13]
end
noncomputable section
open Nat renaming reduceEqDiff -> rQ, reduceAdd -> rA
theorem VQ{z:Nat}{st:St}{zs x:List AV}(hz:zs.length=z)(hx:x.length=z)(h1:x.all AV.one=true):Vt z (st.new (.row zs)) (.ptr st.next 0) (.agg x)=some ((st.new (.row zs)).put st.next (.row x)):=by
 simp only[Vt,St.get_new,Xj,AV.cells,hx,hz,h1]
 have:setCells zs 0 x=x:=by
  simp only[setCells,Xe,QR,Q7]
  rw[XX (by omega)];simp
 rw[this]
 simp[Qo (Qw z)]
theorem Wk{z:Nat}{st:St}{id:Nat}{x:List AV}(hg:st.get id=some (.row x))(hx:x.length=z):Vf true z st (.ptr id 0)=some (.agg x):=by
 simp only[Vf,Wy,hg,Qg,Xw]
 rw[Xx (by omega)]
 simp only[Ja,Qi,hx,QD]
theorem Vk{st:St}{id k:Nat}{x:List AV}{a:AV}(hg:st.get id=some (.row x))(hx:x[k]?=some a):Vf false 1 st (.ptr id k)=some a:=by
 simp only[Vf,Wy,hg,Qg]
 have hk:=(Qt.1 hx)
 rw[XO hk.1,hk.2]
 rfl
def VH(js:List (AV × List En)):List En:=js.flatMap (·.2)
theorem allE_take{js:List (AV × List En)}{k:Nat}{p:AV × List En}(hp:js[k]?=some p):VH (js.take (k+1))=VH (js.take k)++p.2:=by
 unfold VH
 rw[QT,hp];simp
theorem allE_len(js:List (AV × List En)):(VH js).length=tot js:=by unfold VH tot;simp[Zj]
def VF(l:List En)(i:Int):Nat:=(l.filter fun e=>e.leaf==i).length
theorem cntE_le(l:List En)(i:Int):VF l i<=l.length:=Zc ..
theorem cntE_app(l l':List En)(i:Int):VF (l++l') i=VF l i+VF l' i:=by unfold VF;simp
theorem cntE_snoc(l:List En)(e:En)(i:Int):VF (l++[e]) i=VF l i+(if (e.leaf==i)=true then 1 else 0):=by
 rw[cntE_app]
 congr 1
 unfold VF
 cases h:e.leaf==i<;>simp[h]
def ze9:List AV:=[Z0,Z0,Z0,Z0,.nilsl,Z0,.nilsl,.nilsl,.nilsl]
end
noncomputable section
open Nat renaming reduceEqDiff -> rQ, reduceAdd -> rA
def row(p:Nat)(l:List En):List (Nat × Nat × En):=l.zipIdx.map fun x=>(p,x.2,x.1)
def Vq(js:List (AV × List En)):List (Nat × Nat × En):=js.zipIdx.flatMap fun x=>row x.2 x.1.2
theorem row_take{p:Nat}{l:List En}{k:Nat}{e:En}(h:l[k]?=some e):row p (l.take (k+1))=row p (l.take k)++[(p,k,e)]:=by
 unfold row
 have hk:=(Qt.1 h).1
 rw[QT,h,List.zipIdx_append]
 simp[Xl,Zw (Nat.le_of_lt hk)]
theorem spots_take{js:List (AV × List En)}{k:Nat}{q:AV × List En}(h:js[k]?=some q):Vq (js.take (k+1))=Vq (js.take k)++row k q.2:=by
 unfold Vq
 have hk:=(Qt.1 h).1
 rw[QT,h,List.zipIdx_append]
 simp[Xl,Zw (Nat.le_of_lt hk)]
theorem build2(a b:Int):VN [Z0,Z0] [(0,1,.int .i64 a),(1,1,.int .i64 b)]=some [.int .i64 a,.int .i64 b]:=rfl
def atV(p i:Nat):AV:=.agg [ZI p,ZI i]
def wg107_0:List Vc:=[ZL 7 1,ZN 8 7,ZM 9 (ZC 0)]
def wg107_1:List Vc:=[ZO 10 (.bin false .lss (.t 9) (.t 8))]
def wg107_2:List Vc:=[ZV 11 9,ZP 12 1 7 9,ZL 13 12,ZV 3 11,ZV 4 13]
def wg107_3:List Vc:=[ZV 14 4,ZN 15 14,ZM 16 (ZC 0)]
def wg107_4:List Vc:=[ZO 17 (.bin false .lss (.t 16) (.t 15))]
def wg107_5:List Vc:=[ZV 18 16,ZP 19 9 14 16,ZK 20 9 19,ZO 6 (.alloc [Z0,Z0,Z0,Z0,.nilsl,Z0,.nilsl,.nilsl,.nilsl]),ZV 5 18,ZS 9 6 20]
def wg107_6:List Vc:=[ZV 21 0,ZV 22 3,ZV 23 5,ZO 24 (.build [Z0,Z0] [(0,1,(.t 22)),(1,1,(.t 23))]),ZK 25 9 6,ZO 26 (.call (.t 21) [(.t 24),(.t 25)]),ZO 27 (.un .not (.t 26))]
def wg107_7:List Vc:=[ZO 28 (.bin false .add (.t 16) (ZC 1)),ZV 16 28]
def wg107_8:List Vc:=[ZO 29 (.bin false .add (.t 9) (ZC 1)),ZV 9 29]
def Jz:Vn:=(ZQ wg107_4 (.seq (.cond (.t 17) .skip (.exit 2)) (.seq (.block 3 (ZQ wg107_5 (ZQ wg107_6 (.cond (.t 27) .ret .skip)))) (.region wg107_7))))
def Ju:Vn:=(ZQ wg107_1 (.seq (.cond (.t 10) .skip (.exit 0)) (.seq (.block 1 (ZQ wg107_2 (ZQ wg107_3 (.block 2 (.loop Jz))))) (.region wg107_8))))
def wf107:Vm:=⟨30,(ZQ wg107_0 (.block 0 (.loop Ju))),[]⟩
theorem t107:Ry 107=some wf107:=by kernel_rfl
theorem iter_run{F:Nat->Prop}{st:St}{jv:AV}{js:List (AV × List En)}(hj:YQ F st jv js){c id:Nat}(m:Nat)(Y:Vi)(hn:fzJ js < m)
  {R3:List (Nat × Nat × En)->St->Prop} {Fin:St->Prop} (hS:∀ d s,R3 d s->Vs F st s/\s.get c=some (.row [jv])) (hK:∀ d s s',R3 d s->Vd s s'->R3 d s')
  (hy:∀ p q i e s,js[p]?=some q->q.2[i]?=some e->R3 (Vq (js.take p)++row p (q.2.take i)) s->∃ b s',Y id [atV p i,.agg e.cells] s=.ret (.bool b) s'/\(b=true->R3 (Vq (js.take p)++row p (q.2.take i)++[(p,i,e)]) s')/\(b=false->Fin s'))
  (s0:St) (h0:R3 [] s0):
  ∃ s',R (m+1) Y 107 [.yld id,.ptr c 0] s0=.ret (.tuple []) s'/\(R3 (Vq js) s'\/Fin s'):=by
 obtain⟨h1,h2⟩:=hj
 have bO:=h1.len
 rw[Qu] at bO
 have hb:=h1.2.2.1
 rw[Qu] at hb
 have b9:=fzJ_len js
 have mh:RB 1 F st jv ((js.map Prod.fst).map fun x=>[x]):=by rw[Xq];exact h1
 have hI:∀(i:Nat) (q:AV × List En),js[i]?=some q->∀(fr:Fr) (aB:St),R3 (Vq (js.take i)) aB->fr.ds=[]->fr.get 0=some (.yld id)->fr.get 3=some (ZI i)->fr.get 7=some jv->fr.get 8=some (ZI js.length)->fr.get 9=some (ZI i)->fr.get 14=some q.1->fr.get 15=some (ZI q.2.length)->fr.get 16=some Z0 ->
   ∃ FR af,FR.ds=[]/\((Vx (ac m Y Jz none) m fr aB=.exit 2 FR af/\R3 (Vq (js.take (i+1))) af/\FR.get 0=some (.yld id)/\FR.get 7=some jv/\FR.get 8=some (ZI js.length)/\FR.get 9=some (ZI i)) ∨
    (Vx (ac m Y Jz none) m fr aB=.ret FR af/\Fin af)):=by
  intro i q hi fr aB k0 d0 g0 g3 g7 g8 g9 ip iq iJ
  have hp:=Qr hi
  obtain⟨e1,e2⟩:=h2 q hp
  have kZ:=e1.2.2.1
  rw[Qu] at kZ
  have wU:=Pm hp
  have ax:=spots_take hi
  refine Ws (B:=ac m Y Jz none) (N:=q.2.length) (R3:=fun k fr ai=>fr.ds=[]/\fr.get 0=some (.yld id)/\fr.get 3=some (ZI i)/\fr.get 7=some jv/\fr.get 8=some (ZI js.length)/\fr.get 9=some (ZI i)/\fr.get 14=some q.1/\fr.get 15=some (ZI q.2.length)/\fr.get 16=some (ZI k)/\R3 (Vq (js.take i)++row i (q.2.take k)) ai)
   (Out:=fun r=>∃ FR af,FR.ds=[]/\((r=.exit 2 FR af/\R3 (Vq (js.take (i+1))) af/\FR.get 0=some (.yld id)/\FR.get 7=some jv/\FR.get 8=some (ZI js.length)/\FR.get 9=some (ZI i)) ∨
    (r=.ret FR af/\Fin af))) ?_ q.2.length 0 fr aB m (by omega) (by omega) ⟨d0,g0,g3,g7,g8,g9,ip,iq,iJ,by rw[Xe];simpa [row] using k0⟩
  intro k fr ai hk ⟨d0,g0,g3,g7,g8,g9,ip,iq,iJ,kp⟩
  have am:=Wt k q.2.length
  have ue:=(hS _ _ kp).1
  by_cases aQ:k < q.2.length
  ·have hx:q.2[k]?=some q.2[k]:=Qn aQ
   generalize q.2[k]=e at hx
   obtain⟨pe,ie,bk⟩:=e1.at (k:=k) (x:=e.cells) (by rw[Q5,hx];rfl)
   have bk:=bk ai ue
   have aU:=WC (i:=k) (by omega)
   have bj:Vt 9 (ai.new (.row ze9)) (.ptr ai.next 0) (.agg e.cells)=some ((ai.new (.row ze9)).put ai.next (.row e.cells)):=VQ rfl e.cells9.1 e.cells9.2
   have k2:Vd ai ((ai.new (.row ze9)).put ai.next (.row e.cells)):=(Vd.refl ai).newput _ _
   have g2:((ai.new (.row ze9)).put ai.next (.row e.cells)).get ai.next=some (.row e.cells):=by rw[St.get_put,Qm rfl]
   unfold ze9 at bj k2 g2
   generalize bD:(ai.new (.row _)).put ai.next (.row e.cells)=st2 at bj k2 g2
   have ld2:=Wk g2 e.cells9.1
   have bu:=build2 (.ofNat i) (.ofNat k)
   have zn:=hK _ _ _ kp k2
   obtain⟨b,RM,qj,cF,oW⟩:=hy i q k e st2 hi hx zn
   have qj:((gT m).cg Y).yld id [.agg [ZI i,ZI k],.agg e.cells] st2=.ret (.bool b) RM:=qj
   have pP:=row_take (p:=i) hx
   rw[Xb,<-pP] at cF
   rw[Qs aQ] at am
   obtain⟨J1,H1,O1_17⟩:∃ aa,ar m Y wg107_4 fr ai=.ok aa ai/\aa.get 17=some (.bool true):=⟨_,by simp only[Rw,rQ,rA,iq,iJ,wg107_4,am]<;>rfl,gh⟩
   have V1_14:=ag H1 ip
   have V1_16:=ag H1 iJ
   have W1:=ad H1 d0
   obtain⟨J2,H2,O2_5,O2_6⟩:∃ aa,ar m Y wg107_5 J1 ai=.ok aa st2/\aa.get 5=some (ZI k)/\aa.get 6=some (.ptr ai.next 0):=⟨_,by simp only[Rw,rQ,rA,V1_14,V1_16,wg107_5,ie,bk,bj]<;>rfl,gh,gn gh⟩
   have V2_0:=ag H2 (ag H1 g0)
   have V2_3:=ag H2 (ag H1 g3)
   have W2:=ad H2 W1
   obtain⟨J3,H3,O3_27⟩:∃ aa,ar m Y wg107_6 J2 st2=.ok aa RM/\aa.get 27=some (.bool (!b)):=⟨_,by simp only[Rw,rQ,rA,V2_0,V2_3,O2_5,O2_6,wg107_6,ld2,bu,qj,WN,Qc,Qb]<;>rfl,gh⟩
   have W3:=ad H3 W2
   generalize jp:(!b)=C4 at *
   cases C4 with
   | true=>
    have gc:ac m Y Jz none fr ai=.ret J3 RM:=by
     simp only[Rw,rQ,rA,Jz,Rx,R5,R6,R7,H1,H2,H3,O1_17,O3_27]
    rw[gc]
    exact⟨_,_,W3,.inr ⟨rfl,oW (by simpa using jp)⟩⟩
   | false=>
    obtain⟨J5,H5,O5_16⟩:∃ aa,ar m Y wg107_7 J3 RM=.ok aa RM/\aa.get 16=some (ZI ((k+1))):=⟨_,by simp only[Rw,rQ,rA,(ag H3 (ag H2 V1_16)),wg107_7,aU]<;>rfl,gh⟩
    have W5:=ad H5 W3
    have bV:ac m Y Jz none fr ai=.norm J5 RM:=by
     simp only[Rw,rQ,rA,Jz,Rx,R5,R6,R7,H1,H2,H3,H5,O1_17,O3_27]
    rw[bV]
    exact⟨aQ,W5,(ag H5 (ag H3 V2_0)),(ag H5 (ag H3 V2_3)),(ag H5 (ag H3 (ag H2 (ag H1 g7)))),(ag H5 (ag H3 (ag H2 (ag H1 g8)))),(ag H5 (ag H3 (ag H2 (ag H1 g9)))),(ag H5 (ag H3 (ag H2 V1_14))),(ag H5 (ag H3 (ag H2 (ag H1 iq)))),O5_16,cF (by simpa using jp)⟩
  ·rw[Qp aQ] at am
   have ce:k=q.2.length:=by omega
   rw[ce,QH,<-ax] at kp
   obtain⟨J6,H6,O6_17⟩:∃ aa,ar m Y wg107_4 fr ai=.ok aa ai/\aa.get 17=some (.bool false):=⟨_,by simp only[Rw,rQ,rA,iq,iJ,wg107_4,am]<;>rfl,gh⟩
   have ed:ac m Y Jz none fr ai=.exit 2 J6 ai:=by
    simp only[Rw,rQ,rA,Jz,Rx,R5,R6,R7,H6,O6_17]
   rw[ed]
   exact⟨_,_,(ad H6 d0),.inl ⟨rfl,kp,(ag H6 g0),(ag H6 g7),(ag H6 g8),(ag H6 g9)⟩⟩
 have hO:∀(fr:Fr),fr.ds=[]->fr.get 0=some (.yld id)->fr.get 7=some jv->fr.get 8=some (ZI js.length)->fr.get 9=some Z0 ->
   ∃ FR af,FR.ds=[]/\((Vx (ac m Y Ju none) m fr s0=.exit 0 FR af/\R3 (Vq js) af)\/(Vx (ac m Y Ju none) m fr s0=.ret FR af/\Fin af)):=by
  intro fr d0 g0 g7 g8 g9
  refine Ws (B:=ac m Y Ju none) (N:=js.length) (R3:=fun i fr ai=>fr.ds=[]/\fr.get 0=some (.yld id)/\fr.get 7=some jv/\fr.get 8=some (ZI js.length)/\fr.get 9=some (ZI i)/\R3 (Vq (js.take i)) ai)
   (Out:=fun r=>∃ FR af,FR.ds=[]/\((r=.exit 0 FR af/\R3 (Vq js) af)\/(r=.ret FR af/\Fin af))) ?_ js.length 0 fr s0 m (by omega) (by omega) ⟨d0,g0,g7,g8,g9,h0⟩
  intro i fr ai hk ⟨d0,g0,g7,g8,g9,kp⟩
  have am:=Wt i js.length
  have ue:=(hS _ _ kp).1
  by_cases gG:i < js.length
  ·have hx:js[i]?=some js[i]:=Qn gG
   generalize js[i]=q at hx
   obtain⟨pa,ia,lda⟩:=RB.at1 mh (k:=i) (x:=q.1) (by rw[Q5,hx];rfl)
   have lda:=lda ai ue
   have de:=(h2 q (Qr hx)).1.len ai
   rw[Qu] at de
   have aU:=WC (i:=i) (by omega)
   rw[Qs gG] at am
   obtain⟨J7,H7,O7_10⟩:∃ aa,ar m Y wg107_1 fr ai=.ok aa ai/\aa.get 10=some (.bool true):=⟨_,by simp only[Rw,rQ,rA,g8,g9,wg107_1,am]<;>rfl,gh⟩
   have V7_7:=ag H7 g7
   have V7_9:=ag H7 g9
   obtain⟨J8,H8,O8_3,O8_4⟩:∃ aa,ar m Y wg107_2 J7 ai=.ok aa ai/\aa.get 3=some (ZI i)/\aa.get 4=some (q.1):=⟨_,by simp only[Rw,rQ,rA,V7_7,V7_9,wg107_2,ia,lda]<;>rfl,gn gh,gh⟩
   have V8_9:=ag H8 V7_9
   obtain⟨J9,H9,O9_14,O9_15,O9_16⟩:∃ aa,ar m Y wg107_3 J8 ai=.ok aa ai/\aa.get 14=some (q.1)/\aa.get 15=some (ZI q.2.length)/\aa.get 16=some Z0:=⟨_,by simp only[Rw,rQ,rA,O8_4,wg107_3,de]<;>rfl,gn (gn gh),gn gh,gh⟩
   have V9_9:=ag H9 V8_9
   obtain⟨FR,st2,dF,hL⟩:=hI i q hx J9 ai kp (ad H9 (ad H8 (ad H7 d0))) (ag H9 (ag H8 (ag H7 g0))) (ag H9 O8_3) (ag H9 (ag H8 V7_7)) (ag H9 (ag H8 (ag H7 g8))) V9_9 O9_14 O9_15 O9_16
   rcases hL with⟨hL,k2,F0,F7,F8,F9⟩|⟨hL,hf⟩
   ·have nB:=Rx
    obtain⟨J10,H10,O10_9⟩:∃ aa,ar m Y wg107_8 FR st2=.ok aa st2/\aa.get 9=some (ZI ((i+1))):=⟨_,by simp only[Rw,rQ,rA,F9,wg107_8,aU]<;>rfl,gh⟩
    have jt:ac m Y Ju none fr ai=.norm J10 st2:=by
     simp only[Rw,rQ,rA,Ju,Rx,R5,R6,R7,H7,H8,H9,hL,H10,O7_10]
    rw[jt]
    exact⟨gG,(ad H10 dF),(ag H10 F0),(ag H10 F7),(ag H10 F8),O10_9,k2⟩
   ·have nB:=Rx
    have ga:ac m Y Ju none fr ai=.ret FR st2:=by
     simp only[Rw,rQ,rA,Ju,Rx,R5,R6,R7,H7,H8,H9,hL,O7_10]
    rw[ga]
    exact⟨_,_,dF,.inr ⟨rfl,hf⟩⟩
  ·rw[Qp gG] at am
   have ce:i=js.length:=by omega
   rw[ce,QH] at kp
   obtain⟨J12,H12,O12_10⟩:∃ aa,ar m Y wg107_1 fr ai=.ok aa ai/\aa.get 10=some (.bool false):=⟨_,by simp only[Rw,rQ,rA,g8,g9,wg107_1,am]<;>rfl,gh⟩
   have W12:=ad H12 d0
   have uf:ac m Y Ju none fr ai=.exit 0 J12 ai:=by
    simp only[Rw,rQ,rA,Ju,Rx,R5,R6,R7,H12,O12_10]
   rw[uf]
   exact⟨_,_,W12,.inl ⟨rfl,kp⟩⟩
 have hc:=Vk (hS _ _ h0).2 (k:=0) rfl
 obtain⟨fA13,ee⟩:∃ fA,fA=Vo 0 [.yld id,.ptr c 0] Fr.nil:=⟨_,rfl⟩
 have gA13_0:=R9 ee 0
 have gA13_1:=R9 ee 1
 have dA13:fA13.ds=[]:=by rw[ee];rfl
 obtain⟨J14,H14,O14_7,O14_8,O14_9⟩:∃ aa,ar m Y wg107_0 fA13 s0=.ok aa s0/\aa.get 7=some (jv)/\aa.get 8=some (ZI js.length)/\aa.get 9=some Z0:=⟨_,by simp only[Rw,rQ,rA,gA13_1,wg107_0,hc,bO]<;>rfl,gn (gn gh),gn gh,gh⟩
 have W14:=ad H14 dA13
 obtain⟨FR,st2,dF,hL⟩:=hO J14 W14 (ag H14 gA13_0) O14_7 O14_8 O14_9
 rcases hL with⟨hL,k2⟩|⟨hL,hf⟩
 ·have eB:R3 (Vq js) st2\/Fin st2:=.inl k2
  refine⟨_,Ve (mf:=wf107) (fr:=FR) t107 rfl (.inr ?q15) dF (by simp only[wf107,Rw,Rx]),eB⟩
  case q15=>
   rw[<-ee]
   simp only[Rw,rQ,rA,wf107,Rx,R5,R6,R7,H14,hL]
 ·have eB:R3 (Vq js) st2\/Fin st2:=.inr hf
  refine⟨_,Ve (mf:=wf107) (fr:=FR) t107 rfl (.inl ?q16) dF (by simp only[wf107,Rw,Rx]),eB⟩
  case q16=>
   rw[<-ee]
   simp only[Rw,rQ,rA,wf107,Rx,R5,R6,R7,H14,hL]
def wg65_0:List Vc:=[ZO 1 (.box false (.t 0)),ZM 2 (.c .nilfn)]
def wg65_1:List Vc:=[ZO 3 (.mkfn 107 [] [(.t 1)]),ZV 2 3]
def wf65:Vm:=⟨4,(ZQ wg65_0 (ZR wg65_1)),[.t 2]⟩
theorem t65:Ry 65=some wf65:=by kernel_rfl
theorem S6(jv:AV)(zo:AV.one jv=true)(m:Nat)(Y:Vi)(st:St):R (m+1) Y 65 [jv] st=.ret (.func (.func 107) [] [.ptr st.next 0]) (st.new (.row [jv])):=by
 have hc:jv.cells=[jv]:=by cases jv<;>first | rfl | (simp[AV.one] at zo)
 obtain⟨fA1,au⟩:∃ fA,fA=Vo 0 [jv] Fr.nil:=⟨_,rfl⟩
 have gA1_0:=R9 au 0
 have dA1:fA1.ds=[]:=by rw[au];rfl
 obtain⟨J2,H2,O2_1⟩:∃ aa,ar m Y wg65_0 fA1 st=.ok aa (st.new (.row [jv]))/\aa.get 1=some (.ptr st.next 0):=⟨_,by simp only[Rw,rQ,rA,gA1_0,wg65_0,hc]<;>rfl,gn gh⟩
 have W2:=ad H2 dA1
 obtain⟨J3,H3,O3_2⟩:∃ aa,ar m Y wg65_1 J2 (st.new (.row [jv]))=.ok aa (st.new (.row [jv]))/\aa.get 2=some (.func (.func 107) [] [.ptr st.next 0]):=⟨_,by simp only[Rw,rQ,rA,O2_1,wg65_1,Jy]<;>rfl,gh⟩
 have W3:=ad H3 W2
 refine Ve (mf:=wf65) (fr:=J3) t65 rfl (.inl ?q3) W3 (by simp only[wf65,Rw,O3_2])
 case q3=>
  rw[<-au]
  simp only[Rw,rQ,rA,wf65,Rx,R5,R6,R7,H2,H3]
end
theorem fun_of2{f n:Nat}{mf:Vm}{Y:Vi}{args:List AV}{st af:St}{fr:Fr}{v:AV}(ht:Ry f=some mf)(aR:args.length.ble mf.N=true)
  (h:Vh (gT n) Y n mf.code none (Vo 0 args Fr.nil) st=.ret fr af\/Vh (gT n) Y n mf.code none (Vo 0 args Fr.nil) st=.norm fr af) (hd:∀(DF:Nat->List AV->St->DM->Option (DM × St)) (m:DM),VO DF fr.ds af m=some (m,af)) (hr:Vg fr af mf.res=.ret v af):
  R (n+1) Y f args st=.ret v af:=by
 unfold R
 rw[Js ht]
 unfold WK
 rw[aR]
 rcases h with h | h<;>simp only[Qi,h,WY,hd,hr]
theorem coll_one{fr:Fr}{st:St}(h:fr.ds=[.coll])(DF:Nat->List AV->St->DM->Option (DM × St))(m:DM):VO DF fr.ds st m=some (m,st):=by rw[h];rfl
theorem SI{F:Nat->Prop}{st:St}{jv:AV}{js:List (AV × List En)}(hj:YQ F st jv js){c:Nat}(m:Nat)(Y:Vi)(hn:fzJ js < m){x:X}{ps:List Nat}{asg body:Vn}{fr:Fr}{s:St}
  (hx:ev fr x=.func (.func 107) [] [.ptr c 0]) (eY:ps.length=2)
  {R3:List (Nat × Nat × En)->St->Prop} {Fin:St->Prop}
  (hS:∀ d s1,R3 d s1->Vs F st s1/\s1.get c=some (.row [jv])) (hK:∀ d s1 s2,R3 d s1->Vd s1 s2->R3 d s2)
  (hL:∀ d s1 l,R3 d s1->R3 d (s1.put s.next (.loop l))) (wW:∀ s1 l,Fin s1->Fin (s1.put s.next (.loop l)))
  (h0:R3 [] (s.new (.loop .ready)))
  (hb:∀ p q i e s1,js[p]?=some q->q.2[i]?=some e->R3 (Vq (js.take p)++row p (q.2.take i)) s1->s1.get s.next=some (.loop .ready)->s.next < s1.next ->
   ∃ aJ s2,Vh (gT (m+1)) Y (m+1) asg (some s.next) (VL ps [atV p i,.agg e.cells] { fr with ds:=[] }) s1=.norm aJ s2/\Vd s1 s2 ∧
    ((∃ fr2 s3,Vh (gT (m+1)) Y (m+1) body (some s.next) aJ (s2.put s.next (.loop .busy))=.norm fr2 s3/\s3.get s.next=some (.loop .busy)/\s.next < s3.next/\R3 (Vq (js.take p)++row p (q.2.take i)++[(p,i,e)]) s3) ∨
     (∃ fr2 s3,Vh (gT (m+1)) Y (m+1) body (some s.next) aJ (s2.put s.next (.loop .busy))=.ret fr2 s3/\s3.get s.next=some (.loop .busy)/\Fin s3))):
  ∃ s',(Vh (gT (m+1)) Y (m+1) (.rfun x ps asg body) none fr s=.norm { fr with ds:=.coll::fr.ds } s'/\R3 (Vq js) s'/\s.next < s'.next) ∨
   (Vh (gT (m+1)) Y (m+1) (.rfun x ps asg body) none fr s=.ret { fr with ds:=.coll::fr.ds } s'/\Fin s'):=by
 generalize hY:Vi.set Y s.next (YZ (Vh (gT (m+1)) Y (m+1) asg (some s.next)) (Vh (gT (m+1)) Y (m+1) body (some s.next)) s.next fr ps)=Y'
 have qj:∀ args s1,Y' s.next args s1=YZ (Vh (gT (m+1)) Y (m+1) asg (some s.next)) (Vh (gT (m+1)) Y (m+1) body (some s.next)) s.next fr ps args s1:=fun args s1=>by
  rw[<-hY];simp[Vi.set]
 obtain⟨s',hr,hc⟩:=iter_run hj (c:=c) (id:=s.next) m Y' hn (R3:=fun d s1=>R3 d s1/\s1.get s.next=some (.loop .ready)/\s.next < s1.next) (Fin:=fun s1=>Fin s1/\s1.get s.next=some (.loop .ret))
  (fun d s1 h=>hS d s1 h.1) (fun d s1 s2 h k=>⟨hK d s1 s2 h.1 k,by rw[k.2 _ h.2.2];exact h.2.1,Qz h.2.2 k.1⟩)
  (fun p q i e s1 hp hi ⟨i1,i2,i3⟩=>by
   rw[qj]
   obtain⟨aJ,s2,e1,k1,hh⟩:=hb p q i e s1 hp hi i1 i2 i3
   have l1:Wh s1 s.next=some .ready:=by unfold Wh;rw[i2]
   have l2:Wh s2 s.next=some .ready:=by unfold Wh;rw[k1.2 _ i3,i2]
   have al:([atV p i,AV.agg e.cells].length.beq ps.length)=true:=by rw[eY];rfl
   unfold YZ
   rw[al,Qi,l1]
   simp only[e1,l2]
   rcases hh with⟨fr2,s3,e2,g3,n3,i4⟩|⟨fr2,s3,e2,g3,i4⟩
   ·have l3:Wh s3 s.next=some .busy:=by unfold Wh;rw[g3]
    refine⟨true,_,?_,fun _=>⟨hL _ _ .ready i4,by rw[St.get_put,Qm rfl],n3⟩,(fun h=>by cases h)⟩
    rw[e2];simp only[KI,l3]
   ·have l3:Wh s3 s.next=some .busy:=by unfold Wh;rw[g3]
    refine⟨false,_,?_,(fun h=>by cases h),fun _=>⟨wW _ .ret i4,by rw[St.get_put,Qm rfl]⟩⟩
    rw[e2];simp only[KI,l3])
  (s.new (.loop .ready)) ⟨h0,by rw[St.get_new,Qm rfl],by rw[St.next_new];exact Nat.lt_succ_self _⟩
 have kC:(gT (m+1)).ent 107=true:=by show Kz Ry 107=true;unfold Kz;rw[t107]
 have ay:(gT (m+1)).call Y' 107 ([]++[.yld s.next]++[.ptr c 0]) (s.new (.loop .ready))=.ret (.tuple []) s':=hr
 refine⟨s'.put s.next (.loop .fin),?_⟩
 rcases hc with⟨i1,i2,i3⟩|⟨i1,i2⟩
 ·have l3:Wh s' s.next=some .ready:=by unfold Wh;rw[i2]
  refine .inl ⟨?_,hL _ _ .fin i1,i3⟩
  rw[Vh,hx]
  simp only[kC,roOk,Qy,Qi,hY,ay,K8,Ko,l3]
 ·have l3:Wh s' s.next=some .ret:=by unfold Wh;rw[i2]
  refine .inr ⟨?_,wW _ .fin i1⟩
  rw[Vh,hx]
  simp only[kC,roOk,Qy,Qi,hY,ay,K8,Ko,l3]
noncomputable section
open Nat renaming reduceEqDiff -> rQ, reduceAdd -> rA
theorem WE{st:St}{id k n:Nat}{x y:List AV}(hg:st.get id=some (.row x))(hx:(x.drop k).take n=y)(hn:y.length=n):Vf true n st (.ptr id k)=some (.agg y):=by
 simp only[Vf,Wy,hg,Qg,hx,Ja,Qi,hn,QD]
theorem V4{st:St}{id k n:Nat}{x y:List AV}{a:AV}(hg:st.get id=some (.row x))(hn:a.cells.length=n)(hx:setCells x k a.cells=y)(hk:k+n<=x.length)(h1:a.cells.all AV.one=true):Vt n st (.ptr id k) a=some (st.put id (.row y)):=by
 simp only[Vt,hg,hn,hx,h1,Qo hk,QD,Qy,Qi]
theorem build3(a b c:AV)(ha:a.cells=[a]:=by rfl)(hb:b.cells=[b]:=by rfl)(hc:c.cells=[c]:=by rfl):VN [Z0,Z0,Z0] [(0,1,a),(1,1,b),(2,1,c)]=some [a,b,c]:=by
 simp[VN,ha,hb,hc,setCells,Nat.ble]
def wg30_0:List Vc:=[ZO 2 (.box true (.t 0)),ZO 4 (.alloc [(.bool false)])]
def wg30_1:List Vc:=[ZM 5 (ZC 0)]
def wg30_2:List Vc:=[ZV 10 1,ZN 11 10,ZM 12 (ZC 0)]
def wg30_3:List Vc:=[ZO 13 (.bin false .lss (.t 12) (.t 11))]
def wg30_4:List Vc:=[ZP 14 1 10 12,ZL 15 14,ZV 7 15]
def wg30_5:List Vc:=[ZV 16 5,ZV 17 7,ZN 18 17,ZO 19 (.bin false .add (.t 16) (.t 18)),ZV 5 19]
def wg30_6:List Vc:=[ZO 20 (.bin false .add (.t 12) (ZC 1)),ZV 12 20]
def wg30_7:List Vc:=[ZV 21 1,ZN 22 21,ZA 23 2 2,ZL 24 23,ZO 25 (.bin false .neq (.t 22) (.t 24)),ZV 26 25,ZG 27 (.mv (.t 5)) 26 false,ZG 28 (.bin false .gtr (.t 27) (ZC 4000)) 26 false,ZO 29 (.pick (.t 26) (ZB true) (.t 28))]
def wg30_8:List Vc:=[⟨none,.store 1 (.t 4) (ZB false),none⟩]
def wg30_9:List Vc:=[ZV 30 1,ZX 31 65 [(.t 30)]]
def wg30_10:List Vc:=[ZO 9 (.alloc [Z0,Z0,Z0,Z0,.nilsl,Z0,.nilsl,.nilsl,.nilsl]),ZS 9 9 33]
def Sq:List Vc:=[ZA 34 0 9,ZL 35 34,ZA 36 1 9,ZL 37 36,ZA 38 2 9,ZL 39 38,ZO 40 (.bslice 3 [Z0,Z0,Z0] [(0,1,(.t 35)),(1,1,(.t 37)),(2,1,(.t 39))]),ZX 41 66 [(.t 40)],ZO 42 (.un .not (.t 41))]
def Sd:List Vc:=[ZV 43 42,ZG 44 (.faddr 3 (.t 9)) 43 false,ZG 45 (.load true 2 (.t 44)) 43 false,ZG 46 (.call (.c (.func (.func 67) [] [])) [(.t 45)]) 43 false,ZG 47 (.un .not (.t 46)) 43 false,ZO 48 (.pick (.t 43) (ZB true) (.t 47))]
def Sm:List Vc:=[ZV 49 48,ZG 50 (.faddr 5 (.t 9)) 49 false,ZG 51 (.load true 3 (.t 50)) 49 false,ZG 52 (.call (.c (.func (.func 68) [] [])) [(.t 51)]) 49 false,ZG 53 (.bin false .neq (.t 52) (ZC 0)) 49 false,ZO 54 (.pick (.t 49) (ZB true) (.t 53))]
def Ss:List Vc:=[ZV 55 54,ZG 56 (.faddr 8 (.t 9)) 55 false,ZG 57 (.load false 1 (.t 56)) 55 false,ZG 58 (.len 0 (.t 57)) 55 false,ZG 59 (.faddr 0 (.t 2)) 55 false,ZG 60 (.load false 1 (.t 59)) 55 false,ZG 61 (.len 0 (.t 60)) 55 false,ZG 62 (.bin false .neq (.t 58) (.t 61)) 55 false,ZO 63 (.pick (.t 55) (ZB true) (.t 62))]
def Sj:List Vc:=[ZV 64 63,ZG 65 (.faddr 8 (.t 9)) 64 false,ZG 66 (.load false 1 (.t 65)) 64 false,ZG 67 (.call (.c (.func (.func 66) [] [])) [(.t 66)]) 64 false,ZG 68 (.un .not (.t 67)) 64 false,ZO 69 (.pick (.t 64) (ZB true) (.t 68))]
def wg30_11:List Vc:=Sq++(Sd++(Sm++(Ss++Sj)))
def wg30_12:List Vc:=[⟨none,.store 1 (.t 4) (ZB false),none⟩]
def wg30_13:List Vc:=[⟨none,.store 1 (.t 4) (ZB true),none⟩]
def To:Vn:=(ZQ wg30_3 (.seq (.cond (.t 13) .skip (.exit 0)) (.seq (.block 1 (ZQ wg30_4 (.region wg30_5))) (.region wg30_6))))
def wa30_0:Vn:=(.region wg30_10)
def wy30_0:Vn:=(.block 3 (ZQ wg30_11 (.cond (.t 69) (ZR wg30_12) .skip)))
def wr30_0:Vn:=(Vn.rfun (.t 31) [32,33] wa30_0 wy30_0)
def wf30:Vm:=⟨70,(ZQ wg30_0 (ZQ wg30_1 (.seq (ZQ wg30_2 (.block 0 (.loop To))) (.seq (ZQ wg30_7 (.cond (.t 29) (ZR wg30_8) .skip)) (.seq (ZQ wg30_9 (.block 2 wr30_0)) (ZR wg30_13)))))),[.cell 4 false 1]⟩
theorem t30:Ry 30=some wf30:=by kernel_rfl
theorem journals_run{F:Nat->Prop}{st:St}{lv pv jv:AV}{ls:List (List AV)}{N:Int}{js:List (AV × List En)}(hl:RB 1 F st lv ls)(hj:YQ F st jv js)(hF:∀ i,F i->i < st.next)(m:Nat)(Y:Vi)(hn:fzJ js < m)(hA:areB ls.length N js=true):
  ∃ af,R (m+2) Y 30 [.agg [lv,pv,.int .i64 N],jv] st=.ret (.bool true) af/\Vd st af:=by
 have fN:=hj
 obtain⟨h1,h2⟩:=hj
 have bO:=h1.len
 rw[Qu] at bO
 have hb:=h1.2.2.1
 rw[Qu] at hb
 have b9:=fzJ_len js
 have d6:=hl.len
 have mh:RB 1 F st jv ((js.map Prod.fst).map fun x=>[x]):=by rw[Xq];exact h1
 unfold areB at hA
 simp only[Qd,QF,QB] at hA
 obtain⟨⟨au,oX⟩,mi⟩:=hA
 have k0:Vd st (st.new (.row [.bool false])):=Vd.new st _
 have S0:=Vs.of k0 hF
 -- the sum of the lengths
 have hL:∀(fr:Fr),fr.ds=[]->fr.get 1=some jv->fr.get 2=some (.fptr [lv,pv,.int .i64 N] 0)->fr.get 4=some (.ptr st.next 0)->fr.get 5=some Z0->fr.get 10=some jv->fr.get 11=some (ZI js.length)->fr.get 12=some Z0 ->
   ∃ FR,FR.ds=[]/\Vx (ac (m+1) Y To none) (m+1) fr (st.new (.row [.bool false]))=.exit 0 FR (st.new (.row [.bool false]))/\FR.get 1=some jv/\FR.get 2=some (.fptr [lv,pv,.int .i64 N] 0)/\FR.get 4=some (.ptr st.next 0)/\FR.get 5=some (ZI ((tot js))):=by
  intro fr d0 g1 g2 g4 g5 eK dj cw
  refine Ws (B:=ac (m+1) Y To none) (N:=js.length) (R3:=fun k fr ai=>fr.ds=[]/\fr.get 1=some jv/\fr.get 2=some (.fptr [lv,pv,.int .i64 N] 0)/\fr.get 4=some (.ptr st.next 0)/\fr.get 5=some (ZI ((tot (js.take k))))/\fr.get 10=some jv/\fr.get 11=some (ZI js.length)/\fr.get 12=some (ZI k)/\ai=st.new (.row [.bool false]))
   (Out:=fun r=>∃ FR,FR.ds=[]/\r=.exit 0 FR (st.new (.row [.bool false]))/\FR.get 1=some jv/\FR.get 2=some (.fptr [lv,pv,.int .i64 N] 0)/\FR.get 4=some (.ptr st.next 0)/\FR.get 5=some (ZI ((tot js)))) ?_ js.length 0 fr _ (m+1) (by omega) (by omega) ⟨d0,g1,g2,g4,by simpa [tot] using g5,eK,dj,cw,rfl⟩
  intro k fr ai hk ⟨d0,g1,g2,g4,g5,eK,dj,cw,e1⟩
  subst e1
  have am:=Wt k js.length
  by_cases aQ:k < js.length
  ·have hx:js[k]?=some js[k]:=Qn aQ
   generalize js[k]=p at hx
   obtain⟨pa,ia,lda⟩:=RB.at1 mh (k:=k) (x:=p.1) (by rw[Q5,hx];rfl)
   have lda:=lda _ S0
   obtain⟨e1,e2⟩:=h2 p (Qr hx)
   have de:=e1.len (st.new (.row [.bool false]))
   rw[Qu] at de
   have kZ:=e1.2.2.1
   rw[Qu] at kZ
   have aU:=WC (i:=k) (by omega)
   have rH:=tot_le js k
   have zp:=tot_le js (k+1)
   have nz:=tot_take hx
   have ha:=addN (i:=tot (js.take k)) (j:=p.2.length) (by omega)
   rw[Qs aQ] at am
   obtain⟨J1,H1,O1_13⟩:∃ aa,ar (m+1) Y wg30_3 fr (st.new (.row [.bool false]))=.ok aa (st.new (.row [.bool false]))/\aa.get 13=some (.bool true):=⟨_,by simp only[Rw,rQ,rA,dj,cw,wg30_3,am]<;>rfl,gh⟩
   have V1_10:=ag H1 eK
   have V1_12:=ag H1 cw
   have W1:=ad H1 d0
   obtain⟨J2,H2,O2_7⟩:∃ aa,ar (m+1) Y wg30_4 J1 (st.new (.row [.bool false]))=.ok aa (st.new (.row [.bool false]))/\aa.get 7=some (p.1):=⟨_,by simp only[Rw,rQ,rA,V1_10,V1_12,wg30_4,ia,lda]<;>rfl,gh⟩
   have W2:=ad H2 W1
   obtain⟨J3,H3,O3_5⟩:∃ aa,ar (m+1) Y wg30_5 J2 (st.new (.row [.bool false]))=.ok aa (st.new (.row [.bool false]))/\aa.get 5=some (ZI ((tot (js.take k)+p.2.length))):=⟨_,by simp only[Rw,rQ,rA,(ag H2 (ag H1 g5)),O2_7,wg30_5,de,ha]<;>rfl,gh⟩
   have W3:=ad H3 W2
   obtain⟨J4,H4,O4_12⟩:∃ aa,ar (m+1) Y wg30_6 J3 (st.new (.row [.bool false]))=.ok aa (st.new (.row [.bool false]))/\aa.get 12=some (ZI ((k+1))):=⟨_,by simp only[Rw,rQ,rA,(ag H3 (ag H2 V1_12)),wg30_6,aU]<;>rfl,gh⟩
   have V4_10:=ag H4 (ag H3 (ag H2 V1_10))
   have V4_11:=ag H4 (ag H3 (ag H2 (ag H1 dj)))
   have V4_5:=ag H4 O3_5
   have dr:ac (m+1) Y To none fr (st.new (.row [.bool false]))=.norm J4 (st.new (.row [.bool false])):=by
    simp only[Rw,rQ,rA,To,Rx,R5,R6,R7,H1,H2,H3,H4,O1_13]
   rw[dr]
   exact⟨aQ,(ad H4 W3),(ag H4 (ag H3 (ag H2 (ag H1 g1)))),(ag H4 (ag H3 (ag H2 (ag H1 g2)))),(ag H4 (ag H3 (ag H2 (ag H1 g4)))),by rw[nz];exact V4_5,V4_10,V4_11,O4_12,rfl⟩
  ·rw[Qp aQ] at am
   have ce:k=js.length:=by omega
   rw[ce,QH] at g5
   obtain⟨J5,H5,O5_13⟩:∃ aa,ar (m+1) Y wg30_3 fr (st.new (.row [.bool false]))=.ok aa (st.new (.row [.bool false]))/\aa.get 13=some (.bool false):=⟨_,by simp only[Rw,rQ,rA,dj,cw,wg30_3,am]<;>rfl,gh⟩
   have W5:=ad H5 d0
   have bV:ac (m+1) Y To none fr (st.new (.row [.bool false]))=.exit 0 J5 (st.new (.row [.bool false])):=by
    simp only[Rw,rQ,rA,To,Rx,R5,R6,R7,H5,O5_13]
   rw[bV]
   exact⟨_,W5,rfl,(ag H5 g1),(ag H5 g2),(ag H5 g4),(ag H5 g5)⟩
 -- the range over the entries
 have hR:∀(fr:Fr) (s:St),Vd st s->s.get st.next=some (.row [.bool false])->st.next < s.next->fr.ds=[]->∀ c,s.get c=some (.row [jv])->c < s.next->fr.get 2=some (.fptr [lv,pv,.int .i64 N] 0)->fr.get 4=some (.ptr st.next 0)->fr.get 31=some (.func (.func 107) [] [.ptr c 0]) ->
   ∃ s',ac (m+1) Y wr30_0 none fr s=.norm { fr with ds:=.coll::fr.ds } s'/\Vd s s':=by
  intro fr s ks gs ns d0 c hc jW g2 g4 zq
  obtain⟨s',hh⟩:=SI (ps:=[32,33]) (asg:=wa30_0) (body:=wy30_0) (fr:=fr) (s:=s) fN m Y hn (x:=.t 31) (c:=c) (by show (fr.get 31).getD .undef=_;rw[zq];rfl) rfl (R3:=fun _ s1=>Vd s s1) (Fin:=fun _=>False)
   (fun d s1 h=>⟨(Vs.of ks hF).trans (fun i hi=>h.2 i (Qz (hF i hi) ks.1)),by rw[h.2 c jW];exact hc⟩) (fun d s1 s2 h k=>h.trans k)
   (fun d s1 l h=>h.put _ _ (Qw _)) (fun _ _ h=>h) (Vd.new s _) (fun p q i e s1 hp hi h0 mj nD=>by
    have kH:=Qr hp
    have gY:=Qr hi
    have hg:=mi q kH e gY
    have he:=(h2 q kH).2 e gY
    have bv:=Pq kH gY
    unfold En.good at hg
    simp only[Qd,QF] at hg
    obtain⟨⟨⟨⟨⟨⟨q1,q2⟩,q3⟩,q4⟩,q5⟩,q6⟩,q7⟩:=hg
    have jP:4200+e.d.fz+e.seen.length<=e.fz:=by unfold En.fz;omega
    obtain⟨o1,o2,o3,o4,o5,o6⟩:=he
    obtain⟨a,b,c',hd,_⟩:=e.d.cells_abc
    have aY:e.cells=[.int .i64 e.leaf,.int .i64 e.ver,.int .i64 e.prop,.int .i64 e.gate,e.vsl,a,b,c',e.ssl]:=by unfold En.cells;rw[hd];rfl
    have c9:=e.cells9
    rw[aY] at c9 ⊢
    generalize bB:[AV.int .i64 e.leaf,.int .i64 e.ver,.int .i64 e.prop,.int .i64 e.gate,e.vsl,a,b,c',e.ssl]=cl at c9
    obtain⟨fB,dV⟩:∃ fB,fB=VL [32,33] [atV p i,.agg cl] { fr with ds:=[] }:=⟨_,rfl⟩
    have gB33:fB.get 33=some (.agg cl):=by rw[dV];simp only[VL,Fr.get_set,rQ,↓reduceIte]
    have gB2:fB.get 2=some (.fptr [lv,pv,.int .i64 N] 0):=by rw[dV];simp only[VL,Fr.get_set,rQ,↓reduceIte];exact g2
    have gB4:fB.get 4=some (.ptr st.next 0):=by rw[dV];simp only[VL,Fr.get_set,rQ,↓reduceIte];exact g4
    have dB:fB.ds=[]:=by rw[dV];rfl
    rw[<-dV]
    have bj:Vt 9 (s1.new (.row ze9)) (.ptr s1.next 0) (.agg cl)=some ((s1.new (.row ze9)).put s1.next (.row cl)):=VQ rfl c9.1 c9.2
    have k2:Vd s1 ((s1.new (.row ze9)).put s1.next (.row cl)):=(Vd.refl s1).newput _ _
    have ug:((s1.new (.row ze9)).put s1.next (.row cl)).get s1.next=some (.row cl):=by rw[St.get_put,Qm rfl]
    have nH:s1.next < ((s1.new (.row ze9)).put s1.next (.row cl)).next:=by simp
    unfold ze9 at bj k2 ug nH
    generalize bD:(s1.new (.row _)).put s1.next (.row cl)=s2 at bj k2 ug nH
    obtain⟨J6,H6,O6_9⟩:∃ aa,ar (m+1) Y wg30_10 fB s1=.ok aa s2/\aa.get 9=some (.ptr s1.next 0):=⟨_,by simp only[Rw,rQ,rA,gB33,wg30_10,bj]<;>rfl,gh⟩
    have zr:ac (m+1) Y wa30_0 (some s.next) fB s1=.norm J6 s2:=by
     simp only[Rw,rQ,rA,wa30_0,Rx,R5,R6,R7,H6]
    have L1:s2.get s.next=some (.loop .ready):=by rw[k2.2 _ nD];exact mj
    refine⟨_,_,zr,k2,.inl ?_⟩
    have k3:Vd s (s2.put s.next (.loop .busy)):=(h0.trans k2).put _ _ (Qw _)
    have az:s1.next≠s.next:=by omega
    have g3:(s2.put s.next (.loop .busy)).get s1.next=some (.row cl):=by rw[St.get_put,Qe az];exact ug
    have g3L:(s2.put s.next (.loop .busy)).get s.next=some (.loop .busy):=by rw[St.get_put,Qm rfl]
    have n3:(s2.put s.next (.loop .busy)).next=s2.next:=rfl
    generalize s2.put s.next (.loop .busy)=s3 at k3 g3 g3L n3
    subst bB
    have l0:=Vk g3 (k:=0) rfl
    have l1:=Vk g3 (k:=1) rfl
    have l2:=Vk g3 (k:=2) rfl
    have l3:Vf true 2 s3 (.ptr s1.next 3)=some (.agg [.int .i64 e.gate,e.vsl]):=WE g3 rfl rfl
    have bu:=build3 (.int .i64 e.leaf) (.int .i64 e.ver) (.int .i64 e.prop)
    obtain⟨r,hr⟩:∃ r,m+1=r+e.seen.length+4+4:=⟨m+1 - (e.seen.length+8),by omega⟩
    have zx:((gT (m+1)).cg Y).fn 66 [.lst 3 [.int .i64 e.leaf,.int .i64 e.ver,.int .i64 e.prop] true] s3=.ret (.bool true) s3:=by
     have hS:RE (fun _=>False) s3 (.lst 3 [.int .i64 e.leaf,.int .i64 e.ver,.int .i64 e.prop] true) [e.leaf,e.ver,e.prop]:=RB.lst (by omega) _ _ (by intro x hx;simp at hx;rcases hx with rfl | rfl | rfl<;>exact⟨rfl,rfl⟩) (by show 3<=_;omega) rfl rfl
     have:=numbers_run (r+e.seen.length+4) Y s3 hS (by show 3 < _;omega)
     rw[<-hr] at this
     have hb:[e.leaf,e.ver,e.prop].all RS=true:=by simp[q1,q2,q3]
     rw[hb] at this
     exact this
    obtain⟨s4,rI,k4⟩:=valuesP_run e ⟨o1,o2,o3,o4,o5,o6⟩ (.int .i64 e.gate) m Y s3 (by omega)
    rw[q4] at rI
    have rI:((gT (m+1)).cg Y).fn 67 [.agg [.int .i64 e.gate,e.vsl]] s3=.ret (.bool true) s4:=rI
    obtain⟨s5,rJ,k5⟩:=check68_run e.d m Y (fun _=>False) s4 e.d.cells (VU.line _ s4 e.d o4) (fun _ h=>h.elim) (by omega)
    rw[hd,q5] at rJ
    have rJ:((gT (m+1)).cg Y).fn 68 [.agg [a,b,c']] s4=.ret Z0 s5:=rJ
    have wX:s1.next < s3.next:=by rw[n3];exact nH
    have ru:s4.get s1.next=_:=(k4.2 _ wX).trans g3
    have uh:s5.get s1.next=_:=(k5.2 _ (Qz wX k4.1)).trans ru
    have zy:Vf true 3 s4 (.ptr s1.next 5)=some (.agg [a,b,c']):=WE ru rfl rfl
    have l8:=Vk uh (k:=8) rfl
    have al:∀ st,(bif VD 0 e.ssl then Wm st e.ssl else none)=some (ZI e.seen.length):=fun st=>RE.len (JA e.snl e.sex e.seen o5 o6 (fun _=>False) s5) st
    have ui:Vr false .neq (ZI e.seen.length) (ZI ls.length)=some (.bool false):=by rw[neqN,Qs q6];rfl
    have uj:((gT (m+1)).cg Y).fn 66 [e.ssl] s5=.ret (.bool true) s5:=by
     have:=numbers_run (r+e.seen.length+4) Y s5 (JA e.snl e.sex e.seen o5 o6 (fun _=>False) s5) (by omega)
     rw[<-hr,q7] at this
     exact this
    have ne00':=ne00
    obtain⟨J7,H7,O7_42⟩:∃ aa,ar (m+1) Y Sq J6 s3=.ok aa s3/\aa.get 42=some (.bool false):=⟨_,by simp only[Rw,rQ,rA,O6_9,Sq,RG,l0,l1,l2,bu,zx,WN,Qc,Qc,Qb]<;>rfl,gh⟩
    have V7_9:=ag H7 O6_9
    obtain⟨J8,H8,O8_48⟩:∃ aa,ar (m+1) Y Sd J7 s3=.ok aa s4/\aa.get 48=some (.bool false):=⟨_,by simp only[Rw,rQ,rA,V7_9,O7_42,Sd,RG,l3,rI,WN,Qc,Qc,Qb]<;>rfl,gh⟩
    have V8_9:=ag H8 V7_9
    obtain⟨J9,H9,O9_54⟩:∃ aa,ar (m+1) Y Sm J8 s4=.ok aa s5/\aa.get 54=some (.bool false):=⟨_,by simp only[Rw,rQ,rA,V8_9,O8_48,Sm,RG,zy,rJ,ne00',Qc,Qb]<;>rfl,gh⟩
    have V9_9:=ag H9 V8_9
    obtain⟨J10,H10,O10_63⟩:∃ aa,ar (m+1) Y Ss J9 s5=.ok aa s5/\aa.get 63=some (.bool false):=⟨_,by simp only[Rw,rQ,rA,(ag H9 (ag H8 (ag H7 (ag H6 gB2)))),V9_9,O9_54,Ss,RG,RI,l8,al,YV,d6,ui,Qc,Qb]<;>rfl,gh⟩
    obtain⟨J11,H11,O11_69⟩:∃ aa,ar (m+1) Y Sj J10 s5=.ok aa s5/\aa.get 69=some (.bool false):=⟨_,by simp only[Rw,rQ,rA,(ag H10 V9_9),O10_63,Sj,RG,l8,uj,WN,Qc,Qc,Qb]<;>rfl,gh⟩
    have H12:ar (m+1) Y wg30_11 J6 s3=.ok J11 s5:=by show Vj _ (Sq++(Sd++(Sm++(Ss++Sj)))) _ _=_;rw[Yv H7,Yv H8,Yv H9,Yv H10];exact H11
    have qk:ac (m+1) Y wy30_0 (some s.next) J6 s3=.norm J11 s5:=by
     simp only[Rw,rQ,rA,wy30_0,Rx,R5,R6,R7,H12,O11_69]
    exact⟨_,_,qk,by rw[k5.2 _ (by have:=k4.1;omega),k4.2 _ (by omega)];exact g3L,by have:=k4.1;have:=k5.1;omega,(k3.trans k4).trans k5⟩)
  rcases hh with⟨hh,hi,_⟩|⟨_,hf⟩
  ·exact⟨s',hh,hi⟩
  ·exact hf.elim
 have az:Vr false .neq (ZI js.length) (.int .i64 N)=some (.bool false):=by
  rw[Yk,<-au];simp
 have en:Vr false .gtr (ZI ((tot js))) (ZI 4000)=some (.bool false):=by
  rw[gtrN,Qp (by omega)]
 have bA:AV.one jv=true:=h1.one
 have nI:((gT (m+1)).cg Y).fn 65 [jv] (st.new (.row [.bool false]))=.ret (.func (.func 107) [] [.ptr (st.next+1) 0]) ((st.new (.row [.bool false])).new (.row [jv])):=S6 jv bA m Y _
 have g1s:((st.new (.row [.bool false])).new (.row [jv])).get (st.next+1)=some (.row [jv]):=by rw[St.get_new];simp
 have g1b:((st.new (.row [.bool false])).new (.row [jv])).get st.next=some (.row [.bool false]):=by rw[St.get_new,Qe (by simp),St.get_new,Qm rfl]
 have k1:Vd st ((st.new (.row [.bool false])).new (.row [jv])):=k0.trans (Vd.new _ _)
 have n1:((st.new (.row [.bool false])).new (.row [jv])).next=st.next+2:=rfl
 generalize (st.new (.row [.bool false])).new (.row [jv])=s1 at nI g1s g1b k1 n1
 obtain⟨fA13,ee⟩:∃ fA,fA=Vo 0 [.agg [lv,pv,.int .i64 N],jv] Fr.nil:=⟨_,rfl⟩
 have gA13_0:=R9 ee 0
 have gA13_1:=R9 ee 1
 have dA13:fA13.ds=[]:=by rw[ee];rfl
 obtain⟨J14,H14,O14_2,O14_4⟩:∃ aa,ar (m+1) Y wg30_0 fA13 st=.ok aa (st.new (.row [.bool false]))/\aa.get 2=some (.fptr [lv,pv,.int .i64 N] 0)/\aa.get 4=some (.ptr st.next 0):=⟨_,by simp only[Rw,rQ,rA,gA13_0,wg30_0]<;>rfl,gn gh,gh⟩
 have V14_1:=ag H14 gA13_1
 have W14:=ad H14 dA13
 obtain⟨J15,H15,O15_5⟩:∃ aa,ar (m+1) Y wg30_1 J14 (st.new (.row [.bool false]))=.ok aa (st.new (.row [.bool false]))/\aa.get 5=some Z0:=⟨_,by simp only[Rw,rQ,rA,wg30_1]<;>rfl,gh⟩
 have V15_1:=ag H15 V14_1
 have W15:=ad H15 W14
 obtain⟨J16,H16,O16_10,O16_11,O16_12⟩:∃ aa,ar (m+1) Y wg30_2 J15 (st.new (.row [.bool false]))=.ok aa (st.new (.row [.bool false]))/\aa.get 10=some (jv)/\aa.get 11=some (ZI js.length)/\aa.get 12=some Z0:=⟨_,by simp only[Rw,rQ,rA,V15_1,wg30_2,bO]<;>rfl,gn (gn gh),gn gh,gh⟩
 have W16:=ad H16 W15
 obtain⟨FR,dF,hL,F1,F2,F4,F5⟩:=hL J16 W16 (ag H16 V15_1) (ag H16 (ag H15 O14_2)) (ag H16 (ag H15 O14_4)) (ag H16 O15_5) O16_10 O16_11 O16_12
 obtain⟨J17,H17,O17_29⟩:∃ aa,ar (m+1) Y wg30_7 FR (st.new (.row [.bool false]))=.ok aa (st.new (.row [.bool false]))/\aa.get 29=some (.bool false):=⟨_,by simp only[Rw,rQ,rA,F1,F2,F5,wg30_7,bO,RI,ld3_2,az,en,Qc,Qb]<;>rfl,gh⟩
 have V17_1:=ag H17 F1
 have V17_2:=ag H17 F2
 have W17:=ad H17 dF
 obtain⟨J18,H18,O18_31⟩:∃ aa,ar (m+1) Y wg30_9 J17 (st.new (.row [.bool false]))=.ok aa s1/\aa.get 31=some (.func (.func 107) [] [.ptr (st.next+1) 0]):=⟨_,by simp only[Rw,rQ,rA,V17_1,wg30_9,nI]<;>rfl,gh⟩
 have V18_4:=ag H18 (ag H17 F4)
 have W18:=ad H18 W17
 obtain⟨s2,hR,kR⟩:=hR J18 s1 k1 g1b (by omega) W18 _ g1s (by omega) (ag H18 V17_2) V18_4 O18_31
 obtain⟨FS,gH⟩:∃ FS:Fr,FS={ J18 with ds:=.coll::J18.ds }:=⟨_,rfl⟩
 rw[<-gH] at hR
 have F4:FS.get 4=some (.ptr st.next 0):=by rw[gH];exact V18_4
 have dS:FS.ds=[.coll]:=by rw[gH,W18]
 have z9:s2.get st.next=some (.row [.bool false]):=by rw[kR.2 _ (by omega)];exact g1b
 have bG:Vt 1 s2 (.ptr st.next 0) (.bool true)=some (s2.put st.next (.row [.bool true])):=
  V4 z9 rfl rfl (by simp) rfl
 have ldr:Vf false 1 (s2.put st.next (.row [.bool true])) (.ptr st.next 0)=some (.bool true):=Vk (x:=[.bool true]) (by rw[St.get_put,Qm rfl]) rfl
 have kF:Vd st (s2.put st.next (.row [.bool true])):=(k1.trans kR).put _ _ (Qw _)
 obtain⟨J19,H19⟩:∃ aa,ar (m+1) Y wg30_13 FS s2=.ok aa (s2.put st.next (.row [.bool true])):=⟨_,by simp only[Rw,rQ,rA,F4,wg30_13,bG]<;>rfl⟩
 have W19:=ad H19 dS
 refine⟨_,fun_of2 (mf:=wf30) (fr:=J19) t30 rfl (.inl ?q19) (coll_one W19) (by simp only[wf30,Rw,(ag H19 F4),ldr]),kF⟩
 case q19=>
  rw[<-ee]
  simp only[Rw,rQ,rA,wf30,Rx,R5,R6,R7,H14,H15,H16,hL,H17,H18,hR,H19,O17_29]
end
abbrev Sp:=Nat × Nat × En
def YT(x y:En):Bool:=(JX (VS x.gate y.gate) (Wr x.vals y.vals)==0)&&(Ky x.d y.d==0)
def RK(l:List En)(q:Int):List (Int × Int):=(l.filter fun e=>e.prop==q).map fun e=>(e.leaf,e.ver)
def Wa(l:List En)(out:List Int)(i:Int):Nat:=((out.flatMap (RK l)).filter fun c=>c.1==i).length
def seenE(l:List En)(q:Int):List Int:=match l.find? (fun e=>e.prop==q) with
 | some e=>e.seen
 | none=>[]
def readyP(l:List En)(out:List Int)(q:Int):Prop:=∀(i:Nat) (n:Int),(seenE l q)[i]?=some n->¬((Wa l out i:Int) < min n (VF l i))
def YP(l:List En):Prop:=∀(d:List En) (x:En) (r:List En),l=d++x::r->0<=x.leaf/\x.ver=(VF d x.leaf:Int)/\x.seen[x.leaf.toNat]?=some x.ver/\∀ z∈d,z.prop=x.prop->z.leaf≠x.leaf/\z.seen=x.seen
theorem KS{α:Type}{l:List α}{x:α}(h:x∈l):∃ d r,l=d++x::r:=Z7 h
theorem pair_cases{α:Type}{l:List α}{x y:α}(hx:x∈l)(hy:y∈l):x=y\/(∃ a b c,l=a++x::b++y::c)\/(∃ a b c,l=a++y::b++x::c):=by
 induction l with
 | nil=>simp at hx
 | cons z l ih=>
  rcases Qx.1 hx with rfl | aK
  ·rcases Qx.1 hy with rfl | ir
   ·exact .inl rfl
   ·obtain⟨b,c,rfl⟩:=KS ir
    exact .inr (.inl ⟨[],b,c,by simp⟩)
  ·rcases Qx.1 hy with rfl | ir
   ·obtain⟨b,c,rfl⟩:=KS aK
    exact .inr (.inr ⟨[],b,c,by simp⟩)
   ·rcases ih aK ir with h|⟨a,b,c,h⟩|⟨a,b,c,h⟩
    ·exact .inl h
    ·exact .inr (.inl ⟨z::a,b,c,by simp[h]⟩)
    ·exact .inr (.inr ⟨z::a,b,c,by simp[h]⟩)
theorem Py(l r:List En)(i:Int):VF (l++r) i=VF l i+VF r i:=by simp[VF]
theorem cntE_pos{l:List En}{x:En}(h:x∈l):0 < VF l x.leaf:=by
 unfold VF
 exact List.length_pos_of_mem (Zk.2 ⟨h,by simp⟩)
theorem YP.lt{l:List En}(H:YP l){a b c:List En}{x y:En}(h:l=a++x::b++y::c)(e:x.leaf=y.leaf):x.ver < y.ver:=by
 have h1:=(H a x (b++y::c) (by simp[h])).2.1
 have h2:=(H (a++x::b) y c (by simp[h])).2.1
 rw[h1,h2,<-e,Py]
 have:0 < VF (x::b) x.leaf:=cntE_pos (by simp)
 omega
theorem YP.uniq{l:List En}(H:YP l){x y:En}(hx:x∈l)(hy:y∈l)(e:x.leaf=y.leaf)(v:x.ver=y.ver):x=y:=by
 rcases pair_cases hx hy with h|⟨a,b,c,h⟩|⟨a,b,c,h⟩
 ·exact h
 ·have:=H.lt h e;omega
 ·have:=H.lt h e.symm;omega
theorem YP.seen{l:List En}(H:YP l){x y:En}(hx:x∈l)(hy:y∈l)(e:x.prop=y.prop):x.seen=y.seen:=by
 rcases pair_cases hx hy with h|⟨a,b,c,h⟩|⟨a,b,c,h⟩
 ·rw[h]
 ·exact((H (a++x::b) y c (by simp[h])).2.2.2 x (by simp) e).2
 ·exact((H (a++y::b) x c (by simp[h])).2.2.2 y (by simp) e.symm).2.symm
theorem YP.bound{l:List En}(H:YP l){x:En}(hx:x∈l):0<=x.ver/\x.ver < VF l x.leaf:=by
 obtain⟨d,r,h⟩:=KS hx
 have h1:=(H d x r h).2.1
 have:VF l x.leaf=VF d x.leaf+VF (x::r) x.leaf:=by rw[h,Py]
 have:0 < VF (x::r) x.leaf:=cntE_pos (by simp)
 omega
theorem seenE_mem{l:List En}(H:YP l){x:En}(hx:x∈l):seenE l x.prop=x.seen:=by
 unfold seenE
 cases h:l.find? (fun e=>e.prop==x.prop) with
 | none=>exact absurd (XJ.1 h x hx) (by simp)
 | some y=>
  have h1:=X9 h
  have h2:=List.find?_some h
  exact H.seen h1 hx (by simpa using h2)
theorem clE_mem{l:List En}{q:Int}{c:Int × Int}:c∈RK l q ↔ ∃ x∈l,x.prop=q/\x.leaf=c.1/\x.ver=c.2:=by
 unfold RK
 simp only[Q6,Zk,Zm]
 constructor
 ·rintro ⟨x,⟨h1,h2⟩,rfl⟩;exact⟨x,h1,h2,rfl,rfl⟩
 ·rintro ⟨x,h1,h2,h3,h4⟩;exact⟨x,⟨h1,h2⟩,by rw[h3,h4]⟩
def Y9(l:List En)(out:List Int):Prop:=∀ i,(((out.flatMap (RK l)).filter fun c=>c.1==i).map fun c=>c.2)=(List.range (Wa l out i)).map Int.ofNat
theorem Y9.nil(l:List En):Y9 l []:=fun i=>by simp[Wa]
theorem thereE_snoc(l:List En)(out:List Int)(q i:Int):Wa l (out++[q]) i=Wa l out i+((RK l q).filter fun c=>c.1==i).length:=by
 unfold Wa;simp
theorem Y9.mem{l:List En}{out:List Int}(h:Y9 l out){i:Int}{v:Nat}(hv:v < Wa l out i):∃ q∈out,(i,Int.ofNat v)∈RK l q:=by
 have:Int.ofNat v∈(((out.flatMap (RK l)).filter fun c=>c.1==i).map fun c=>c.2):=by
  rw[h i]
  exact Q6.2 ⟨v,Xo.2 hv,rfl⟩
 obtain⟨c,hc,e⟩:=Q6.1 this
 obtain⟨h1,h2⟩:=Zk.1 hc
 obtain⟨q,hq,h3⟩:=QO.1 h1
 refine⟨q,hq,?_⟩
 have:c=(i,Int.ofNat v):=by
  cases c;simp only[Zm] at h2;simp_all
 exact this ▸ h3
theorem T7{l:List En}(H:YP l){out:List Int}{q:Int}(ho:Y9 l out)(hq:q∉out)(hr:readyP l out q):
  (∀ c∈RK l q,c.2=(Wa l out c.1:Int))/\Y9 l (out++[q]):=by
 have h1:∀ c∈RK l q,c.2=(Wa l out c.1:Int):=by
  intro c hc
  obtain⟨x,hx,e1,e2,e3⟩:=clE_mem.1 hc
  obtain⟨d,r,hs⟩:=KS hx
  obtain⟨f1,_,f3,_⟩:=H d x r hs
  obtain⟨b1,b2⟩:=H.bound hx
  have jY:=seenE_mem H hx
  rw[e1] at jY
  have zA:=hr x.leaf.toNat x.ver (by rw[jY];exact f3)
  rw[show ((x.leaf.toNat:Nat):Int)=x.leaf by omega] at zA
  rw[<-e2,<-e3]
  have ni:¬(x.ver < (Wa l out x.leaf:Int)):=fun am=>by
   obtain⟨q',gR,cz⟩:=ho.mem (i:=x.leaf) (v:=x.ver.toNat) (by omega)
   obtain⟨y,hy,g1,g2,g3⟩:=clE_mem.1 cz
   have hv:y.ver=x.ver:=by rw[g3];show ((x.ver.toNat:Nat):Int)=x.ver;omega
   have:=H.uniq hy hx g2 hv
   subst this
   exact hq ((g1.symm.trans e1) ▸ gR)
  omega
 refine⟨h1,fun i=>?_⟩
 rw[thereE_snoc,X0,List.filter_append,QQ,ho i]
 have bA:∀ c∈RK l q,∀ c'∈RK l q,c.1=c'.1->c=c':=fun c hc c' cz e=>by
  have:=h1 c hc;have:=h1 c' cz
  have h2:c.2=c'.2:=by rw[h1 c hc,h1 c' cz,e]
  cases c;cases c';simp_all
 have aR:((RK l q).filter fun c=>c.1==i).length<=1:=by
  unfold RK
  rw[List.filter_map,Qu]
  -- entries of one proposal and leaf: at most one
  have dY:∀ m:List En,(∀ a b c x y,m=a++x::b++y::c->x.prop=y.prop->x.leaf=y.leaf->False)->((m.filter fun e=>e.prop==q).filter ((fun c:Int × Int=>c.1==i) ∘ fun e=>(e.leaf,e.ver))).length<=1:=by
   intro m hm
   generalize hg:(m.filter fun e=>e.prop==q).filter ((fun c:Int × Int=>c.1==i) ∘ fun e=>(e.leaf,e.ver))=g
   rw[List.filter_filter] at hg
   match g,hg with
   | [],_=>simp
   | [_],_=>simp
   | x::y::g',hg=>
    exfalso
    obtain⟨a,s,e1,e2,e3⟩:=List.filter_eq_cons_iff.1 hg
    obtain⟨b,t,e4,e5,e6⟩:=List.filter_eq_cons_iff.1 e3.2
    simp only[Function.comp,Qd,Zm] at e3 e6
    exact hm a b t x y (by rw[e1,e4];simp) (by rw[e3.1.2,e6.1.2]) (by rw[e3.1.1,e6.1.1])
  refine dY l fun a b c x y h e f=>?_
  exact absurd f ((H (a++x::b) y c (by simp[h])).2.2.2 x (by simp) e).1
 simp only[Xa,List.flatMap_nil,QG]
 generalize hf:(RK l q).filter (fun c=>c.1==i)=g at aR ⊢
 match g,aR with
 | [],_=>simp
 | [c],_=>
  have hc:c∈(RK l q).filter (fun c=>c.1==i):=by rw[hf];simp
  obtain⟨m1,m2⟩:=Zk.1 hc
  have e1:c.1=i:=by simpa using m2
  have e2:=h1 c m1
  rw[e1] at e2
  simp only[Q4,QZ,QC,X2,Q7,List.range_succ,QQ,e2]
  rfl
 | _::_::_,h=>simp at h
theorem behind_saw{l:List En}(H:YP l){out:List Int}{q:Int}(hr:readyP l out q){y:En}(hy:y∈l)(e:y.prop=q){i:Nat}{v:Int}(hv:y.seen[i]?=some v):
  ¬(v > Wa l out i/\(VF l i:Int)>=v):=by
 have jY:=seenE_mem H hy
 rw[e] at jY
 have:=hr i v (by rw[jY];exact hv)
 omega
theorem JS{α:Type}{motive:List α->Prop}(nil:motive [])(snoc:∀ l x,motive l->motive (l++[x]))(l:List α):motive l:=by
 have h:∀ m:List α,motive m.reverse:=fun m=>by
  induction m with
  | nil=>exact nil
  | cons x m ih=>rw[List.reverse_cons];exact snoc _ _ ih
 have:=h l.reverse
 rwa [List.reverse_reverse] at this
def Wg(d:List Sp)(e:En):En:=match d.find? (fun z=>z.2.2.prop==e.prop) with
 | some z=>z.2.2
 | none=>e
def RA(d:List Sp):List En:=d.map fun z=>z.2.2
def Wp(k:Nat)(ps:List Int)(d:List Sp)(x:Sp):Nat:=
 bif decide (x.2.2.leaf>=k)||!(ps.getD x.2.2.leaf.toNat 0==(x.1:Int)) then 1 else
 bif (d.any fun z=>z.2.2.prop==x.2.2.prop&&z.2.2.leaf==x.2.2.leaf)||!YT x.2.2 (Wg d x.2.2)||!decide (x.2.2.seen=(Wg d x.2.2).seen) then 2 else
 bif !(x.2.2.ver==(VF (RA d) x.2.2.leaf:Int))||!(x.2.2.ver==x.2.2.seen.getD x.2.2.leaf.toNat 0) then 3 else 0
def KC(k:Nat)(ps:List Int)(d:List Sp):Prop:=∀ a x b,d=a++x::b->Wp k ps a x=0
theorem KC.nil(k:Nat)(ps:List Int):KC k ps []:=fun a x b h=>by simp at h
theorem KC.snoc{k:Nat}{ps:List Int}{d:List Sp}{x:Sp}(h:KC k ps d)(hx:Wp k ps d x=0):KC k ps (d++[x]):=by
 intro a y b hy
 rcases List.append_eq_append_iff.1 hy with⟨c,h1,h2⟩|⟨c,h1,h2⟩
 ·cases c with
  | nil=>simp only[QR,XK] at h2;obtain⟨rfl,_⟩:=h2;rw[h1,QG];exact hx
  | cons z c=>simp at h2
 ·cases c with
  | nil=>
   simp only[QR,XK] at h2
   obtain⟨rfl,_⟩:=h2
   rw[QG] at h1;rw[<-h1];exact hx
  | cons z c=>
   simp only[QP,XK] at h2
   obtain⟨rfl,_⟩:=h2
   exact h _ _ _ h1
theorem KC.pre{k:Nat}{ps:List Int}{d r:List Sp}(h:KC k ps (d++r)):KC k ps d:=fun a x b hd=>h a x (b++r) (by simp[hd])
theorem Ut{k:Nat}{ps:List Int}{d:List Sp}{x:Sp}(h:Wp k ps d x=0):
  x.2.2.leaf < k/\ps.getD x.2.2.leaf.toNat 0=(x.1:Int)/\(∀ z∈d,z.2.2.prop=x.2.2.prop->z.2.2.leaf≠x.2.2.leaf)/\YT x.2.2 (Wg d x.2.2)=true/\x.2.2.seen=(Wg d x.2.2).seen ∧
  x.2.2.ver=(VF (RA d) x.2.2.leaf:Int)/\x.2.2.ver=x.2.2.seen.getD x.2.2.leaf.toNat 0:=by
 unfold Wp at h
 cases h1:decide (x.2.2.leaf>=k)||!(ps.getD x.2.2.leaf.toNat 0==(x.1:Int)) with
 | true=>rw[h1] at h;cases h
 | false=>
  rw[h1] at h
  simp only[Qq] at h
  cases h2:(d.any fun z=>z.2.2.prop==x.2.2.prop&&z.2.2.leaf==x.2.2.leaf)||!YT x.2.2 (Wg d x.2.2)||!decide (x.2.2.seen=(Wg d x.2.2).seen) with
  | true=>rw[h2] at h;cases h
  | false=>
   rw[h2] at h
   simp only[Qq] at h
   cases h3:!(x.2.2.ver==(VF (RA d) x.2.2.leaf:Int))||!(x.2.2.ver==x.2.2.seen.getD x.2.2.leaf.toNat 0) with
   | true=>rw[h3] at h;cases h
   | false=>
    simp only[XM,Z5,Zm,XT,ZE,Qd,not_and,QF] at h1 h2 h3
    exact⟨by omega,h1.2,h2.1.1,h2.1.2,h2.2,h3.1,h3.2⟩
theorem KC.fitE{k:Nat}{ps:List Int}{l:List Sp}(h:KC k ps l)(hg:∀ z∈l,0<=z.2.2.leaf/\z.2.2.seen.length=k):YP (RA l):=by
 -- what is seen by entries of one proposal
 have uk:∀ d r:List Sp,l=d++r->∀ z∈d,∀ e:En,z.2.2.prop=e.prop->z.2.2.seen=(Wg d e).seen:=by
  intro d
  induction d using JS with
  | nil=>intro r _ z hz;simp at hz
  | snoc d y ih=>
   intro r hl z hz e he
   have hk:=Ut (h d y r (by simp[hl]))
   have mG:(d++[y]).find? (fun z=>z.2.2.prop==e.prop)=((d.find? (fun z=>z.2.2.prop==e.prop)).or (if y.2.2.prop==e.prop then some y else none)):=by
    rw[ZH];simp[List.find?];split<;>simp_all
   rcases QV.1 hz with hz | hz
   ·have:=ih ([y]++r) (by simp[hl]) z hz e he
    unfold Wg at this ⊢
    rw[mG]
    cases hf:d.find? (fun z=>z.2.2.prop==e.prop) with
    | none=>exact absurd (XJ.1 hf z hz) (by simp[he])
    | some q=>rw[hf] at this;exact this
   ·obtain rfl:z=y:=by simpa using hz
    have h5:=hk.2.2.2.2.1
    unfold Wg at h5 ⊢
    rw[mG]
    rw[he] at h5
    cases hf:d.find? (fun z=>z.2.2.prop==e.prop) with
    | none=>simp[he]
    | some q=>rw[hf] at h5;simpa using h5
 intro d x r hl
 unfold RA at hl
 obtain⟨d',t,rfl,hd,ht⟩:=List.map_eq_append_iff.1 hl
 obtain⟨z,r',rfl,hz,hr⟩:=List.map_eq_cons_iff.1 ht
 subst hz;subst hd
 have hk:=Ut (h d' z r' rfl)
 obtain⟨g1,g2⟩:=hg z (by simp)
 refine⟨g1,hk.2.2.2.2.2.1,?_,fun e he hp=>?_⟩
 ·have am:z.2.2.leaf.toNat < z.2.2.seen.length:=by rw[g2];have:=hk.1;omega
  have h7:=hk.2.2.2.2.2.2
  rw[X4,Qn am] at h7
  rw[Qn am,h7];rfl
 ·obtain⟨u,hu,rfl⟩:=Q6.1 he
  refine⟨hk.2.2.1 u hu hp,?_⟩
  rw[hk.2.2.2.2.1]
  exact uk d' (z::r') rfl u hu z.2.2 hp
def Jp(l:List En)(out:List Int)(q:Int):Bool:=(seenE l q).zipIdx.all fun x=>!decide ((Wa l out x.2:Int) < min x.1 (VF l x.2))
theorem readyB_P{l:List En}{out:List Int}{q:Int}(h:Jp l out q=true):readyP l out q:=by
 intro i n hi
 have:=QB.1 h (n,i) (by rw[List.mem_iff_getElem?];exact⟨i,by rw[List.getElem?_zipIdx,hi];simp⟩)
 simpa using this
def Y4(l:List En):Nat->List Int->List Int->List Int × List Int
 | 0,left,out=>(left,out)
 | f+1,left,out=>match left.findIdx? (Jp l out) with
  | none=>(left,out)
  | some i=>Y4 l f (left.eraseIdx i) (out++[left.getD i 0])
theorem getD_some{left:List Int}{i:Nat}(h:i < left.length):left.getD i 0=left[i]:=by rw[X4,Qn h];rfl
theorem SC:∀(left:List Int) (i:Nat),i < left.length->left.Perm (left.getD i 0::left.eraseIdx i)
 | [],i,h=>by simp at h
 | x::l,0,_=>by simp
 | x::l,i+1,h=>by
  have:=SC l i (by simpa using h)
  simp only[List.getD_cons_succ,List.eraseIdx_cons_succ]
  exact(this.cons x).trans (List.Perm.swap _ _ _)
def YB(l:List En)(out:List Int):Prop:=∀ pre q post,out=pre++q::post->(∀ c∈RK l q,c.2=(Wa l pre c.1:Int)) ∧
 ∀ y∈l,y.prop=q->∀(i:Nat) (v:Int),y.seen[i]?=some v->¬(v > Wa l pre i/\(VF l i:Int)>=v)
theorem YB.nil(l:List En):YB l []:=fun pre q post h=>by simp at h
theorem YB.snoc{l:List En}(H:YP l){out:List Int}{q:Int}(h:YB l out)(ho:Y9 l out)(hq:q∉out)(hr:readyP l out q):YB l (out++[q]):=by
 intro pre x post hx
 rcases List.append_eq_append_iff.1 hx with⟨c,h1,h2⟩|⟨c,h1,h2⟩
 ·cases c with
  | nil=>
   simp only[QR,XK] at h2;obtain⟨rfl,_⟩:=h2;rw[QG] at h1;rw[h1]
   exact⟨(T7 H ho hq hr).1,fun y hy e i v hv=>behind_saw H hr hy e hv⟩
  | cons z c=>simp at h2
 ·cases c with
  | nil=>
   simp only[QR,XK] at h2
   obtain⟨rfl,_⟩:=h2
   rw[QG] at h1;rw[<-h1]
   exact⟨(T7 H ho hq hr).1,fun y hy e i v hv=>behind_saw H hr hy e hv⟩
  | cons z c=>
   simp only[QP,XK] at h2
   obtain⟨rfl,_⟩:=h2
   exact h _ _ _ h1
theorem UL{l:List En}(H:YP l):∀(f:Nat) (left out:List Int),(left++out).Nodup->Y9 l out->YB l out->YB l (Y4 l f left out).2/\Y9 l (Y4 l f left out).2/\(((Y4 l f left out).1++(Y4 l f left out).2).Perm (left++out))
 | 0,left,out,_,ho,h=>⟨h,ho,Xp _⟩
 | f+1,left,out,hn,ho,h=>by
  unfold Y4
  split
  ·exact⟨h,ho,Xp _⟩
  ·rename_i i hi
   obtain⟨dp,wY,_⟩:=XQ.1 hi
   have hp:=SC left i dp
   have k7:(left.eraseIdx i++(out++[left.getD i 0])).Perm (left++out):=by
    refine List.Perm.trans ?_ (hp.append_right out).symm
    rw[<-Xb]
    exact List.perm_append_comm.trans (Xp _)
   have Pb:=(hp.append_right out).nodup_iff.1 hn
   have hq:left.getD i 0∉out:=fun hm=>by
    simp only[QP,Zz,QV,Z8] at Pb
    exact Pb.1.2 hm
   have hr:readyP l out (left.getD i 0):=readyB_P (by rw[getD_some dp];exact wY)
   obtain⟨a,b,c⟩:=UL H f (left.eraseIdx i) (out++[left.getD i 0]) (k7.nodup_iff.2 hn) (T7 H ho hq hr).2 (h.snoc H ho hq hr)
   exact⟨a,b,c.trans k7⟩
end Go.AM.D32
