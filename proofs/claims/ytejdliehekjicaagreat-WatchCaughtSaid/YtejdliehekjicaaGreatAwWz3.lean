import Derived.Test.YtejdliehekjicaaGreatAwWy3
set_option maxRecDepth 100000
set_option linter.unusedSimpArgs false
namespace Go.AM.D32
open Go Go.AM
noncomputable section
open Nat renaming reduceEqDiff -> rQ, reduceAdd -> rA
theorem little4_run{F:Nat->Prop}{st:St}{jv:AV}{js:List (AV × List En)}(hj:YQ F st jv js)(m:Nat)(Y:Vi)(hn:js.length < m):
  ∃ b,R (m+1) Y 7 [jv] st=.ret (.bool b) st/\(tot js<=4000->b=true->tot js<=80/\js.length<=12):=by
 obtain⟨h1,h2⟩:=hj
 have bO:=h1.len
 rw[Qu] at bO
 have hb:=h1.2.2.1
 rw[Qu] at hb
 have hL:∀(fr:Fr),fr.ds=[]->fr.get 0=some jv->fr.get 3=some Z0->fr.get 6=some jv->fr.get 7=some (ZI js.length)->fr.get 8=some Z0 ->
   ∃ FR x,FR.ds=[]/\FR.get 0=some jv/\FR.get 3=some (.int .i64 x)/\(tot js<=4000->x=.ofNat (tot js))/\Vx (ac m Y wl7_0 none) m fr st=.exit 0 FR st:=by
  intro fr d0 g0 g3 g6 g7 g8
  refine Ws (B:=ac m Y wl7_0 none) (N:=js.length) (R3:=fun k fr ai=>fr.ds=[]/\fr.get 0=some jv/\(∃ x,fr.get 3=some (.int .i64 x)/\(tot js<=4000->x=.ofNat (tot (js.take k))))/\fr.get 6=some jv/\fr.get 7=some (ZI js.length)/\fr.get 8=some (ZI k)/\ai=st)
   (Out:=fun r=>∃ FR x,FR.ds=[]/\FR.get 0=some jv/\FR.get 3=some (.int .i64 x)/\(tot js<=4000->x=.ofNat (tot js))/\r=.exit 0 FR st) ?_ js.length 0 fr st m (by omega) (by omega) ⟨d0,g0,⟨_,g3,fun _=>rfl⟩,g6,g7,g8,rfl⟩
  intro k fr ai hk ⟨d0,g0,⟨x,g3,eW⟩,g6,g7,g8,ax⟩
  subst ax
  have am:=Wt k js.length
  by_cases aQ:k < js.length
  ·have hx:js[k]?=some js[k]:=Qn aQ
   generalize js[k]=p at hx
   obtain⟨pa,ia,ld⟩:=RB.at1 (xs:=js.map Prod.fst) (by rw[Xq];exact h1) (k:=k) (x:=p.1) (by rw[Q5,hx];rfl)
   have ld:=ld ai (Vs.refl _ _)
   have fE:=(h2 p (Qr hx)).1.len ai
   rw[Qu] at fE
   have aU:=WC (i:=k) (by omega)
   have ha:=addI x (.ofNat p.2.length)
   have rK:tot js<=4000->aw x (.ofNat p.2.length)=.ofNat (tot (js.take (k+1))):=fun h=>by
    have aR:=tot_le js (k+1)
    have nz:=tot_take hx
    have h1:=addN (i:=tot (js.take k)) (j:=p.2.length) (by omega)
    rw[addI] at h1
    injection h1 with h1
    injection h1 with _ h1
    rw[eW h,h1,nz]
   rw[Qs aQ] at am
   obtain⟨J1,H1,O1_9⟩:∃ aa,ar m Y wg7_3 fr ai=.ok aa ai/\aa.get 9=some (.bool true):=⟨_,by simp only[Rw,rQ,rA,g7,g8,wg7_3,am]<;>rfl,gh⟩
   have V1_3:=ag H1 g3
   have V1_6:=ag H1 g6
   have V1_8:=ag H1 g8
   have W1:=ad H1 d0
   obtain⟨J2,H2,O2_5⟩:∃ aa,ar m Y wg7_4 J1 ai=.ok aa ai/\aa.get 5=some (p.1):=⟨_,by simp only[Rw,rQ,rA,V1_6,V1_8,wg7_4,ia,ld]<;>rfl,gh⟩
   have V2_3:=ag H2 V1_3
   have W2:=ad H2 W1
   obtain⟨J3,H3,O3_3⟩:∃ aa,ar m Y wg7_5 J2 ai=.ok aa ai/\aa.get 3=some (.int .i64 (aw x (.ofNat p.2.length))):=⟨_,by simp only[Rw,rQ,rA,V2_3,O2_5,wg7_5,fE,ha]<;>rfl,gh⟩
   have W3:=ad H3 W2
   obtain⟨J4,H4,O4_8⟩:∃ aa,ar m Y wg7_6 J3 ai=.ok aa ai/\aa.get 8=some (ZI ((k+1))):=⟨_,by simp only[Rw,rQ,rA,(ag H3 (ag H2 V1_8)),wg7_6,aU]<;>rfl,gh⟩
   have V4_3:=ag H4 O3_3
   have W4:=ad H4 W3
   have dr:ac m Y wl7_0 none fr ai=.norm J4 ai:=by
    simp only[Rw,rQ,rA,wl7_0,Rx,R5,R6,R7,H1,H2,H3,H4,O1_9]
   rw[dr]
   exact⟨aQ,W4,(ag H4 (ag H3 (ag H2 (ag H1 g0)))),⟨_,V4_3,rK⟩,(ag H4 (ag H3 (ag H2 V1_6))),(ag H4 (ag H3 (ag H2 (ag H1 g7)))),O4_8,rfl⟩
  ·rw[Qp aQ] at am
   rw[show k=js.length by omega,QH] at eW
   obtain⟨J5,H5,O5_9⟩:∃ aa,ar m Y wg7_3 fr ai=.ok aa ai/\aa.get 9=some (.bool false):=⟨_,by simp only[Rw,rQ,rA,g7,g8,wg7_3,am]<;>rfl,gh⟩
   have V5_3:=ag H5 g3
   have W5:=ad H5 d0
   have bV:ac m Y wl7_0 none fr ai=.exit 0 J5 ai:=by
    simp only[Rw,rQ,rA,wl7_0,Rx,R5,R6,R7,H5,O5_9]
   rw[bV]
   exact⟨_,x,W5,(ag H5 g0),V5_3,eW,rfl⟩
 obtain⟨fA6,v3⟩:∃ fA,fA=Vo 0 [jv] Fr.nil:=⟨_,rfl⟩
 have gA6_0:=R9 v3 0
 have dA6:fA6.ds=[]:=by rw[v3];rfl
 obtain⟨J7,H7⟩:∃ aa,ar m Y wg7_0 fA6 st=.ok aa st:=⟨_,by simp only[Rw,rQ,rA,wg7_0]<;>rfl⟩
 have W7:=ad H7 dA6
 obtain⟨J8,H8,O8_3⟩:∃ aa,ar m Y wg7_1 J7 st=.ok aa st/\aa.get 3=some Z0:=⟨_,by simp only[Rw,rQ,rA,wg7_1]<;>rfl,gh⟩
 have V8_0:=ag H8 (ag H7 gA6_0)
 have W8:=ad H8 W7
 obtain⟨J9,H9,O9_6,O9_7,O9_8⟩:∃ aa,ar m Y wg7_2 J8 st=.ok aa st/\aa.get 6=some (jv)/\aa.get 7=some (ZI js.length)/\aa.get 8=some Z0:=⟨_,by simp only[Rw,rQ,rA,V8_0,wg7_2,bO st]<;>rfl,gn (gn gh),gn gh,gh⟩
 have V9_3:=ag H9 O8_3
 have W9:=ad H9 W8
 obtain⟨FR,x,dF,F0,F3,eW,hL⟩:=hL J9 W9 (ag H9 V8_0) V9_3 O9_6 O9_7 O9_8
 have c1:=leqI x (.ofNat 80)
 have c2:=leqN js.length 12
 have dv:tot js<=4000->(decide (x<=Int.ofNat 80)&&decide (js.length<=12))=true->tot js<=80/\js.length<=12:=fun h1 h2=>by
  rw[eW h1] at h2
  simp only[Qd,QF,Int.ofNat_eq_natCast] at h2
  omega
 generalize decide (x<=Int.ofNat 80)=A at *
 generalize decide (js.length<=12)=B at *
 obtain⟨J10,H10,O10_2⟩:∃ aa,ar m Y wg7_7 FR st=.ok aa st/\aa.get 2=some (.bool (A&&B)):=by cases A<;>exact⟨_,by simp only[Rw,rQ,rA,F0,F3,wg7_7,bO,c1,c2,Qc,Qb]<;>rfl,by simp only[Fr.get_set,rQ,↓reduceIte,amB,Qc,Qb]⟩
 have W10:=ad H10 dF
 refine⟨A&&B,Ve (mf:=wf7) (fr:=J10) t7 rfl (.inl ?q10) W10 (by simp only[wf7,Vg,Vu,V0,O10_2,Qg,Ql]),dv⟩
 case q10=>
  rw[<-v3]
  simp only[Rw,rQ,rA,wf7,Rx,R5,R6,R7,H7,H8,H9,hL,H10]
def wg12_0:List Vc:=[ZO 2 (.box true (.t 0)),ZM 4 (ZB false)]
def wg12_1:List Vc:=[ZK 9 3 2,ZV 10 1,ZX 11 10 [(.t 9),(.t 10)],ZV 8 11,ZO 12 (.extract 0 (.t 8)),ZO 13 (.extract 1 (.t 8)),ZO 14 (.extract 2 (.t 8)),ZO 6 (.alloc [Z0,Z0,Z0]),ZV 5 12,ZS 3 6 13,ZV 7 14]
def wg12_2:List Vc:=[ZV 15 7,ZO 16 (.bin false .eql (.t 15) (ZC 0)),ZV 17 16,ZG 18 (.faddr 0 (.t 6)) 17 true,ZG 19 (.load false 1 (.t 18)) 17 true,ZG 20 (.bin false .eql (.t 19) (ZC 0)) 17 true,ZO 21 (.pick (.t 17) (.t 20) (ZB false)),ZV 4 21]
def wf12:Vm:=⟨22,(ZQ wg12_0 (ZQ wg12_1 (ZR wg12_2))),[.t 4]⟩
theorem t12:Ry 12=some wf12:=by kernel_rfl
set_option maxHeartbeats 1000000 in
theorem fits12_run{F:Nat->Prop}{st:St}{lv pv jv:AV}{ls:List (List AV)}{ps:List Int}{N:Int}{js:List (AV × List En)}(hl:RB 1 F st lv ls)(hp:RE F st pv ps)(hj:YQ F st jv js)(hF:∀ i,F i->i < st.next)(hP:ps.length=ls.length)(hA:areB ls.length N js=true)(m:Nat)(Y:Vi)(hn:fzJ js+40000 < m)(bW:ls.length<=24)(bC:Rb ls.length ps N=true):
  ∃ af b,R (m+6) Y 12 [.agg [lv,pv,.int .i64 N],jv] st=.ret (.bool b) af/\Vd st af/\(b=true ↔ okM ls.length ps (Vq js)):=by
 obtain⟨iK,mv,r,v4,A8,hM⟩:=merge10_run hl hp hj hF hP hA m Y hn bW bC
 have v4:((gT (m+5)).cg Y).fn 10 [.agg [lv,pv,.int .i64 N],jv] st=.ret (.tuple [mv,.agg r,ZI 0]) iK:=v4
 obtain⟨ra,rb,rc,hr,bc⟩:∃ ra rb rc:Int,r=[.int .i64 ra,.int .i64 rb,.int .i64 rc]/\((ra==.ofNat 0)=true ↔ okM ls.length ps (Vq js)):=by
  rcases hM with⟨h1,h2,_⟩|⟨h1,_,kd,p,i,qA,h2⟩
  ·exact⟨_,_,_,h2,fun _=>h1,fun _=>rfl⟩
  ·refine⟨_,_,_,h2,fun h=>?_,fun h=>absurd h h1⟩
   cases kd with
   | zero=>exact absurd rfl qA
   | succ q=>simp at h;omega
 subst hr
 have bj:Vt 3 (iK.new (.row [Z0,Z0,Z0])) (.ptr iK.next 0) (.agg [.int .i64 ra,.int .i64 rb,.int .i64 rc])=some ((iK.new (.row [Z0,Z0,Z0])).put iK.next (.row [.int .i64 ra,.int .i64 rb,.int .i64 rc])):=VQ rfl rfl rfl
 obtain⟨m3,oh⟩:∃ m3,m3=(iK.new (.row [Z0,Z0,Z0])).put iK.next (.row [.int .i64 ra,.int .i64 rb,.int .i64 rc]):=⟨_,rfl⟩
 rw[<-oh] at bj
 have A9:Vd iK m3:=by rw[oh];exact(Vd.refl iK).newput _ _
 have dj:m3.get iK.next=some (.row [.int .i64 ra,.int .i64 rb,.int .i64 rc]):=by rw[oh,St.get_put,Qm rfl]
 have l0:Vf false 1 m3 (.ptr iK.next 0)=some (.int .i64 ra):=Vk dj rfl
 have AA:Vr false .eql Z0 Z0=some (.bool true):=rfl
 have eqa:=eqlI ra (.ofNat 0)
 generalize (ra==.ofNat 0)=V at *
 obtain⟨fA1,au⟩:∃ fA,fA=Vo 0 [.agg [lv,pv,.int .i64 N],jv] Fr.nil:=⟨_,rfl⟩
 have gA1_0:=R9 au 0
 have gA1_1:=R9 au 1
 have dA1:fA1.ds=[]:=by rw[au];rfl
 obtain⟨J2,H2,O2_2⟩:∃ aa,ar (m+5) Y wg12_0 fA1 st=.ok aa st/\aa.get 2=some (.fptr [lv,pv,.int .i64 N] 0):=⟨_,by simp only[Rw,rQ,rA,gA1_0,wg12_0]<;>rfl,gn gh⟩
 have W2:=ad H2 dA1
 obtain⟨J3,H3,O3_6,O3_7⟩:∃ aa,ar (m+5) Y wg12_1 J2 st=.ok aa m3/\aa.get 6=some (.ptr iK.next 0)/\aa.get 7=some Z0:=⟨_,by simp only[Rw,rQ,rA,(ag H2 gA1_1),O2_2,wg12_1,Jh,v4,extr0,extr1,extr2,bj]<;>rfl,gn (gn gh),gh⟩
 obtain⟨J4,H4,O4_4⟩:∃ aa,ar (m+5) Y wg12_2 J3 m3=.ok aa m3/\aa.get 4=some (.bool V):=⟨_,by simp only[Rw,rQ,rA,O3_6,O3_7,wg12_2,RG,l0,AA,eqa,Qc,Qb,Qc,Qb]<;>rfl,gh⟩
 have W4:=ad H4 (ad H3 W2)
 refine⟨_,_,Ve (mf:=wf12) (fr:=J4) t12 rfl (.inl ?q4) W4 (by simp only[wf12,Vg,Vu,V0,O4_4,Qg,Ql]),A8.trans A9,bc⟩
 case q4=>
  rw[<-au]
  simp only[Rw,rQ,rA,wf12,Rx,R5,R6,R7,H2,H3,H4]
def wg16_0:List Vc:=[ZO 2 (.box true (.t 0)),ZM 3 (ZB false)]
def wg16_1:List Vc:=[ZA 4 0 2,ZL 5 4,ZA 6 0 1,ZL 7 6,ZO 8 (.bin false .eql (.t 5) (.t 7)),ZV 3 8]
def wf16:Vm:=⟨9,(ZQ wg16_0 (ZR wg16_1)),[.t 3]⟩
theorem t16:Ry 16=some wf16:=by kernel_rfl
theorem load_fptr9{st:St}{k:Nat}{x:List AV}{a:AV}(hx:x[k]?=some a):Vf false 1 st (.fptr x k)=some a:=by
 simp only[Vf,Wy,Qg]
 have hk:=(Qt.1 hx)
 rw[XO hk.1,hk.2]
 rfl
theorem ldC0(e:En)(st:St):Vf false 1 st (.fptr e.cells 0)=some (.int .i64 e.leaf):=load_fptr9 rfl
theorem leafIs16_run(e:En)(lf:Int){id:Nat}{r:List AV}{st:St}(hg:st.get id=some (.row (.int .i64 lf::r)))(m:Nat)(Y:Vi):R (m+1) Y 16 [.agg e.cells,.ptr id 0] st=.ret (.bool (e.leaf==lf)) st:=by
 have l0:Vf false 1 st (.ptr id 0)=some (.int .i64 lf):=Vk hg rfl
 have lc:=ldC0 e st
 have eq:=eqlI e.leaf lf
 obtain⟨fA1,au⟩:∃ fA,fA=Vo 0 [.agg e.cells,.ptr id 0] Fr.nil:=⟨_,rfl⟩
 have gA1_0:=R9 au 0
 have gA1_1:=R9 au 1
 have dA1:fA1.ds=[]:=by rw[au];rfl
 obtain⟨J2,H2,O2_2⟩:∃ aa,ar m Y wg16_0 fA1 st=.ok aa st/\aa.get 2=some (.fptr e.cells 0):=⟨_,by simp only[Rw,rQ,rA,gA1_0,wg16_0]<;>rfl,gn gh⟩
 obtain⟨J3,H3,O3_3⟩:∃ aa,ar m Y wg16_1 J2 st=.ok aa st/\aa.get 3=some (.bool (e.leaf==lf)):=⟨_,by simp only[Rw,rQ,rA,(ag H2 gA1_1),O2_2,wg16_1,RI,RG,lc,l0,eq]<;>rfl,gh⟩
 have W3:=ad H3 (ad H2 dA1)
 refine Ve (mf:=wf16) (fr:=J3) t16 rfl (.inl ?q3) W3 (by simp only[wf16,Vg,Vu,V0,O3_3,Qg,Ql])
 case q3=>
  rw[<-au]
  simp only[Rw,rQ,rA,wf16,Rx,R5,R6,R7,H2,H3]
def wg15_0:List Vc:=[ZM 4 (ZC 0)]
def wg15_1:List Vc:=[ZV 6 0,ZN 7 6,ZM 8 (ZC 0)]
def wg15_2:List Vc:=[ZO 9 (.bin false .lss (.t 8) (.t 7))]
def wg15_3:List Vc:=[ZV 10 8,ZV 5 10]
def wg15_4:List Vc:=[ZV 11 1,ZV 12 0,ZV 13 5,ZP 14 9 12 13,ZK 15 9 14,ZO 16 (.call (.t 11) [(.t 15)])]
def wg15_5:List Vc:=[ZV 17 5,ZV 4 17]
def wg15_6:List Vc:=[ZO 18 (.bin false .add (.t 8) (ZC 1)),ZV 8 18]
def wg15_7:List Vc:=[ZM 4 (.c (.int .i64 (.negSucc 0)))]
def Pi:Vn:=(ZQ wg15_2 (.seq (.cond (.t 9) .skip (.exit 0)) (.seq (.block 1 (ZQ wg15_3 (ZQ wg15_4 (.cond (.t 16) (ZR wg15_5) .skip)))) (.region wg15_6))))
def wf15:Vm:=⟨19,(ZQ wg15_0 (.seq (ZQ wg15_1 (.block 0 (.loop Pi))) (ZR wg15_7))),[.t 4]⟩
theorem t15:Ry 15=some wf15:=by kernel_rfl
theorem index15_run{F:Nat->Prop}{st:St}{sl:AV}{l:List En}(hx:RB 9 F st sl (l.map En.cells))(lf:Int){id:Nat}{r:List AV}(hg:st.get id=some (.row (.int .i64 lf::r)))(m:Nat)(Y:Vi)(hn:l.length+1 < m):
  R (m+1) Y 15 [sl,.func (.func 16) [] [.ptr id 0]] st=.ret (.int .i64 (.negSucc 0)) st\/∃ (j:Nat) (e:En),R (m+1) Y 15 [sl,.func (.func 16) [] [.ptr id 0]] st=.ret (ZI j) st/\l[j]?=some e/\e.leaf=lf:=by
 obtain⟨q,rfl⟩:∃ q,m=q+1:=⟨m - 1,by omega⟩
 have n1:=hx.len st
 have hB:=hx.2.2.1
 rw[Qu] at n1 hB
 have hL:∀(fr:Fr),fr.ds=[]->fr.get 0=some sl->fr.get 1=some (.func (.func 16) [] [.ptr id 0])->fr.get 7=some (ZI l.length)->fr.get 8=some Z0->∃ FR,FR.ds=[] ∧
   (Vx (ac (q+1) Y Pi none) (q+1) fr st=.exit 0 FR st\/(∃ (j:Nat) (e:En),Vx (ac (q+1) Y Pi none) (q+1) fr st=.ret FR st/\FR.get 4=some (ZI j)/\l[j]?=some e/\e.leaf=lf)):=by
  intro fr d0 g0 g1 g7 g8
  refine Ws (B:=ac (q+1) Y Pi none) (N:=l.length) (R3:=fun j fr ai=>fr.ds=[]/\fr.get 0=some sl/\fr.get 1=some (.func (.func 16) [] [.ptr id 0])/\fr.get 7=some (ZI l.length)/\fr.get 8=some (ZI j)/\ai=st)
   (Out:=fun r=>∃ FR,FR.ds=[]/\(r=.exit 0 FR st\/(∃ (j:Nat) (e:En),r=.ret FR st/\FR.get 4=some (ZI j)/\l[j]?=some e/\e.leaf=lf))) ?_ l.length 0 fr st (q+1) (by omega) (by omega) ⟨d0,g0,g1,g7,g8,rfl⟩
  intro j fr ai hj ⟨d0,g0,g1,g7,g8,e1⟩
  subst e1
  have am:=Wt j l.length
  by_cases br:j < l.length
  ·have aL:l[j]?=some l[j]:=Qn br
   generalize l[j]=e at aL
   obtain⟨pe,ie,bk⟩:=hx.at (k:=j) (x:=e.cells) (by rw[Q5,aL];rfl)
   have bk:=bk ai (Vs.refl _ _)
   have AB:((gT (q+1)).cg Y).fn 16 [.agg e.cells,.ptr id 0] ai=.ret (.bool (e.leaf==lf)) ai:=leafIs16_run e lf hg q Y
   have aU:=WC (i:=j) (by omega)
   rw[Qs br] at am
   have jx:(e.leaf==lf)=true->e.leaf=lf:=fun h=>by simpa using h
   generalize (e.leaf==lf)=B at *
   obtain⟨J1,H1,O1_9⟩:∃ aa,ar (q+1) Y wg15_2 fr ai=.ok aa ai/\aa.get 9=some (.bool true):=⟨_,by simp only[Rw,rQ,rA,g7,g8,wg15_2,am]<;>rfl,gh⟩
   have V1_0:=ag H1 g0
   have V1_8:=ag H1 g8
   have W1:=ad H1 d0
   obtain⟨J2,H2,O2_5⟩:∃ aa,ar (q+1) Y wg15_3 J1 ai=.ok aa ai/\aa.get 5=some (ZI j):=⟨_,by simp only[Rw,rQ,rA,V1_8,wg15_3]<;>rfl,gh⟩
   have V2_0:=ag H2 V1_0
   have V2_1:=ag H2 (ag H1 g1)
   have W2:=ad H2 W1
   obtain⟨J3,H3,O3_16⟩:∃ aa,ar (q+1) Y wg15_4 J2 ai=.ok aa ai/\aa.get 16=some (.bool B):=⟨_,by simp only[Rw,rQ,rA,V2_0,V2_1,O2_5,wg15_4,ie,bk,AB]<;>rfl,gh⟩
   have W3:=ad H3 W2
   cases B with
   | true=>
    obtain⟨J4,H4,O4_4⟩:∃ aa,ar (q+1) Y wg15_5 J3 ai=.ok aa ai/\aa.get 4=some (ZI j):=⟨_,by simp only[Rw,rQ,rA,(ag H3 O2_5),wg15_5]<;>rfl,gh⟩
    have W4:=ad H4 W3
    have dr:ac (q+1) Y Pi none fr ai=.ret J4 ai:=by
     simp only[Rw,rQ,rA,Pi,Rx,R5,R6,R7,H1,H2,H3,H4,O1_9,O3_16]
    rw[dr]
    exact⟨_,W4,.inr ⟨j,e,rfl,O4_4,aL,jx rfl⟩⟩
   | false=>
    obtain⟨J5,H5,O5_8⟩:∃ aa,ar (q+1) Y wg15_6 J3 ai=.ok aa ai/\aa.get 8=some (ZI ((j+1))):=⟨_,by simp only[Rw,rQ,rA,(ag H3 (ag H2 V1_8)),wg15_6,aU]<;>rfl,gh⟩
    have bV:ac (q+1) Y Pi none fr ai=.norm J5 ai:=by
     simp only[Rw,rQ,rA,Pi,Rx,R5,R6,R7,H1,H2,H3,H5,O1_9,O3_16]
    rw[bV]
    exact⟨br,(ad H5 W3),(ag H5 (ag H3 V2_0)),(ag H5 (ag H3 V2_1)),(ag H5 (ag H3 (ag H2 (ag H1 g7)))),O5_8,rfl⟩
  ·rw[Qp br] at am
   obtain⟨J6,H6,O6_9⟩:∃ aa,ar (q+1) Y wg15_2 fr ai=.ok aa ai/\aa.get 9=some (.bool false):=⟨_,by simp only[Rw,rQ,rA,g7,g8,wg15_2,am]<;>rfl,gh⟩
   have ed:ac (q+1) Y Pi none fr ai=.exit 0 J6 ai:=by
    simp only[Rw,rQ,rA,Pi,Rx,R5,R6,R7,H6,O6_9]
   rw[ed]
   exact⟨_,(ad H6 d0),.inl rfl⟩
 obtain⟨fA7,dt⟩:∃ fA,fA=Vo 0 [sl,.func (.func 16) [] [.ptr id 0]] Fr.nil:=⟨_,rfl⟩
 have gA7_0:=R9 dt 0
 have gA7_1:=R9 dt 1
 have dA7:fA7.ds=[]:=by rw[dt];rfl
 obtain⟨J8,H8⟩:∃ aa,ar (q+1) Y wg15_0 fA7 st=.ok aa st:=⟨_,by simp only[Rw,rQ,rA,wg15_0]<;>rfl⟩
 have V8_0:=ag H8 gA7_0
 obtain⟨J9,H9,O9_7,O9_8⟩:∃ aa,ar (q+1) Y wg15_1 J8 st=.ok aa st/\aa.get 7=some (ZI l.length)/\aa.get 8=some Z0:=⟨_,by simp only[Rw,rQ,rA,V8_0,wg15_1,n1]<;>rfl,gn gh,gh⟩
 obtain⟨FR,dF,hL⟩:=hL J9 (ad H9 (ad H8 dA7)) (ag H9 V8_0) (ag H9 (ag H8 gA7_1)) O9_7 O9_8
 rcases hL with hL|⟨j,e,hL,F4,he,hf⟩
 ·left
  obtain⟨J10,H10,O10_4⟩:∃ aa,ar (q+1) Y wg15_7 FR st=.ok aa st/\aa.get 4=some (.int .i64 (.negSucc 0)):=⟨_,by simp only[Rw,rQ,rA,wg15_7]<;>rfl,gh⟩
  refine Ve (mf:=wf15) (fr:=J10) t15 rfl (.inl ?q10) (ad H10 dF) (by simp only[wf15,Vg,Vu,V0,O10_4,Qg,Ql])
  case q10=>
   rw[<-dt]
   simp only[Rw,rQ,rA,wf15,Rx,R5,R6,R7,H8,H9,hL,H10]
 ·refine .inr ⟨j,e,?_,he,hf⟩
  refine Ve (mf:=wf15) (fr:=FR) t15 rfl (.inl ?q11) dF (by simp only[wf15,Vg,Vu,V0,F4,Qg,Ql])
  case q11=>
   rw[<-dt]
   simp only[Rw,rQ,rA,wf15,Rx,R5,R6,R7,H8,H9,hL]
def wg17_0:List Vc:=[ZM 6 (.c .nilsl)]
def wg17_1:List Vc:=[ZV 8 0,ZV 9 1,ZV 10 2,ZV 11 0,ZN 12 11,ZO 13 (.slice 9 (.t 8) (some (.t 9)) (some (.t 10)) (some (.t 12)))]
def wg17_2:List Vc:=[ZV 14 1,ZV 15 2,ZO 16 (.bin false .eql (.t 14) (.t 15))]
def wg17_3:List Vc:=[ZV 17 0,ZV 6 17]
def wg17_4:List Vc:=[ZV 18 0,ZN 19 18,ZV 7 19]
def wg17_5:List (Vc × Nat):=[(ZV 20 0,0),(ZV 21 1,0),(ZO 22 (.slice 9 (.t 20) none (some (.t 21)) none),3),(ZV 23 0,0),(ZV 24 2,0),(ZO 25 (.slice 9 (.t 23) (some (.t 24)) none none),24),(ZO 26 (.append 136 9 none (.t 22) (.t 25)),63),(ZV 0 26,127)]
def wg17_6:List Vc:=[ZV 27 0,ZV 28 0,ZN 29 28,ZV 30 7,ZO 31 (.slice 9 (.t 27) (some (.t 29)) (some (.t 30)) none),⟨none,.clr 9 [Z0,Z0,Z0,Z0,.nilsl,Z0,.nilsl,.nilsl,.nilsl] (.t 31),none⟩]
def wg17_7:List Vc:=[ZV 32 0,ZV 6 32]
def wf17:Vm:=⟨33,(ZQ wg17_0 (ZQ wg17_1 (.seq (ZQ wg17_2 (.cond (.t 16) (ZR wg17_3) .skip)) (ZQ wg17_4 (.seq (.draw wg17_5 []) (ZQ wg17_6 (ZR wg17_7))))))),[.t 6]⟩
theorem t17:Ry 17=some wf17:=by kernel_rfl
theorem map_split(l:List En)(i:Nat)(x:En)(h:l[i]?=some x):l=l.take i++x::l.drop (i+1):=by
 have hi:=(Qt.1 h)
 conv=>lhs;rw[<-Zb i l,XO hi.1,hi.2]
theorem Ph(l:List En):(l.map En.cells).flatten.length=l.length*9:=by
 rw[SX (fun x hx=>(Pg l x hx).1),Qu]
theorem cells_one(l:List En):(l.map En.cells).flatten.all AV.one=true:=flatZ_one fun x hx=>(Pg l x hx).2
set_option maxHeartbeats 1000000 in
theorem delete17_run{s:St}{id n:Nat}{l1 l2:List En}{x:En}(bO:l1.length+l2.length=n)(hb:n<=4000)(hg:s.get id=some (.row ((l1++x::l2).map En.cells).flatten))(m:Nat)(Y:Vi):
  ∃ s' rest,R (m+1) Y 17 [.own id 0 (n+1) 9 none (n+1),ZI l1.length,ZI ((l1.length+1))] s=.ret (.own id 0 n 9 none (n+1)) s'/\s'.get id=some (.row (((l1++l2).map En.cells).flatten++rest))/\s'.next=s.next/\∀ j,j≠id->s'.get j=s.get j:=by
 obtain⟨fa,iX⟩:∃ fa,fa=(l1.map En.cells).flatten:=⟨_,rfl⟩
 obtain⟨fb,ji⟩:∃ fb,fb=(l2.map En.cells).flatten:=⟨_,rfl⟩
 have la:fa.length=l1.length*9:=by rw[iX];exact Ph l1
 have lb:fb.length=l2.length*9:=by rw[ji];exact Ph l2
 have lx:=x.cells9.1
 have oa:fa.all AV.one=true:=by rw[iX];exact cells_one l1
 have ob:fb.all AV.one=true:=by rw[ji];exact cells_one l2
 have cW:((l1++x::l2).map En.cells).flatten=fa++(x.cells++fb):=by rw[iX,ji];simp
 have eB:((l1++l2).map En.cells).flatten=fa++fb:=by rw[iX,ji];simp
 rw[cW] at hg
 rw[eB]
 have fy:(fa++(x.cells++fb)).length=(n+1)*9:=by simp only[QJ,la,lb,lx];omega
 obtain⟨i,hi⟩:∃ i,i=l1.length:=⟨_,rfl⟩
 rw[<-hi] at la bO ⊢
 have gB:∀ k gm af,(bif VD 0 (.own id 0 k 9 none gm) then Wm af (.own id 0 k 9 none gm) else none)=some (ZI k):=fun k gm af=>rfl
 have s1:Ys 9 (.own id 0 (n+1) 9 none (n+1)) (some (ZI i)) (some (ZI ((i+1)))) (some (ZI ((n+1))))=some (.own id (0+i*9) (i+1 - i) 9 (some (n+1 - i)) 0):=by
  simp only[Ys,Pn,Qg,TF,Q9,QD,Qo (show i<=i+1 by omega),hiOk,Qo (show i+1<=n+1 by omega),QU,Qy,Qi,Qo (Qw (n+1)),Option.isSome_some,XS]
 have s2:Ys 9 (.own id 0 (n+1) 9 none (n+1)) none (some (ZI i)) none=some (.own id (0+0*9) (i - 0) 9 none (n+1 - 0)):=by
  simp only[Ys,Pn,JC,Ql,Qg,TF,Q9,X5,QD,Qo (X3 i),hiOk,Qo (show i<=n+1 by omega),QU,Qy,Qi,bndA]
 rw[Nat.sub_zero,Nat.sub_zero] at s2
 have s2:Ys 9 (.own id 0 (n+1) 9 none (n+1)) none (some (ZI i)) none=some (.own id 0 i 9 none (n+1)):=s2
 have eql:Vr false .eql (ZI i) (ZI ((i+1)))=some (.bool false):=by
  rw[eqlI];congr 2;simp;omega
 have s4:Ys 9 (.own id 0 n 9 none (n+1)) (some (ZI n)) (some (ZI ((n+1)))) none=some (.own id (0+n*9) (n+1 - n) 9 none (n+1 - n)):=by
  simp only[Ys,Pn,JC,Ql,Qg,TF,Q9,X5,QD,Qo (show n<=n+1 by omega),hiOk,Qo (Qw (n+1)),XS,Qy,Qi,bndA]
 rw[Q7,show n+1 - n=1 by omega] at s4
 have key:∃ sA nQ lu,Ys 9 (.own id 0 (n+1) 9 none (n+1)) (some (ZI ((i+1)))) none none=some nQ/\Wd 9 s nQ=some lu/\VX 136 9 s (.own id 0 i 9 none (n+1)) lu.1 lu.2=some (.own id 0 n 9 none (n+1),sA)/\sA.next=s.next/\(∀ j,j≠id->sA.get j=s.get j)/\∃ z,z.length=9/\sA.get id=some (.row (fa++fb++z)):=by
  by_cases ql:i=n
  ·have fE:l2=[]:=XU.1 (by omega)
   have v5:fb=[]:=by rw[ji,fE];rfl
   subst ql
   refine⟨s,.lst 0 [] false,(0,[]),?_,rfl,rfl,rfl,fun _ _=>rfl,x.cells,lx,by rw[hg,v5];simp⟩
   have cF:Nat.ble (i+1+1) (i+1)=false:=by
    cases hx:Nat.ble (i+1+1) (i+1) with
    | false=>rfl
    | true=>have:=Qk hx;omega
   have oW:Nat.beq (i+1) 0=false:=rfl
   simp only[Ys,Pn,JC,Ql,Qg,TF,Q9,X5,QD,Qo (Qw (i+1)),hiOk,QU,Qy,Qi,bndA,cF,oW,Bool.or_false,Qq]
  ·have am:i < n:=by omega
   have qT:(fa++(x.cells++fb)).drop ((i+1)*9)=fb:=by
    rw[<-Xb,show (i+1)*9=(fa++x.cells).length by rw[QJ,la,lx];omega,List.drop_left]
   have v6:(n - i)*9=fb.length:=by rw[lb];congr 1;omega
   refine⟨s.put id (.row (setCells (fa++(x.cells++fb)) (i*9) fb)),.own id ((i+1)*9) (n - i) 9 none (n+1 - (i+1)),(n - i,fb),?_,?_,?_,rfl,fun j hj=>by rw[St.get_put,Qe hj],?_⟩
   ·have:Ys 9 (.own id 0 (n+1) 9 none (n+1)) (some (ZI ((i+1)))) none none=some (.own id (0+(i+1)*9) (n+1 - (i+1)) 9 none (n+1 - (i+1))):=by
     simp only[Ys,Pn,JC,Ql,Qg,TF,Q9,X5,QD,Qo (show i+1<=n+1 by omega),hiOk,Qo (Qw (n+1)),QU,Qy,Qi,bndA,Qo (show i+1+1<=n+1 by omega),XS]
    rw[this,Q7,show n+1 - (i+1)=n - i by omega]
   ·simp only[Wd,hg,QD,Qo (show (i+1)*9+(n - i)*9<=(fa++(x.cells++fb)).length by omega),Qy,Qi,qT]
    rw[v6,QH]
   ·have oZ:Nat.beq (n - i) 0=false:=by
     cases hx:n - i with
     | zero=>omega
     | succ q=>rfl
    have nR:i+(n - i)=n:=by omega
    unfold VX
    simp only[oZ,Qq,hg,QD,nR,Q7,Qo (show n*136<=140737488355328 by omega),Qo (show n<=140737488355328 by omega),Qo (show i*9<=(fa++(x.cells++fb)).length by omega),ob,Qy,Qi,KY,Qo (show n<=n+1 by omega),Qo (show n*9<=(fa++(x.cells++fb)).length by omega)]
   ·refine⟨(fa++(x.cells++fb)).drop (i*9+fb.length),by rw[List.length_drop];omega,?_⟩
    rw[St.get_put,Qm rfl]
    unfold setCells
    rw[List.take_left' la,Xb]
 obtain⟨sA,nQ,lu,k1,k2,k3,k4,k5,z,AC,k6⟩:=key
 have oi:(fa++fb).length=n*9:=by rw[QJ,la,lb];omega
 have clr:Ps 9 [Z0,Z0,Z0,Z0,.nilsl,Z0,.nilsl,.nilsl,.nilsl] sA (.own id (n*9) 1 9 none 1)=some (sA.put id (.row (setCells (fa++fb++z) (n*9) [Z0,Z0,Z0,Z0,.nilsl,Z0,.nilsl,.nilsl,.nilsl]))):=by
  have hz:Yl [Z0,Z0,Z0,Z0,.nilsl,Z0,.nilsl,.nilsl,.nilsl] 1=[Z0,Z0,Z0,Z0,.nilsl,Z0,.nilsl,.nilsl,.nilsl]:=rfl
  simp only[Ps,k6,QD,hz,QC,X2,Q7,Nat.one_mul,Qo (show n*9+9<=(fa++fb++z).length by rw[QJ,oi,AC];omega),Qy,Qi,QN,QW,AV.one,rA]
 have dv:(sA.put id (.row (setCells (fa++fb++z) (n*9) [Z0,Z0,Z0,Z0,.nilsl,Z0,.nilsl,.nilsl,.nilsl]))).get id=some (.row (fa++fb++([Z0,Z0,Z0,Z0,.nilsl,Z0,.nilsl,.nilsl,.nilsl]++z.drop 9))):=by
  rw[St.get_put,Qm rfl]
  unfold setCells
  rw[List.take_left' oi,<-oi,List.drop_length_add_append]
  rfl
 obtain⟨fA1,au⟩:∃ fA,fA=Vo 0 [.own id 0 (n+1) 9 none (n+1),ZI i,ZI ((i+1))] Fr.nil:=⟨_,rfl⟩
 have gA1_0:=R9 au 0
 have gA1_1:=R9 au 1
 have gA1_2:=R9 au 2
 have dA1:fA1.ds=[]:=by rw[au];rfl
 obtain⟨J2,H2⟩:∃ aa,ar m Y wg17_0 fA1 s=.ok aa s:=⟨_,by simp only[Rw,rQ,rA,wg17_0]<;>rfl⟩
 have V2_0:=ag H2 gA1_0
 have V2_1:=ag H2 gA1_1
 have V2_2:=ag H2 gA1_2
 obtain⟨J3,H3⟩:∃ aa,ar m Y wg17_1 J2 s=.ok aa s:=⟨_,by simp only[Rw,rQ,rA,V2_0,V2_1,V2_2,wg17_1,gB,s1,Kx,Qc,Qb]<;>rfl⟩
 have V3_1:=ag H3 V2_1
 have V3_2:=ag H3 V2_2
 obtain⟨J4,H4,O4_16⟩:∃ aa,ar m Y wg17_2 J3 s=.ok aa s/\aa.get 16=some (.bool false):=⟨_,by simp only[Rw,rQ,rA,V3_1,V3_2,wg17_2,eql]<;>rfl,gh⟩
 have V4_0:=ag H4 (ag H3 V2_0)
 obtain⟨J5,H5,O5_7⟩:∃ aa,ar m Y wg17_4 J4 s=.ok aa s/\aa.get 7=some (ZI ((n+1))):=⟨_,by simp only[Rw,rQ,rA,V4_0,wg17_4,gB]<;>rfl,gh⟩
 obtain⟨J6,H6,K6,O6_0⟩:∃ aa,VK ((gT m).cg Y) wg17_5 [] J5 s=.ok aa sA/\Kp [1,2,16,7] J5 aa/\aa.get 0=some (.own id 0 n 9 none (n+1)):=⟨_,Wj rfl (by simp only[Rw,rQ,rA,(ag H5 V4_0),(ag H5 (ag H4 V3_1)),(ag H5 (ag H4 V3_2)),wg17_5,s2,k1,k2,k3,tagN,Option.map_none,Kx,Qc,Qb]<;>rfl),Kp.refl.s.s.s.s.s.s.s.s,gh⟩
 have V6_7:=K6.g 7 O5_7
 have W6:=K6.1.trans (ad H5 (ad H4 (ad H3 (ad H2 dA1))))
 obtain⟨J7,H7⟩:∃ aa,ar m Y wg17_6 J6 sA=.ok aa (sA.put id (.row (setCells (fa++fb++z) (n*9) [Z0,Z0,Z0,Z0,.nilsl,Z0,.nilsl,.nilsl,.nilsl]))):=⟨_,by simp only[Rw,rQ,rA,V6_7,O6_0,wg17_6,gB,s4,clr,Option.map_none,R4.of2,nd_clr,Kx,Qc,Qb]<;>rfl⟩
 obtain⟨J8,H8,O8_6⟩:∃ aa,ar m Y wg17_7 J7 (sA.put id (.row (setCells (fa++fb++z) (n*9) [Z0,Z0,Z0,Z0,.nilsl,Z0,.nilsl,.nilsl,.nilsl])))=.ok aa (sA.put id (.row (setCells (fa++fb++z) (n*9) [Z0,Z0,Z0,Z0,.nilsl,Z0,.nilsl,.nilsl,.nilsl])))/\aa.get 6=some (.own id 0 n 9 none (n+1)):=⟨_,by simp only[Rw,rQ,rA,(ag H7 O6_0),wg17_7]<;>rfl,gh⟩
 refine⟨_,_,Ve (mf:=wf17) (fr:=J8) t17 rfl (.inl ?q8) (ad H8 (ad H7 W6)) (by simp only[wf17,Vg,Vu,V0,O8_6,Qg,Ql]),dv,k4,fun j hj=>by rw[St.get_put,Qe hj];exact k5 j hj⟩
 case q8=>
  rw[<-au]
  simp only[Rw,rQ,rA,wf17,Rx,R5,R6,R7,H2,H3,H4,H5,H6,H7,H8,O4_16]
end
noncomputable section
open Nat renaming reduceEqDiff -> rQ, reduceAdd -> rA
def RO(l:List En)(i:Int):Nat:=(l.filter fun e=>e.prop==i).length
theorem cntP_le(l:List En)(i:Int):RO l i<=l.length:=Zc ..
theorem cntP_app(l l':List En)(i:Int):RO (l++l') i=RO l i+RO l' i:=by unfold RO;simp
theorem cntP_snoc(l:List En)(e:En)(i:Int):RO (l++[e]) i=RO l i+(if (e.prop==i)=true then 1 else 0):=by
 rw[cntP_app]
 congr 1
 unfold RO
 cases h:e.prop==i<;>simp[h]
theorem En.cells_at2(e:En):e.cells[2]?=some (.int .i64 e.prop):=rfl
theorem gtrN1(c:Nat):Vr false .gtr (ZI c) (ZI 1)=some (.bool (decide (1 < c))):=by
 show some (AV.bool (decide (Int.ofNat c > Int.ofNat 1)))=_
 have h:(Int.ofNat c > Int.ofNat 1) ↔ 1 < c:=by
  show ((1:Nat):Int) < (c:Int) ↔ _
  omega
 rw[decide_eq_decide.2 h]
def wg18_0:List Vc:=[ZO 3 (.box true (.t 1)),ZM 4 (ZB false)]
def wg18_1:List Vc:=[ZM 5 (ZC 0)]
def wg18_2:List Vc:=[ZV 10 0,ZN 11 10,ZM 12 (ZC 0)]
def wg18_3:List Vc:=[ZO 13 (.bin false .lss (.t 12) (.t 11))]
def wg18_4:List Vc:=[ZP 14 1 10 12,ZL 15 14,ZV 7 15]
def wg18_5:List Vc:=[ZV 16 7,ZN 17 16,ZM 18 (ZC 0)]
def Pv:List Vc:=[ZO 19 (.bin false .lss (.t 18) (.t 17))]
def wg18_7:List Vc:=[ZP 20 9 16 18,ZK 21 9 20,ZO 9 (.alloc [Z0,Z0,Z0,Z0,.nilsl,Z0,.nilsl,.nilsl,.nilsl]),ZS 9 9 21]
def wg18_8:List Vc:=[ZA 22 2 9,ZL 23 22,ZA 24 2 3,ZL 25 24,ZO 26 (.bin false .eql (.t 23) (.t 25))]
def wg18_9:List Vc:=[ZV 27 5,ZO 28 (.bin false .add (.t 27) (ZC 1)),ZV 5 28]
def wg18_10:List Vc:=[ZO 29 (.bin false .add (.t 18) (ZC 1)),ZV 18 29]
def wg18_11:List Vc:=[ZO 30 (.bin false .add (.t 12) (ZC 1)),ZV 12 30]
def wg18_12:List Vc:=[ZV 31 5,ZO 32 (.bin false .gtr (.t 31) (ZC 1)),ZV 4 32]
def Pj:Vn:=(ZQ Pv (.seq (.cond (.t 19) .skip (.exit 2)) (.seq (.block 3 (ZQ wg18_7 (ZQ wg18_8 (.cond (.t 26) (.region wg18_9) .skip)))) (.region wg18_10))))
def Pt:Vn:=(ZQ wg18_3 (.seq (.cond (.t 13) .skip (.exit 0)) (.seq (.block 1 (ZQ wg18_4 (ZQ wg18_5 (.block 2 (.loop Pj))))) (.region wg18_11))))
def wf18:Vm:=⟨33,(ZQ wg18_0 (ZQ wg18_1 (.seq (ZQ wg18_2 (.block 0 (.loop Pt))) (ZR wg18_12)))),[.t 4]⟩
theorem t18:Ry 18=some wf18:=by kernel_rfl
theorem others18_run{F:Nat->Prop}{st:St}{jv:AV}{js:List (AV × List En)}(hj:YQ F st jv js)(hF:∀ i,F i->i < st.next)(ht:tot js<=4000){xc:List AV}{q:Int}(bY:xc[2]?=some (.int .i64 q))(m:Nat)(Y:Vi)(hn:fzJ js < m):
  ∃ af,R (m+1) Y 18 [jv,.agg xc] st=.ret (.bool (decide (1 < RO (VH js) q))) af/\Vd st af:=by
 obtain⟨h1,h2⟩:=hj
 have bO:=h1.len
 rw[Qu] at bO
 have hb:=h1.2.2.1
 rw[Qu] at hb
 have b9:=fzJ_len js
 have ef:∀ s:St,Vf false 1 s (.fptr xc 2)=some (.int .i64 q):=fun s=>load_fptr9 bY
 have gtr:=gtrN1 (RO (VH js) q)
 have mh:RB 1 F st jv ((js.map Prod.fst).map fun x=>[x]):=by rw[Xq];exact h1
 have hI:∀(i:Nat) (p:AV × List En),js[i]?=some p->∀(fr:Fr) (aB:St),Vd st aB->fr.ds=[]->fr.get 3=some (.fptr xc 0)->fr.get 5=some (ZI ((RO (VH (js.take i)) q)))->fr.get 10=some jv->fr.get 11=some (ZI js.length)->fr.get 12=some (ZI i)->fr.get 16=some p.1->fr.get 17=some (ZI p.2.length)->fr.get 18=some Z0 ->
   ∃ FR af,Vd st af/\FR.ds=[]/\Vx (ac m Y Pj none) m fr aB=.exit 2 FR af/\FR.get 3=some (.fptr xc 0)/\FR.get 5=some (ZI ((RO (VH (js.take (i+1))) q)))/\FR.get 10=some jv/\FR.get 11=some (ZI js.length)/\FR.get 12=some (ZI i):=by
  intro i p hi fr aB k0 d0 g1 g5 eK dj cw iJ oj ol
  have hp:=Qr hi
  obtain⟨e1,e2⟩:=h2 p hp
  have kZ:=e1.2.2.1
  rw[Qu] at kZ
  have wU:=Pm hp
  have rH:=tot_le js (i+1)
  have nu:=allE_take hi
  refine Ws (B:=ac m Y Pj none) (N:=p.2.length) (R3:=fun k fr ai=>fr.ds=[]/\fr.get 3=some (.fptr xc 0)/\fr.get 5=some (ZI ((RO (VH (js.take i)++p.2.take k) q)))/\fr.get 10=some jv/\fr.get 11=some (ZI js.length)/\fr.get 12=some (ZI i)/\fr.get 16=some p.1/\fr.get 17=some (ZI p.2.length)/\fr.get 18=some (ZI k)/\Vd st ai)
   (Out:=fun r=>∃ FR af,Vd st af/\FR.ds=[]/\r=.exit 2 FR af/\FR.get 3=some (.fptr xc 0)/\FR.get 5=some (ZI ((RO (VH (js.take (i+1))) q)))/\FR.get 10=some jv/\FR.get 11=some (ZI js.length)/\FR.get 12=some (ZI i)) ?_ p.2.length 0 fr aB m (by omega) (by omega) ⟨d0,g1,by rw[Xe,QG];exact g5,eK,dj,cw,iJ,oj,ol,k0⟩
  intro k fr ai hk ⟨d0,g1,g5,eK,dj,cw,iJ,oj,ol,kp⟩
  have am:=Wt k p.2.length
  have hS:=Vs.of kp hF
  by_cases aQ:k < p.2.length
  ·have hx:p.2[k]?=some p.2[k]:=Qn aQ
   generalize p.2[k]=e at hx
   obtain⟨pe,ie,bk⟩:=e1.at (k:=k) (x:=e.cells) (by rw[Q5,hx];rfl)
   have bk:=bk ai hS
   have aU:=WC (i:=k) (by omega)
   have bj:Vt 9 (ai.new (.row ze9)) (.ptr ai.next 0) (.agg e.cells)=some ((ai.new (.row ze9)).put ai.next (.row e.cells)):=VQ rfl e.cells9.1 e.cells9.2
   have k2:Vd ai ((ai.new (.row ze9)).put ai.next (.row e.cells)):=(Vd.refl ai).newput _ _
   have g2:((ai.new (.row ze9)).put ai.next (.row e.cells)).get ai.next=some (.row e.cells):=by rw[St.get_put,Qm rfl]
   have rU:=Vk g2 e.cells_at2
   have fa:=RG ai.next 2
   unfold ze9 at bj k2 g2 rU
   generalize bD:(ai.new (.row _)).put ai.next (.row e.cells)=st2 at bj k2 g2 rU
   have dO:=eqlI e.prop q
   have aY:=cntP_snoc (VH (js.take i)++p.2.take k) e q
   have v7:VH (js.take i)++p.2.take k++[e]=VH (js.take i)++p.2.take (k+1):=by rw[Xb,QT,hx];rfl
   rw[v7] at aY
   have bB:RO (VH (js.take i)++p.2.take k) q<=4000:=by
    have h3:=cntP_le (VH (js.take i)++p.2.take k) q
    rw[QJ,Xl] at h3
    have h4:=allE_len (js.take (i+1))
    rw[nu,QJ] at h4
    omega
   have li:=WC (i:=RO (VH (js.take i)++p.2.take k) q) (by omega)
   rw[Qs aQ] at am
   generalize (e.prop==q)=B at *
   cases B with
   | true=>
    rw[Qm rfl] at aY
    obtain⟨J1,H1,O1_19⟩:∃ aa,ar m Y Pv fr ai=.ok aa ai/\aa.get 19=some (.bool true):=⟨_,by simp only[Rw,rQ,rA,oj,ol,Pv,am]<;>rfl,gh⟩
    have V1_3:=ag H1 g1
    have V1_16:=ag H1 iJ
    have V1_18:=ag H1 ol
    have W1:=ad H1 d0
    obtain⟨J2,H2,O2_9⟩:∃ aa,ar m Y wg18_7 J1 ai=.ok aa st2/\aa.get 9=some (.ptr ai.next 0):=⟨_,by simp only[Rw,rQ,rA,V1_16,V1_18,wg18_7,ie,bk,bj]<;>rfl,gh⟩
    have V2_3:=ag H2 V1_3
    have W2:=ad H2 W1
    obtain⟨J3,H3,O3_26⟩:∃ aa,ar m Y wg18_8 J2 st2=.ok aa st2/\aa.get 26=some (.bool true):=⟨_,by simp only[Rw,rQ,rA,V2_3,O2_9,wg18_8,fa,rU,RI,ef,dO]<;>rfl,gh⟩
    have W3:=ad H3 W2
    obtain⟨J4,H4,O4_5⟩:∃ aa,ar m Y wg18_9 J3 st2=.ok aa st2/\aa.get 5=some (ZI ((RO (VH (js.take i)++p.2.take k) q+1))):=⟨_,by simp only[Rw,rQ,rA,(ag H3 (ag H2 (ag H1 g5))),wg18_9,li]<;>rfl,gh⟩
    have V4_3:=ag H4 (ag H3 V2_3)
    have W4:=ad H4 W3
    obtain⟨J5,H5,O5_18⟩:∃ aa,ar m Y wg18_10 J4 st2=.ok aa st2/\aa.get 18=some (ZI ((k+1))):=⟨_,by simp only[Rw,rQ,rA,(ag H4 (ag H3 (ag H2 V1_18))),wg18_10,aU]<;>rfl,gh⟩
    have V5_3:=ag H5 V4_3
    have V5_10:=ag H5 (ag H4 (ag H3 (ag H2 (ag H1 eK))))
    have V5_11:=ag H5 (ag H4 (ag H3 (ag H2 (ag H1 dj))))
    have V5_12:=ag H5 (ag H4 (ag H3 (ag H2 (ag H1 cw))))
    have V5_16:=ag H5 (ag H4 (ag H3 (ag H2 V1_16)))
    have V5_17:=ag H5 (ag H4 (ag H3 (ag H2 (ag H1 oj))))
    have V5_5:=ag H5 O4_5
    have W5:=ad H5 W4
    have bV:ac m Y Pj none fr ai=.norm J5 st2:=by
     simp only[Rw,rQ,rA,Pj,Rx,R5,R6,R7,H1,H2,H3,H4,H5,O1_19,O3_26]
    rw[bV]
    exact⟨aQ,W5,V5_3,by rw[aY];exact V5_5,V5_10,V5_11,V5_12,V5_16,V5_17,O5_18,kp.trans k2⟩
   | false=>
    rw[Qe (by decide),XA] at aY
    obtain⟨J6,H6,O6_19⟩:∃ aa,ar m Y Pv fr ai=.ok aa ai/\aa.get 19=some (.bool true):=⟨_,by simp only[Rw,rQ,rA,oj,ol,Pv,am]<;>rfl,gh⟩
    have V6_16:=ag H6 iJ
    have V6_18:=ag H6 ol
    obtain⟨J7,H7,O7_9⟩:∃ aa,ar m Y wg18_7 J6 ai=.ok aa st2/\aa.get 9=some (.ptr ai.next 0):=⟨_,by simp only[Rw,rQ,rA,V6_16,V6_18,wg18_7,ie,bk,bj]<;>rfl,gh⟩
    have V7_3:=ag H7 (ag H6 g1)
    have W7:=ad H7 (ad H6 d0)
    obtain⟨J8,H8,O8_26⟩:∃ aa,ar m Y wg18_8 J7 st2=.ok aa st2/\aa.get 26=some (.bool false):=⟨_,by simp only[Rw,rQ,rA,V7_3,O7_9,wg18_8,fa,rU,RI,ef,dO]<;>rfl,gh⟩
    have W8:=ad H8 W7
    obtain⟨J9,H9,O9_18⟩:∃ aa,ar m Y wg18_10 J8 st2=.ok aa st2/\aa.get 18=some (ZI ((k+1))):=⟨_,by simp only[Rw,rQ,rA,(ag H8 (ag H7 V6_18)),wg18_10,aU]<;>rfl,gh⟩
    have V9_3:=ag H9 (ag H8 V7_3)
    have V9_5:=ag H9 (ag H8 (ag H7 (ag H6 g5)))
    have V9_10:=ag H9 (ag H8 (ag H7 (ag H6 eK)))
    have V9_11:=ag H9 (ag H8 (ag H7 (ag H6 dj)))
    have V9_12:=ag H9 (ag H8 (ag H7 (ag H6 cw)))
    have V9_16:=ag H9 (ag H8 (ag H7 V6_16))
    have V9_17:=ag H9 (ag H8 (ag H7 (ag H6 oj)))
    have W9:=ad H9 W8
    have lj:ac m Y Pj none fr ai=.norm J9 st2:=by
     simp only[Rw,rQ,rA,Pj,Rx,R5,R6,R7,H6,H7,H8,H9,O6_19,O8_26]
    rw[lj]
    exact⟨aQ,W9,V9_3,by rw[aY];exact V9_5,V9_10,V9_11,V9_12,V9_16,V9_17,O9_18,kp.trans k2⟩
  ·rw[Qp aQ] at am
   have ce:k=p.2.length:=by omega
   rw[ce,QH,<-nu] at g5
   obtain⟨J10,H10,O10_19⟩:∃ aa,ar m Y Pv fr ai=.ok aa ai/\aa.get 19=some (.bool false):=⟨_,by simp only[Rw,rQ,rA,oj,ol,Pv,am]<;>rfl,gh⟩
   have jt:ac m Y Pj none fr ai=.exit 2 J10 ai:=by
    simp only[Rw,rQ,rA,Pj,Rx,R5,R6,R7,H10,O10_19]
   rw[jt]
   exact⟨_,_,kp,(ad H10 d0),rfl,(ag H10 g1),(ag H10 g5),(ag H10 eK),(ag H10 dj),(ag H10 cw)⟩
 have hO:∀(fr:Fr),fr.ds=[]->fr.get 3=some (.fptr xc 0)->fr.get 5=some Z0->fr.get 10=some jv->fr.get 11=some (ZI js.length)->fr.get 12=some Z0 ->
   ∃ FR af,Vd st af/\FR.ds=[]/\Vx (ac m Y Pt none) m fr st=.exit 0 FR af/\FR.get 5=some (ZI ((RO (VH js) q))):=by
  intro fr d0 g1 g5 eK dj cw
  refine Ws (B:=ac m Y Pt none) (N:=js.length) (R3:=fun i fr ai=>fr.ds=[]/\fr.get 3=some (.fptr xc 0)/\fr.get 5=some (ZI ((RO (VH (js.take i)) q)))/\fr.get 10=some jv/\fr.get 11=some (ZI js.length)/\fr.get 12=some (ZI i)/\Vd st ai)
   (Out:=fun r=>∃ FR af,Vd st af/\FR.ds=[]/\r=.exit 0 FR af/\FR.get 5=some (ZI ((RO (VH js) q)))) ?_ js.length 0 fr st m (by omega) (by omega) ⟨d0,g1,g5,eK,dj,cw,Vd.refl st⟩
  intro i fr ai hk ⟨d0,g1,g5,eK,dj,cw,kp⟩
  have am:=Wt i js.length
  have hS:=Vs.of kp hF
  by_cases gG:i < js.length
  ·have hx:js[i]?=some js[i]:=Qn gG
   generalize js[i]=p at hx
   obtain⟨pa,ia,lda⟩:=RB.at1 mh (k:=i) (x:=p.1) (by rw[Q5,hx];rfl)
   have lda:=lda ai hS
   have de:=(h2 p (Qr hx)).1.len ai
   rw[Qu] at de
   have aU:=WC (i:=i) (by omega)
   rw[Qs gG] at am
   obtain⟨J11,H11,O11_13⟩:∃ aa,ar m Y wg18_3 fr ai=.ok aa ai/\aa.get 13=some (.bool true):=⟨_,by simp only[Rw,rQ,rA,dj,cw,wg18_3,am]<;>rfl,gh⟩
   have V11_10:=ag H11 eK
   have V11_12:=ag H11 cw
   have W11:=ad H11 d0
   obtain⟨J12,H12,O12_7⟩:∃ aa,ar m Y wg18_4 J11 ai=.ok aa ai/\aa.get 7=some (p.1):=⟨_,by simp only[Rw,rQ,rA,V11_10,V11_12,wg18_4,ia,lda]<;>rfl,gh⟩
   obtain⟨J13,H13,O13_16,O13_17,O13_18⟩:∃ aa,ar m Y wg18_5 J12 ai=.ok aa ai/\aa.get 16=some (p.1)/\aa.get 17=some (ZI p.2.length)/\aa.get 18=some Z0:=⟨_,by simp only[Rw,rQ,rA,O12_7,wg18_5,de]<;>rfl,gn (gn gh),gn gh,gh⟩
   have W13:=ad H13 (ad H12 W11)
   obtain⟨FR,st2,k2,dF,hL,F1,F5,F10,F11,F12⟩:=hI i p hx J13 ai kp W13 (ag H13 (ag H12 (ag H11 g1))) (ag H13 (ag H12 (ag H11 g5))) (ag H13 (ag H12 V11_10)) (ag H13 (ag H12 (ag H11 dj))) (ag H13 (ag H12 V11_12)) O13_16 O13_17 O13_18
   obtain⟨J14,H14,O14_12⟩:∃ aa,ar m Y wg18_11 FR st2=.ok aa st2/\aa.get 12=some (ZI ((i+1))):=⟨_,by simp only[Rw,rQ,rA,F12,wg18_11,aU]<;>rfl,gh⟩
   have W14:=ad H14 dF
   have v8:ac m Y Pt none fr ai=.norm J14 st2:=by
    simp only[Rw,rQ,rA,Pt,Rx,R5,R6,R7,H11,H12,H13,hL,H14,O11_13]
   rw[v8]
   exact⟨gG,W14,(ag H14 F1),(ag H14 F5),(ag H14 F10),(ag H14 F11),O14_12,k2⟩
  ·rw[Qp gG] at am
   have ce:i=js.length:=by omega
   rw[ce,QH] at g5
   obtain⟨J15,H15,O15_13⟩:∃ aa,ar m Y wg18_3 fr ai=.ok aa ai/\aa.get 13=some (.bool false):=⟨_,by simp only[Rw,rQ,rA,dj,cw,wg18_3,am]<;>rfl,gh⟩
   have v9:ac m Y Pt none fr ai=.exit 0 J15 ai:=by
    simp only[Rw,rQ,rA,Pt,Rx,R5,R6,R7,H15,O15_13]
   rw[v9]
   exact⟨_,_,kp,(ad H15 d0),rfl,(ag H15 g5)⟩
 obtain⟨fA16,cO⟩:∃ fA,fA=Vo 0 [jv,.agg xc] Fr.nil:=⟨_,rfl⟩
 have gA16_0:=R9 cO 0
 have gA16_1:=R9 cO 1
 have dA16:fA16.ds=[]:=by rw[cO];rfl
 obtain⟨J17,H17,O17_3⟩:∃ aa,ar m Y wg18_0 fA16 st=.ok aa st/\aa.get 3=some (.fptr xc 0):=⟨_,by simp only[Rw,rQ,rA,gA16_1,wg18_0]<;>rfl,gn gh⟩
 have W17:=ad H17 dA16
 obtain⟨J18,H18,O18_5⟩:∃ aa,ar m Y wg18_1 J17 st=.ok aa st/\aa.get 5=some Z0:=⟨_,by simp only[Rw,rQ,rA,wg18_1]<;>rfl,gh⟩
 have V18_0:=ag H18 (ag H17 gA16_0)
 have W18:=ad H18 W17
 obtain⟨J19,H19,O19_10,O19_11,O19_12⟩:∃ aa,ar m Y wg18_2 J18 st=.ok aa st/\aa.get 10=some (jv)/\aa.get 11=some (ZI js.length)/\aa.get 12=some Z0:=⟨_,by simp only[Rw,rQ,rA,V18_0,wg18_2,bO st]<;>rfl,gn (gn gh),gn gh,gh⟩
 have W19:=ad H19 W18
 obtain⟨FR,st2,k2,dF,hL,F5⟩:=hO J19 W19 (ag H19 (ag H18 O17_3)) (ag H19 O18_5) O19_10 O19_11 O19_12
 obtain⟨J20,H20,O20_4⟩:∃ aa,ar m Y wg18_12 FR st2=.ok aa st2/\aa.get 4=some (.bool (decide (1 < RO (VH js) q))):=⟨_,by simp only[Rw,rQ,rA,F5,wg18_12,gtr]<;>rfl,gh⟩
 have W20:=ad H20 dF
 refine⟨_,Ve (mf:=wf18) (fr:=J20) t18 rfl (.inl ?q20) W20 (by simp only[wf18,Vg,Vu,V0,O20_4,Qg,Ql]),k2⟩
 case q20=>
  rw[<-cO]
  simp only[Rw,rQ,rA,wf18,Rx,R5,R6,R7,H17,H18,H19,hL,H20]
end
theorem sum_set:∀{l:List Nat} {i a b:Nat},l[i]?=some a->(l.set i b).sum+a=l.sum+b
 | [],_,_,_,h=>by simp at h
 | x::l,0,a,b,h=>by
  simp only[Q0,Qa] at h
  subst h
  simp only[List.set_cons_zero,Zq];omega
 | x::l,i+1,a,b,h=>by
  have:=sum_set (l:=l) (i:=i) (a:=a) (b:=b) (by simpa using h)
  simp only[List.set_cons_succ,Zq];omega
structure Chg(js da:List (AV × List En))(i:Nat)(l l':List En):Prop where
 hi:(js.map (·.2))[i]?=some l
 eq:da.map (·.2)=(js.map (·.2)).set i l'
theorem Chg.sum{js da:List (AV × List En)}{i:Nat}{l l':List En}(h:Chg js da i l l')(f:List En->Nat):(da.map fun p=>f p.2).sum+f l=(js.map fun p=>f p.2).sum+f l':=by
 have e:∀ js:List (AV × List En),(js.map fun p=>f p.2)=(js.map (·.2)).map f:=fun js=>by rw[Xq];rfl
 rw[e,e,h.eq,List.map_set]
 exact sum_set (by rw[Q5,h.hi];rfl)
theorem Chg.tot{js da:List (AV × List En)}{i:Nat}{l l':List En}(h:Chg js da i l l'):Go.AM.D32.tot da+l.length=Go.AM.D32.tot js+l'.length:=h.sum List.length
theorem Chg.fzJ{js da:List (AV × List En)}{i:Nat}{l l':List En}(h:Chg js da i l l'):Go.AM.D32.fzJ da+((l.map En.fz).sum+l.length+1)=Go.AM.D32.fzJ js+((l'.map En.fz).sum+l'.length+1):=h.sum fun l=>(l.map En.fz).sum+l.length+1
theorem Chg.len{js da:List (AV × List En)}{i:Nat}{l l':List En}(h:Chg js da i l l'):da.length=js.length:=by
 have:=Xn List.length h.eq
 simpa using this
theorem Chg.areB{js da:List (AV × List En)}{i:Nat}{l l':List En}(h:Chg js da i l l'){k:Nat}{N:Int}(hA:Go.AM.D32.areB k N js=true)(hl:l'.all (En.good k)=true)(ht:Go.AM.D32.tot da<=4000):Go.AM.D32.areB k N da=true:=by
 unfold Go.AM.D32.areB at hA ⊢
 simp only[Qd,QF] at hA ⊢
 refine⟨⟨by rw[h.len];exact hA.1.1,ht⟩,?_⟩
 have e:∀ js:List (AV × List En),(js.all fun p=>p.2.all (En.good k))=(js.map (·.2)).all fun l=>l.all (En.good k):=fun js=>by rw[List.all_map];rfl
 have h2:=hA.2
 rw[e] at h2 ⊢
 rw[h.eq,QB]
 intro y hy
 rcases List.mem_or_eq_of_mem_set hy with h3 | h3
 ·exact QB.1 h2 y h3
 ·rw[h3];exact hl
theorem Chg.good{js:List (AV × List En)}{i:Nat}{l:List En}{k:Nat}{N:Int}(hi:(js.map (·.2))[i]?=some l)(hA:Go.AM.D32.areB k N js=true):l.all (En.good k)=true:=by
 unfold Go.AM.D32.areB at hA
 simp only[Qd,QB] at hA
 obtain⟨p,hp,rfl⟩:=Q6.1 (Qr hi)
 exact QB.2 (hA.2 p hp)
theorem Chg.pe{js da:List (AV × List En)}{i:Nat}{l l':List En}(h:Chg js da i l l'):∃ A C,Go.AM.D32.pe (Vq js)=A++l.map (fun e=>(i,e))++C/\Go.AM.D32.pe (Vq da)=A++l'.map (fun e=>(i,e))++C:=by
 obtain⟨A,C,p1,p2⟩:=peJ_set (js.map (·.2)) 0 i l h.hi
 simp only[Q7] at p1 p2
 exact⟨A,C,by rw[pe_spots,p1],by rw[pe_spots,h.eq,p2]⟩
theorem Chg.not{js da:List (AV × List En)}{i:Nat}{l l':List En}(h:Chg js da i l l'){k:Nat}{ps:List Int}(bc:okM k ps (Vq js))(dU:∀ P,Pd k ps P (l.map fun e=>(i,e))->¬ Pd k ps P (l'.map fun e=>(i,e))):¬ okM k ps (Vq da):=fun h'=>by
 obtain⟨A,C,p1,p2⟩:=h.pe
 have f1:=(Px _ _ _).1 bc.1
 have f2:=(Px _ _ _).1 h'.1
 rw[p1,Pc,Pc] at f1
 rw[p2,Pc,Pc] at f2
 exact dU _ f1.1.2 f2.1.2
theorem Chg.named{js da:List (AV × List En)}{i:Nat}{a c:List En}{x x':En}(h:Chg js da i (a++x::c) (a++x'::c)){k:Nat}{ps:List Int}(bc:okM k ps (Vq js))(hp:x'.prop=x.prop)(hg:x'.gate≠x.gate)(hc:1 < RO (VH js) x.prop):¬ okM k ps (Vq da):=fun h'=>by
 obtain⟨A,C,p1,p2⟩:=h.pe
 have e1:Go.AM.D32.pe (Vq js)=(A++a.map fun e=>(i,e))++(i,x)::((c.map fun e=>(i,e))++C):=by rw[p1];simp
 have e2:Go.AM.D32.pe (Vq da)=(A++a.map fun e=>(i,e))++(i,x')::((c.map fun e=>(i,e))++C):=by rw[p2];simp
 have f1:=(Px _ _ _).1 bc.1
 have f2:=(Px _ _ _).1 h'.1
 rw[e1] at f1
 rw[e2] at f2
 refine caught_named (P:=[]) (z:=x) hp hg ?_ f1 f2
 have h3:VH js=(A++a.map fun e=>(i,e)).map (·.2)++x::((c.map fun e=>(i,e))++C).map (·.2):=by
  rw[<-ens_spots,<-pe_ens,e1,QQ,Q4]
 have fp:∀ l:List En,0 < RO l x.prop->∃ y∈l,y.prop=x.prop:=fun l hl=>by
  obtain⟨y,hy⟩:=List.exists_mem_of_length_pos hl
  obtain⟨h4,h5⟩:=Zk.1 hy
  exact⟨y,h4,by simpa using h5⟩
 have AD:RO [x] x.prop=1:=by simp[RO]
 rw[h3,show ∀ u v:List En,u++x::v=u++([x]++v) from fun _ _=>rfl,cntP_app,cntP_app,AD] at hc
 by_cases h4:0 < RO ((A++a.map fun e=>(i,e)).map (·.2)) x.prop
 ·obtain⟨y,hy,he⟩:=fp _ h4
  exact .inl ⟨y,by simpa using hy,he⟩
 ·exact .inr (fp _ (by omega))
theorem RB.from{z:Nat}{st:St}{sl:AV}{xs:List (List AV)}(h:RB z (fun _=>False) st sl xs){k:Nat}(hk:k<=xs.length)(h0:0 < xs.length):∃ bI,Ys z sl (some (ZI k)) none none=some bI/\RB z (fun _=>False) st bI (xs.drop k):=by
 obtain⟨hz,h1,h2,h3⟩:=h
 have hx:=fun x hx=>(h1 x hx).1
 rcases h3 with⟨rfl,rfl⟩|⟨ex,rfl⟩|⟨id,cap,lo,rest,rfl,hi,hg⟩
 ·simp at h0
 ·have me:=SX hx
  have hd:∀(xs:List (List AV)) (k:Nat),(∀ x∈xs,x.length=z)->k<=xs.length->xs.flatten.drop (k*z)=(xs.drop k).flatten:=fun xs=>by
   induction xs with
   | nil=>intro k _ hk;simp at hk;subst hk;simp
   | cons y ys ih=>
    intro k hy hk
    cases k with
    | zero=>simp
    | succ k=>
     have ha:=hy y (by simp)
     rw[Xc,show (k+1)*z=y.length+k*z by rw[Xv,ha];omega,List.drop_length_add_append,XH]
     exact ih k (fun x hm=>hy x (by simp[hm])) (by simpa using hk)
  have ut:(xs.drop k).flatten.length=(xs.length - k)*z:=by
   rw[SX (fun x hm=>hx x (List.mem_of_mem_drop hm)),List.length_drop]
  refine⟨.lst (xs.length - k) (xs.drop k).flatten (ex&&true),?_,hz,fun x hm=>h1 x (List.mem_of_mem_drop hm),by rw[List.length_drop];omega,.inr (.inl ⟨ex&&true,by rw[List.length_drop]⟩)⟩
  simp only[Ys,JC,bndA,Ql,Qg,TF,Q9,X5,Qo hk,Qo (Qw xs.length),me,Qo (Qw (xs.length*z)),Qy,Qi,hd xs k hx hk,QD]
  rw[<-ut,QH]
 ·exact hi.elim
end Go.AM.D32
