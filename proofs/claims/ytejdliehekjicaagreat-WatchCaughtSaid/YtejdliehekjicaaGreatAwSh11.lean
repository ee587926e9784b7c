import Derived.Test.YtejdliehekjicaaGreatAwRef
import Derived.Test.YtejdliehekjicaaGreatAwSh2
set_option maxRecDepth 100000
set_option linter.unusedSimpArgs false
namespace Go.AM.D32
open Go Go.AM
noncomputable section
open Nat renaming reduceEqDiff -> rQ, reduceAdd -> rA
def lb2(c i j1 j2 b b1:Nat)(C:List Vc)(B:Vn):Vn:=.seq (ZQ C (.cond (.t c) .skip (.exit b))) (.seq (.block b1 B) (.region [⟨some j1,.mv (.t i),none⟩,⟨some j2,.bin false .add (.t j1) (ZC 1),none⟩,⟨some i,.mv (.t j2),none⟩]))
theorem U4{Γ:RC}{Y:Vi}{m N c i j1 j2 b b1:Nat}{ro:Option Nat}{C:List Vc}{B:Vn}{L:List Nat}{av:Fr}{Q:Nat->Fr->St->Prop}{Post:Fr->St->Prop}
  (hi:i∉L) (rC:j1∉L) (fu:j2∉L) (hN:N<=9223372036854775807)
  (hQ:∀ k fr st s v,(s=i\/s=j1\/s=j2)->Q k fr st->Q k (fr.set s v) st)
  (hC:∀ k fr st,k<=N->Kp L av fr->fr.get i=some (ZI k)->Q k fr st->∃ aa,Vj (Γ.cg Y) C fr st=.ok aa st/\Kp (i::L) fr aa/\aa.get c=some (.bool (decide (k < N)))/\Q k aa st)
  (hB:∀ k fr st,k < N->Kp L av fr->fr.get i=some (ZI k)->Q k fr st ->
   (∃ FR af,Vh Γ Y m B ro fr st=.norm FR af/\Kp (i::L) fr FR/\Q (k+1) FR af)\/(∃ FR af,Vh Γ Y m B ro fr st=.ret FR af/\Post FR af)):
  ∀(j k:Nat) (fr:Fr) (st:St) (fuel:Nat),k+j=N->j < fuel->Kp L av fr->fr.get i=some (ZI k)->Q k fr st ->
   (∃ FR af,Vx (Vh Γ Y m (lb2 c i j1 j2 b b1 C B) ro) fuel fr st=.exit b FR af/\Kp L av FR/\Q N FR af)\/(∃ FR af,Vx (Vh Γ Y m (lb2 c i j1 j2 b b1 C B) ro) fuel fr st=.ret FR af/\Post FR af)
 | _,_,_,_,0,_,hf,_,_,_=>by omega
 | 0,k,fr,st,fuel+1,hk,_,hp,gi,hq=>by
  have aQ:k=N:=by omega
  obtain⟨aa,h1,h2,h3,h4⟩:=hC k fr st (by omega) hp gi hq
  rw[Qp (by omega)] at h3
  refine .inl ⟨aa,st,?_,hp.trans ⟨h2.1,fun x hx=>h2.2 x (XD _ hx)⟩,aQ ▸ h4⟩
  rw[Vx]
  simp only[Rw,rQ,rA,lb2,h1,h3]
 | j+1,k,fr,st,fuel+1,hk,hf,hp,gi,hq=>by
  obtain⟨aa,h1,h2,h3,h4⟩:=hC k fr st (by omega) hp gi hq
  rw[Qs (by omega)] at h3
  have lY:Kp L av aa:=hp.trans ⟨h2.1,fun x hx=>h2.2 x (XD _ hx)⟩
  have rz:aa.get i=some (ZI k):=h2.at Zl gi
  have aU:=WC (i:=k) (by omega)
  rcases hB k aa st (by omega) lY rz h4 with⟨FR,af,hb,aI,gR⟩|⟨FR,af,hb,lW⟩
  ·have yW:FR.get i=some (ZI k):=aI.at Zl rz
   have tP:Kp L av FR:=lY.trans ⟨aI.1,fun x hx=>aI.2 x (XD _ hx)⟩
   have ax:Vh Γ Y m (lb2 c i j1 j2 b b1 C B) ro fr st=.norm (((FR.set j1 (some (ZI k))).set j2 (some (ZI ((k+1))))).set i (some (ZI ((k+1))))) af:=by
    simp only[Rw,rQ,rA,lb2,h1,h3,hb,yW,aU]
   rcases U4 hi rC fu hN hQ hC hB j (k+1) (((FR.set j1 (some (ZI k))).set j2 (some (ZI ((k+1))))).set i (some (ZI ((k+1))))) af fuel (by omega) (by omega)
    (Kp.set hi (Kp.set fu (Kp.set rC tP))) (by rw[Fr.get_set,Qm rfl]) (hQ _ _ _ _ _ (.inl rfl) (hQ _ _ _ _ _ (.inr (.inr rfl)) (hQ _ _ _ _ _ (.inr (.inl rfl)) gR))) with⟨F2,s2,h,h2⟩|⟨F2,s2,h,h2⟩
   ·refine .inl ⟨F2,s2,?_,h2⟩
    rw[Vx,ax]
    exact h
   ·refine .inr ⟨F2,s2,?_,h2⟩
    rw[Vx,ax]
    exact h
  ·refine .inr ⟨FR,af,?_,lW⟩
   rw[Vx]
   simp only[Rw,rQ,rA,lb2,h1,h3,hb]
theorem lssD(k n:Nat):Vr false .lss (ZI k) (ZI n)=some (.bool (decide (k < n))):=Wt k n
theorem subW(a:Int):Vr false .sub (.int .i64 a) (ZI 1)=some (.int .i64 (sw a 1)):=rfl
theorem addW(a:Int):Vr false .add (.int .i64 a) (ZI 1)=some (.int .i64 (aw a 1)):=rfl
theorem ex20(a b:AV):WJ 0 (.tuple [a,b])=some a:=rfl
theorem ex21(a b:AV):WJ 1 (.tuple [a,b])=some b:=rfl
def g165_0:List Vc:=[ZA 28 2 3,ZL 29 28,ZV 30 8,ZP 31 3 29 30,ZK 32 3 31,ZV 33 1,ZV 34 2,ZO 35 (.bin false .add (.t 34) (ZC 1)),ZX 36 210 [(.t 32),(.t 33),(.t 35)],ZV 27 36,ZO 37 (.extract 0 (.t 27)),ZO 38 (.extract 1 (.t 27)),ZV 9 37,ZV 10 38]
def g165_5:List Vc:=[ZV 11 1,ZO 12 (.bin false .sub (.t 11) (ZC 1)),ZV 1 12]
def TH:List Vc:=[ZV 13 1,ZO 14 (.bin false .lss (.t 13) (ZC 0)),ZV 15 14,ZG 16 (.mv (.t 2)) 15 false,ZG 17 (.bin false .gtr (.t 16) (ZC 200)) 15 false,ZO 18 (.pick (.t 15) (ZB true) (.t 17))]
def UU:Vn:=(ZQ g165_0
 (ZQ [ZV 39 9,ZV 1 39]
 (ZQ [ZV 40 10,ZO 41 (.un .not (.t 40))]
 (.cond (.t 41)
 (ZR [ZV 42 1,ZV 6 42,ZM 7 (ZB false)])
 .skip))))
def cf165_0:List Vc:=[ZV 20 8,ZA 21 2 3,ZL 22 21,ZN 23 22,ZO 24 (.bin false .lss (.t 20) (.t 23))]
def JT:Vm:=⟨44,(ZQ [ZO 3 (.box true (.t 0)),ZM 6 (ZC 0),ZM 7 (ZB false)]
 (ZQ g165_5
 (.seq (ZQ TH
 (.cond (.t 18)
 (ZR [ZV 19 1,ZV 6 19,ZM 7 (ZB false)])
 .skip))
 (.seq (ZQ [ZM 8 (ZC 0)]
 (.block 0 (.loop (lb2 24 8 25 26 0 1 cf165_0 UU))))
 (ZR [ZV 43 1,ZV 6 43,ZM 7 (ZB true)]))))),[.t 6,.t 7]⟩
theorem t210:Ry 210=some JT:=by kernel_rfl
theorem counted165(t:Tm):∀(n:Nat) (Y:Vi) (F:Nat->Prop) (st:St) (left deep:Int) (cs:List AV),We F st t cs->t.fz<=n ->
  R n Y 210 [.agg cs,.int .i64 left,.int .i64 deep] st=.ret (.tuple [.int .i64 (rcT t left deep).1,.bool (rcT t left deep).2]) st:=by
 induction hs:t.fz using Nat.strongRecOn generalizing t with
 | _ s ih=>
 intro n Y F st left deep cs hr hn
 cases t with
 | mk k0 n0 nl ex l=>
 simp only[We] at hr
 obtain⟨sl,xs,rfl,aD,bg⟩:=hr
 simp only[Tm.fz] at hs
 obtain⟨m,rfl⟩:∃ m,n=m+1:=⟨n - 1,by omega⟩
 have Rx:Nat.beq 0 0=true:=rfl
 have bJ:=bg.len
 have al:=aD.len st
 have e1:Vr false .lss (.int .i64 (sw left 1)) Z0=some (.bool (decide (sw left 1 < 0))):=rfl
 have e2:Vr false .gtr (.int .i64 deep) (ZI 200)=some (.bool (decide (deep > 200))):=rfl
 unfold rcT
 obtain⟨fA1,au⟩:∃ fA,fA=Vo 0 [.agg [.int .i64 k0,.int .i64 n0,sl],.int .i64 left,.int .i64 deep] Fr.nil:=⟨_,rfl⟩
 have gA1_0:=R9 au 0
 have gA1_1:=R9 au 1
 have gA1_2:=R9 au 2
 have dA1:fA1.ds=[]:=by rw[au];rfl
 obtain⟨J2,H2,O2_3,O2_6,O2_7⟩:∃ aa,ar m Y [ZO 3 (.box true (.t 0)),ZM 6 (ZC 0),ZM 7 (ZB false)] fA1 st=.ok aa st/\aa.get 3=some (.fptr [.int .i64 k0,.int .i64 n0,sl] 0)/\aa.get 6=some Z0/\aa.get 7=some (.bool false):=⟨_,by simp only[Rw,rQ,rA,gA1_0]<;>rfl,gn (gn gh),gn gh,gh⟩
 have W2:=ad H2 dA1
 obtain⟨J3,H3,O3_1⟩:∃ aa,ar m Y g165_5 J2 st=.ok aa st/\aa.get 1=some (.int .i64 (sw left 1)):=⟨_,by simp only[Rw,rQ,rA,(ag H2 gA1_1),g165_5,subW]<;>rfl,gh⟩
 have V3_2:=ag H3 (ag H2 gA1_2)
 have V3_3:=ag H3 O2_3
 have W3:=ad H3 W2
 by_cases c1:sw left 1 < 0
 ·rw[Qm c1]
  have io:=Qs c1
  obtain⟨J4,H4,O4_18⟩:∃ aa,ar m Y TH J3 st=.ok aa st/\aa.get 18=some (.bool true):=⟨_,by simp only[Rw,rQ,rA,V3_2,O3_1,TH,e1,e2,io,Qc,Qb]<;>rfl,by simp only[Fr.get_set,rQ,↓reduceIte,amB]⟩
  have W4:=ad H4 W3
  obtain⟨J5,H5,O5_6,O5_7⟩:∃ aa,ar m Y [ZV 19 1,ZV 6 19,ZM 7 (ZB false)] J4 st=.ok aa st/\aa.get 6=some (.int .i64 (sw left 1))/\aa.get 7=some (.bool false):=⟨_,by simp only[Rw,rQ,rA,(ag H4 O3_1)]<;>rfl,gn gh,gh⟩
  have W5:=ad H5 W4
  refine Ve (mf:=JT) (fr:=J5) t210 rfl (.inl ?q5) W5 (by simp only[JT,Vg,Vu,V0,O5_6,O5_7,Qg,Ql])
  case q5=>
   rw[<-au]
   simp only[Rw,rQ,rA,JT,Rx,H2,H3,H4,H5,O4_18]
 rw[Qe c1]
 have io:=Qp c1
 by_cases c2:deep > 200
 ·rw[Qm c2]
  have dJ:=Qs c2
  obtain⟨J6,H6,O6_18⟩:∃ aa,ar m Y TH J3 st=.ok aa st/\aa.get 18=some (.bool true):=⟨_,by simp only[Rw,rQ,rA,V3_2,O3_1,TH,e1,e2,io,dJ,Qc,Qb]<;>rfl,by simp only[Fr.get_set,rQ,↓reduceIte,amB]⟩
  have W6:=ad H6 W3
  obtain⟨J7,H7,O7_6,O7_7⟩:∃ aa,ar m Y [ZV 19 1,ZV 6 19,ZM 7 (ZB false)] J6 st=.ok aa st/\aa.get 6=some (.int .i64 (sw left 1))/\aa.get 7=some (.bool false):=⟨_,by simp only[Rw,rQ,rA,(ag H6 O3_1)]<;>rfl,gn gh,gh⟩
  have W7:=ad H7 W6
  refine Ve (mf:=JT) (fr:=J7) t210 rfl (.inl ?q7) W7 (by simp only[JT,Vg,Vu,V0,O7_6,O7_7,Qg,Ql])
  case q7=>
   rw[<-au]
   simp only[Rw,rQ,rA,JT,Rx,H2,H3,H6,H7,O6_18]
 rw[Qe c2]
 have dJ:=Qp c2
 obtain⟨J8,H8,O8_18⟩:∃ aa,ar m Y TH J3 st=.ok aa st/\aa.get 18=some (.bool false):=⟨_,by simp only[Rw,rQ,rA,V3_2,O3_1,TH,e1,e2,io,dJ,Qc,Qb]<;>rfl,by simp only[Fr.get_set,rQ,↓reduceIte,amB]⟩
 have W8:=ad H8 W3
 obtain⟨J9,H9,O9_8⟩:∃ aa,ar m Y [ZM 8 (ZC 0)] J8 st=.ok aa st/\aa.get 8=some Z0:=⟨_,by simp only[Rw,rQ,rA]<;>rfl,gh⟩
 have V9_3:=ag H9 (ag H8 V3_3)
 have W9:=ad H9 W8
 have hC:∀ k fr s,k<=xs.length->Kp [2,3] J9 fr->fr.get 8=some (ZI k)->(s=st/\∃ lf,fr.get 1=some (.int .i64 lf)/\rcL (l.drop k) lf deep=(rcL l (sw left 1) deep)) ->
   ∃ aa,ar m Y cf165_0 fr s=.ok aa s/\Kp [8,2,3] fr aa/\aa.get 24=some (.bool (decide (k < xs.length)))/\(s=st/\∃ lf,aa.get 1=some (.int .i64 lf)/\rcL (l.drop k) lf deep=(rcL l (sw left 1) deep)):=by
  intro k fr s hk aI g8 ⟨ax,lf,q1,hq⟩
  subst ax
  have q3:=aI.at (k:=3) (by decide) V9_3
  refine⟨?c0,?c1,?c2,?c3,rfl,lf,?c4,hq⟩
  case c1=>
   simp only[Rw,rQ,rA,cf165_0,q3,g8,RP,WB,al,lssD]
   rfl
  case c2=>repeat (first | exact Kp.refl | refine Kp.set (by decide) ?_)
  case c3=>simp only[Fr.get_set,rQ,↓reduceIte]
  case c4=>simp only[Fr.get_set,rQ,↓reduceIte,q1]
 have hB:∀ k fr s,k < xs.length->Kp [2,3] J9 fr->fr.get 8=some (ZI k)->(s=st/\∃ lf,fr.get 1=some (.int .i64 lf)/\rcL (l.drop k) lf deep=(rcL l (sw left 1) deep)) ->
   (∃ FR s',ac m Y UU none fr s=.norm FR s'/\Kp [8,2,3] fr FR/\(s'=st/\∃ lf,FR.get 1=some (.int .i64 lf)/\rcL (l.drop (k+1)) lf deep=(rcL l (sw left 1) deep))) ∨
   (∃ FR s',ac m Y UU none fr s=.ret FR s'/\(s'=st/\FR.ds=[]/\FR.get 6=some (.int .i64 (rcL l (sw left 1) deep).1)/\FR.get 7=some (.bool (rcL l (sw left 1) deep).2))):=by
  intro k fr s hk aI g8 ⟨ax,lf,q1,hq⟩
  subst ax
  obtain⟨t,ht,bH⟩:=WR (l:=l) (k:=k) (by omega)
  obtain⟨x,hx,bZ⟩:=bg.at ht
  obtain⟨p,ia,ld⟩:=aD.at hx
  have ld:=ld s (Vs.refl _ _)
  have bv:=Tm.fzL_mem (Qr ht)
  have ay:((gT m).cg Y).fn 210 [.agg x,.int .i64 lf,.int .i64 (aw deep 1)] s=.ret (.tuple [.int .i64 (rcT t lf (aw deep 1)).1,.bool (rcT t lf (aw deep 1)).2]) s:=ih t.fz (by omega) t rfl m Y F s lf (aw deep 1) x bZ (by omega)
  have q2:=aI.at (k:=2) (by decide) (ag H9 (ag H8 V3_2))
  have q3:=aI.at (k:=3) (by decide) V9_3
  rw[bH,rcL_cons] at hq
  generalize (rcT t lf (aw deep 1)).1=L2 at *
  generalize (rcT t lf (aw deep 1)).2=ok at *
  obtain⟨J10,H10,K10,O10_9,O10_10⟩:∃ aa,ar m Y g165_0 fr s=.ok aa s/\Kp [8,2,3] fr aa/\aa.get 9=some (.int .i64 L2)/\aa.get 10=some (.bool ok):=⟨_,by simp only[Rw,rQ,rA,q1,q2,q3,g8,g165_0,RP,WB,ia,ld,addW,ay,ex20,ex21]<;>rfl,Kp.refl.s.s.s.s.s.s.s.s.s.s.s.s.s.s,gn gh,gh⟩
  obtain⟨J11,H11,K11,O11_1⟩:∃ aa,ar m Y [ZV 39 9,ZV 1 39] J10 s=.ok aa s/\Kp [8,2,3,10] J10 aa/\aa.get 1=some (.int .i64 L2):=⟨_,by simp only[Rw,rQ,rA,O10_9]<;>rfl,Kp.refl.s.s,gh⟩
  have V11_10:=K11.g 10 O10_10
  obtain⟨J12,H12,K12,O12_41⟩:∃ aa,ar m Y [ZV 40 10,ZO 41 (.un .not (.t 40))] J11 s=.ok aa s/\Kp [8,2,3,1] J11 aa/\aa.get 41=some (.bool (!ok)):=⟨_,by simp only[Rw,rQ,rA,V11_10,unN,Qc,Qb]<;>rfl,Kp.refl.s.s,gh⟩
  have V12_1:=K12.g 1 O11_1
  cases ok with
  | true=>
   rw[Qm rfl] at hq
   refine .inl ⟨J12,s,?q12,(((K10.sub (by decide)).trans (K11.sub (by decide))).trans (K12.sub (by decide))),rfl,L2,V12_1,hq⟩
   case q12=>simp only[Rw,rQ,rA,UU,H10,H11,H12,O12_41,Qc]
  | false=>
   obtain⟨J13,H13,O13_6,O13_7⟩:∃ aa,ar m Y [ZV 42 1,ZV 6 42,ZM 7 (ZB false)] J12 s=.ok aa s/\aa.get 6=some (.int .i64 L2)/\aa.get 7=some (.bool false):=⟨_,by simp only[Rw,rQ,rA,V12_1]<;>rfl,gn gh,gh⟩
   rw[Qe (by decide)] at hq
   refine .inr ⟨J13,s,?q13,rfl,(ad H13 (K12.1.trans (K11.1.trans (K10.1.trans (aI.1.trans W9))))),?y13,?z13⟩
   case q13=>simp only[Rw,rQ,rA,UU,H10,H11,H12,H13,O12_41,Qb]
   case y13=>rw[<-hq];exact O13_6
   case z13=>rw[<-hq];exact O13_7
 rcases U4 (Γ:=(gT m)) (Y:=Y) (m:=m) (N:=xs.length) (c:=24) (i:=8) (j1:=25) (j2:=26) (b:=0) (b1:=1) (ro:=none) (C:=cf165_0) (B:=UU) (L:=[2,3]) (av:=J9) (by decide) (by decide) (by decide) aD.2.1
  (Q:=fun k fr s=>s=st/\∃ lf,fr.get 1=some (.int .i64 lf)/\rcL (l.drop k) lf deep=(rcL l (sw left 1) deep)) (fun k fr s x v hx ⟨h1,lf,h2,h3⟩=>⟨h1,lf,by rw[Fr.get_set,Qe (by omega)];exact h2,h3⟩) hC hB xs.length 0 J9 st m (by omega) (by omega) Kp.refl O9_8 ⟨rfl,_,(ag H9 (ag H8 O3_1)),rfl⟩
  with⟨FR,s',h1,h2,h3,lf,h4,h5⟩|⟨FR,s',h1,h2,h3,h4,h5⟩
 ·subst h3
  rw[bJ,Xr,rcL_nil] at h5
  rw[<-h5]
  refine Ve (mf:=JT) (fr:=((FR.set 43 (some (.int .i64 lf))).set 6 (some (.int .i64 lf))).set 7 (some (.bool true))) t210 rfl (.inl ?w1) (h2.1.trans W9) ?w2
  case w1=>
   rw[<-au]
   simp only[Rw,rQ,rA,JT,Rx,H2,H3,H8,H9,O8_18,h1,h4]
  case w2=>simp only[JT,Vg,Vu,V0,Fr.get_set,rQ,↓reduceIte,Qg,Ql]
 ·subst h2
  refine Ve (mf:=JT) (fr:=FR) t210 rfl (.inl ?w3) h3 (by simp only[JT,Vg,Vu,V0,h4,h5,Qg,Ql])
  case w3=>
   rw[<-au]
   simp only[Rw,rQ,rA,JT,Rx,H2,H3,H8,H9,O8_18,h1]
def g47_0:List Vc:=[ZA 28 2 3,ZL 29 28,ZV 30 8,ZP 31 3 29 30,ZK 32 3 31,ZV 33 1,ZV 34 2,ZO 35 (.bin false .add (.t 34) (ZC 1)),ZX 36 156 [(.t 32),(.t 33),(.t 35)],ZV 27 36,ZO 37 (.extract 0 (.t 27)),ZO 38 (.extract 1 (.t 27)),ZV 9 37,ZV 10 38]
def g47_5:List Vc:=[ZV 11 1,ZO 12 (.bin false .sub (.t 11) (ZC 1)),ZV 1 12]
def g47_6:List Vc:=[ZV 13 1,ZO 14 (.bin false .lss (.t 13) (ZC 0)),ZV 15 14,ZG 16 (.mv (.t 2)) 15 false,ZG 17 (.bin false .gtr (.t 16) (ZC 400)) 15 false,ZO 18 (.pick (.t 15) (ZB true) (.t 17))]
def bf47_0:Vn:=(ZQ g47_0
 (ZQ [ZV 39 9,ZV 1 39]
 (ZQ [ZV 40 10,ZO 41 (.un .not (.t 40))]
 (.cond (.t 41)
 (ZR [ZV 42 1,ZV 6 42,ZM 7 (ZB false)])
 .skip))))
def cf47_0:List Vc:=[ZV 20 8,ZA 21 2 3,ZL 22 21,ZN 23 22,ZO 24 (.bin false .lss (.t 20) (.t 23))]
def kf47:Vm:=⟨44,(ZQ [ZO 3 (.box true (.t 0)),ZM 6 (ZC 0),ZM 7 (ZB false)]
 (ZQ g47_5
 (.seq (ZQ g47_6
 (.cond (.t 18)
 (ZR [ZV 19 1,ZV 6 19,ZM 7 (ZB false)])
 .skip))
 (.seq (ZQ [ZM 8 (ZC 0)]
 (.block 0 (.loop (lb2 24 8 25 26 0 1 cf47_0 bf47_0))))
 (ZR [ZV 43 1,ZV 6 43,ZM 7 (ZB true)]))))),[.t 6,.t 7]⟩
theorem t156:Ry 156=some kf47:=by kernel_rfl
theorem counted47(t:Dv):∀(n:Nat) (Y:Vi) (F:Nat->Prop) (st:St) (left deep:Int) (cs:List AV),VU F st t cs->t.fz<=n ->
  R n Y 156 [.agg cs,.int .i64 left,.int .i64 deep] st=.ret (.tuple [.int .i64 (rcD t left deep).1,.bool (rcD t left deep).2]) st:=by
 induction hs:t.fz using Nat.strongRecOn generalizing t with
 | _ s ih=>
 intro n Y F st left deep cs hr hn
 cases t with
 | mk r nv ev vs nl ex l=>
 simp only[VU] at hr
 obtain⟨sv,xv,sl,xs,rfl,-,-,aD,bg⟩:=hr
 simp only[Dv.fz] at hs
 obtain⟨m,rfl⟩:∃ m,n=m+1:=⟨n - 1,by omega⟩
 have Rx:Nat.beq 0 0=true:=rfl
 have bJ:=bg.len
 have al:=aD.len st
 have e1:Vr false .lss (.int .i64 (sw left 1)) Z0=some (.bool (decide (sw left 1 < 0))):=rfl
 have e2:Vr false .gtr (.int .i64 deep) (ZI 400)=some (.bool (decide (deep > 400))):=rfl
 unfold rcD
 obtain⟨fA1,au⟩:∃ fA,fA=Vo 0 [.agg [.int .i64 r,sv,sl],.int .i64 left,.int .i64 deep] Fr.nil:=⟨_,rfl⟩
 have gA1_0:=R9 au 0
 have gA1_1:=R9 au 1
 have gA1_2:=R9 au 2
 have dA1:fA1.ds=[]:=by rw[au];rfl
 obtain⟨J2,H2,O2_3,O2_6,O2_7⟩:∃ aa,ar m Y [ZO 3 (.box true (.t 0)),ZM 6 (ZC 0),ZM 7 (ZB false)] fA1 st=.ok aa st/\aa.get 3=some (.fptr [.int .i64 r,sv,sl] 0)/\aa.get 6=some Z0/\aa.get 7=some (.bool false):=⟨_,by simp only[Rw,rQ,rA,gA1_0]<;>rfl,gn (gn gh),gn gh,gh⟩
 have W2:=ad H2 dA1
 obtain⟨J3,H3,O3_1⟩:∃ aa,ar m Y g47_5 J2 st=.ok aa st/\aa.get 1=some (.int .i64 (sw left 1)):=⟨_,by simp only[Rw,rQ,rA,(ag H2 gA1_1),g47_5,subW]<;>rfl,gh⟩
 have V3_2:=ag H3 (ag H2 gA1_2)
 have W3:=ad H3 W2
 by_cases c1:sw left 1 < 0
 ·rw[Qm c1]
  have io:=Qs c1
  obtain⟨J4,H4,O4_18⟩:∃ aa,ar m Y g47_6 J3 st=.ok aa st/\aa.get 18=some (.bool true):=⟨_,by simp only[Rw,rQ,rA,V3_2,O3_1,g47_6,e1,e2,io,Qc,Qb]<;>rfl,by simp only[Fr.get_set,rQ,↓reduceIte,amB]⟩
  have W4:=ad H4 W3
  obtain⟨J5,H5,O5_6,O5_7⟩:∃ aa,ar m Y [ZV 19 1,ZV 6 19,ZM 7 (ZB false)] J4 st=.ok aa st/\aa.get 6=some (.int .i64 (sw left 1))/\aa.get 7=some (.bool false):=⟨_,by simp only[Rw,rQ,rA,(ag H4 O3_1)]<;>rfl,gn gh,gh⟩
  have W5:=ad H5 W4
  refine Ve (mf:=kf47) (fr:=J5) t156 rfl (.inl ?q5) W5 (by simp only[kf47,Vg,Vu,V0,O5_6,O5_7,Qg,Ql])
  case q5=>
   rw[<-au]
   simp only[Rw,rQ,rA,kf47,Rx,H2,H3,H4,H5,O4_18]
 rw[Qe c1]
 have io:=Qp c1
 by_cases c2:deep > 400
 ·rw[Qm c2]
  have dJ:=Qs c2
  obtain⟨J6,H6,O6_18⟩:∃ aa,ar m Y g47_6 J3 st=.ok aa st/\aa.get 18=some (.bool true):=⟨_,by simp only[Rw,rQ,rA,V3_2,O3_1,g47_6,e1,e2,io,dJ,Qc,Qb]<;>rfl,by simp only[Fr.get_set,rQ,↓reduceIte,amB]⟩
  have W6:=ad H6 W3
  obtain⟨J7,H7,O7_6,O7_7⟩:∃ aa,ar m Y [ZV 19 1,ZV 6 19,ZM 7 (ZB false)] J6 st=.ok aa st/\aa.get 6=some (.int .i64 (sw left 1))/\aa.get 7=some (.bool false):=⟨_,by simp only[Rw,rQ,rA,(ag H6 O3_1)]<;>rfl,gn gh,gh⟩
  have W7:=ad H7 W6
  refine Ve (mf:=kf47) (fr:=J7) t156 rfl (.inl ?q7) W7 (by simp only[kf47,Vg,Vu,V0,O7_6,O7_7,Qg,Ql])
  case q7=>
   rw[<-au]
   simp only[Rw,rQ,rA,kf47,Rx,H2,H3,H6,H7,O6_18]
 rw[Qe c2]
 have dJ:=Qp c2
 obtain⟨J8,H8,O8_18⟩:∃ aa,ar m Y g47_6 J3 st=.ok aa st/\aa.get 18=some (.bool false):=⟨_,by simp only[Rw,rQ,rA,V3_2,O3_1,g47_6,e1,e2,io,dJ,Qc,Qb]<;>rfl,by simp only[Fr.get_set,rQ,↓reduceIte,amB]⟩
 obtain⟨J9,H9,O9_8⟩:∃ aa,ar m Y [ZM 8 (ZC 0)] J8 st=.ok aa st/\aa.get 8=some Z0:=⟨_,by simp only[Rw,rQ,rA]<;>rfl,gh⟩
 have V9_3:=ag H9 (ag H8 (ag H3 O2_3))
 have W9:=ad H9 (ad H8 W3)
 have hC:∀ k fr s,k<=xs.length->Kp [2,3] J9 fr->fr.get 8=some (ZI k)->(s=st/\∃ lf,fr.get 1=some (.int .i64 lf)/\Yj (l.drop k) lf deep=(Yj l (sw left 1) deep)) ->
   ∃ aa,ar m Y cf47_0 fr s=.ok aa s/\Kp [8,2,3] fr aa/\aa.get 24=some (.bool (decide (k < xs.length)))/\(s=st/\∃ lf,aa.get 1=some (.int .i64 lf)/\Yj (l.drop k) lf deep=(Yj l (sw left 1) deep)):=by
  intro k fr s hk aI g8 ⟨ax,lf,q10,hq⟩
  subst ax
  have q11:=aI.at (k:=3) (by decide) V9_3
  refine⟨?c0,?c1,?c2,?c3,rfl,lf,?c4,hq⟩
  case c1=>
   simp only[Rw,rQ,rA,cf47_0,q11,g8,RP,WB,al,lssD]
   rfl
  case c2=>repeat (first | exact Kp.refl | refine Kp.set (by decide) ?_)
  case c3=>simp only[Fr.get_set,rQ,↓reduceIte]
  case c4=>simp only[Fr.get_set,rQ,↓reduceIte,q10]
 have hB:∀ k fr s,k < xs.length->Kp [2,3] J9 fr->fr.get 8=some (ZI k)->(s=st/\∃ lf,fr.get 1=some (.int .i64 lf)/\Yj (l.drop k) lf deep=(Yj l (sw left 1) deep)) ->
   (∃ FR s',ac m Y bf47_0 none fr s=.norm FR s'/\Kp [8,2,3] fr FR/\(s'=st/\∃ lf,FR.get 1=some (.int .i64 lf)/\Yj (l.drop (k+1)) lf deep=(Yj l (sw left 1) deep))) ∨
   (∃ FR s',ac m Y bf47_0 none fr s=.ret FR s'/\(s'=st/\FR.ds=[]/\FR.get 6=some (.int .i64 (Yj l (sw left 1) deep).1)/\FR.get 7=some (.bool (Yj l (sw left 1) deep).2))):=by
  intro k fr s hk aI g8 ⟨ax,lf,q10,hq⟩
  subst ax
  obtain⟨t,ht,bH⟩:=WR (l:=l) (k:=k) (by omega)
  obtain⟨x,hx,bZ⟩:=bg.at ht
  obtain⟨p,ia,ld⟩:=aD.at hx
  have ld:=ld s (Vs.refl _ _)
  have bv:=Dv.fzL_mem (Qr ht)
  have ay:((gT m).cg Y).fn 156 [.agg x,.int .i64 lf,.int .i64 (aw deep 1)] s=.ret (.tuple [.int .i64 (rcD t lf (aw deep 1)).1,.bool (rcD t lf (aw deep 1)).2]) s:=ih t.fz (by omega) t rfl m Y F s lf (aw deep 1) x bZ (by omega)
  have q12:=aI.at (k:=2) (by decide) (ag H9 (ag H8 V3_2))
  have q11:=aI.at (k:=3) (by decide) V9_3
  rw[bH,rcDL_cons] at hq
  generalize (rcD t lf (aw deep 1)).1=L2 at *
  generalize (rcD t lf (aw deep 1)).2=ok at *
  obtain⟨J13,H13,K13,O13_9,O13_10⟩:∃ aa,ar m Y g47_0 fr s=.ok aa s/\Kp [8,2,3] fr aa/\aa.get 9=some (.int .i64 L2)/\aa.get 10=some (.bool ok):=⟨_,by simp only[Rw,rQ,rA,q10,q12,q11,g8,g47_0,RP,WB,ia,ld,addW,ay,ex20,ex21]<;>rfl,Kp.refl.s.s.s.s.s.s.s.s.s.s.s.s.s.s,gn gh,gh⟩
  obtain⟨J14,H14,K14,O14_1⟩:∃ aa,ar m Y [ZV 39 9,ZV 1 39] J13 s=.ok aa s/\Kp [8,2,3,10] J13 aa/\aa.get 1=some (.int .i64 L2):=⟨_,by simp only[Rw,rQ,rA,O13_9]<;>rfl,Kp.refl.s.s,gh⟩
  have V14_10:=K14.g 10 O13_10
  obtain⟨J15,H15,K15,O15_41⟩:∃ aa,ar m Y [ZV 40 10,ZO 41 (.un .not (.t 40))] J14 s=.ok aa s/\Kp [8,2,3,1] J14 aa/\aa.get 41=some (.bool (!ok)):=⟨_,by simp only[Rw,rQ,rA,V14_10,unN,Qc,Qb]<;>rfl,Kp.refl.s.s,gh⟩
  have V15_1:=K15.g 1 O14_1
  cases ok with
  | true=>
   rw[Qm rfl] at hq
   refine .inl ⟨J15,s,?q15,(((K13.sub (by decide)).trans (K14.sub (by decide))).trans (K15.sub (by decide))),rfl,L2,V15_1,hq⟩
   case q15=>simp only[Rw,rQ,rA,bf47_0,H13,H14,H15,O15_41,Qc]
  | false=>
   obtain⟨J16,H16,O16_6,O16_7⟩:∃ aa,ar m Y [ZV 42 1,ZV 6 42,ZM 7 (ZB false)] J15 s=.ok aa s/\aa.get 6=some (.int .i64 L2)/\aa.get 7=some (.bool false):=⟨_,by simp only[Rw,rQ,rA,V15_1]<;>rfl,gn gh,gh⟩
   rw[Qe (by decide)] at hq
   refine .inr ⟨J16,s,?q16,rfl,(ad H16 (K15.1.trans (K14.1.trans (K13.1.trans (aI.1.trans W9))))),?y26,?z26⟩
   case q16=>simp only[Rw,rQ,rA,bf47_0,H13,H14,H15,H16,O15_41,Qb]
   case y26=>rw[<-hq];exact O16_6
   case z26=>rw[<-hq];exact O16_7
 rcases U4 (Γ:=(gT m)) (Y:=Y) (m:=m) (N:=xs.length) (c:=24) (i:=8) (j1:=25) (j2:=26) (b:=0) (b1:=1) (ro:=none) (C:=cf47_0) (B:=bf47_0) (L:=[2,3]) (av:=J9) (by decide) (by decide) (by decide) aD.2.1
  (Q:=fun k fr s=>s=st/\∃ lf,fr.get 1=some (.int .i64 lf)/\Yj (l.drop k) lf deep=(Yj l (sw left 1) deep)) (fun k fr s x v hx ⟨h1,lf,h2,h3⟩=>⟨h1,lf,by rw[Fr.get_set,Qe (by omega)];exact h2,h3⟩) hC hB xs.length 0 J9 st m (by omega) (by omega) Kp.refl O9_8 ⟨rfl,_,(ag H9 (ag H8 O3_1)),rfl⟩
  with⟨FR,s',h1,h2,h3,lf,h4,h5⟩|⟨FR,s',h1,h2,h3,h4,h5⟩
 ·subst h3
  rw[bJ,Xr,rcDL_nil] at h5
  rw[<-h5]
  refine Ve (mf:=kf47) (fr:=((FR.set 43 (some (.int .i64 lf))).set 6 (some (.int .i64 lf))).set 7 (some (.bool true))) t156 rfl (.inl ?w1) (h2.1.trans W9) ?w2
  case w1=>
   rw[<-au]
   simp only[Rw,rQ,rA,kf47,Rx,H2,H3,H8,H9,O8_18,h1,h4]
  case w2=>simp only[kf47,Vg,Vu,V0,Fr.get_set,rQ,↓reduceIte,Qg,Ql]
 ·subst h2
  refine Ve (mf:=kf47) (fr:=FR) t156 rfl (.inl ?w3) h3 (by simp only[kf47,Vg,Vu,V0,h4,h5,Qg,Ql])
  case w3=>
   rw[<-au]
   simp only[Rw,rQ,rA,kf47,Rx,H2,H3,H8,H9,O8_18,h1]
def g166_0:List Vc:=[ZA 41 2 1,ZL 42 41,ZV 43 3,ZP 44 3 42 43,ZK 45 3 44,ZX 46 211 [(.t 45)],ZO 47 (.un .not (.t 46))]
def g166_3:List Vc:=[ZA 4 1 1,ZL 5 4,ZO 6 (.bin false .lss (.t 5) (ZC 0)),ZV 7 6,ZG 8 (.faddr 0 (.t 1)) 7 false,ZG 9 (.load false 1 (.t 8)) 7 false,ZG 10 (.bin false .neq (.t 9) (ZC 1)) 7 false,ZG 11 (.mv (.t 10)) 7 false,ZG 12 (.faddr 0 (.t 1)) 11 true,ZG 13 (.load false 1 (.t 12)) 11 true,ZG 14 (.bin false .neq (.t 13) (ZC 2)) 11 true,ZG 15 (.pick (.t 11) (.t 14) (ZB false)) 7 false,ZO 16 (.pick (.t 7) (ZB true) (.t 15)),ZV 17 16,ZG 18 (.faddr 0 (.t 1)) 17 false,ZG 19 (.load false 1 (.t 18)) 17 false,ZG 20 (.bin false .eql (.t 19) (ZC 1)) 17 false,ZG 21 (.mv (.t 20)) 17 false,ZG 22 (.faddr 2 (.t 1)) 21 true,ZG 23 (.load false 1 (.t 22)) 21 true,ZG 24 (.len 0 (.t 23)) 21 true,ZG 25 (.bin false .gtr (.t 24) (ZC 0)) 21 true,ZG 26 (.pick (.t 21) (.t 25) (ZB false)) 17 false,ZO 27 (.pick (.t 17) (ZB true) (.t 26)),ZV 28 27,ZG 29 (.faddr 2 (.t 1)) 28 false,ZG 30 (.load false 1 (.t 29)) 28 false,ZG 31 (.len 0 (.t 30)) 28 false,ZG 32 (.bin false .gtr (.t 31) (ZC 8)) 28 false,ZO 33 (.pick (.t 28) (ZB true) (.t 32))]
def UW:Vn:=(ZQ g166_0
 (.cond (.t 47)
 (ZR [ZM 2 (ZB false)])
 .skip))
def cf166_0:List Vc:=[ZV 34 3,ZA 35 2 1,ZL 36 35,ZN 37 36,ZO 38 (.bin false .lss (.t 34) (.t 37))]
def Up:Vm:=⟨48,(ZQ [ZO 1 (.box true (.t 0)),ZM 2 (ZB false)]
 (.seq (ZQ g166_3
 (.cond (.t 33)
 (ZR [ZM 2 (ZB false)])
 .skip))
 (.seq (ZQ [ZM 3 (ZC 0)]
 (.block 0 (.loop (lb2 38 3 39 40 0 1 cf166_0 UW))))
 (ZR [ZM 2 (ZB true)])))),[.t 2]⟩
theorem t211:Ry 211=some Up:=by kernel_rfl
set_option maxHeartbeats 4000000 in
theorem nodes_run(t:Tm):∀(n:Nat) (Y:Vi) (F:Nat->Prop) (st:St) (cs:List AV),We F st t cs->t.fz<=n->R n Y 211 [.agg cs] st=.ret (.bool (shT t)) st:=by
 induction hs:t.fz using Nat.strongRecOn generalizing t with
 | _ s ih=>
 intro n Y F st cs hr hn
 cases t with
 | mk k0 n0 nl ex l=>
 simp only[We] at hr
 obtain⟨sl,xs,rfl,aD,bg⟩:=hr
 simp only[Tm.fz] at hs
 obtain⟨m,rfl⟩:∃ m,n=m+1:=⟨n - 1,by omega⟩
 have Rx:Nat.beq 0 0=true:=rfl
 have bJ:=bg.len
 have al:=aD.len st
 have lt:Vr false .lss (.int .i64 n0) Z0=some (.bool (decide (n0 < 0))):=rfl
 have e1:Vr false .eql (.int .i64 k0) (ZI 1)=some (.bool (k0==1)):=rfl
 have g0:Vr false .gtr (ZI xs.length) Z0=some (.bool (decide (Int.ofNat l.length > 0))):=by rw[bJ];rfl
 have oK:Vr false .neq (.int .i64 k0) (ZI 1)=some (.bool (k0 != 1)):=rfl
 have oM:Vr false .neq (.int .i64 k0) (ZI 2)=some (.bool (k0 != 2)):=rfl
 have yX:Vr false .gtr (ZI xs.length) (ZI 8)=some (.bool (decide (Int.ofNat l.length > 8))):=by rw[bJ];rfl
 have cH:shT (.mk k0 n0 nl ex l)=if badT k0 n0 l.length=true then false else RV l:=by conv=>lhs;unfold shT
 have jn:badT k0 n0 l.length=(decide (n0 < 0)||((k0==1)&&decide (Int.ofNat l.length > 0))||((k0 != 1)&&(k0 != 2))||decide (Int.ofNat l.length > 8)):=rfl
 rw[cH,jn]
 generalize decide (n0 < 0)=B1 at *
 generalize (k0==1)=B2 at *
 generalize decide (Int.ofNat l.length > 0)=B3 at *
 generalize (k0 != 1)=B4 at *
 generalize (k0 != 2)=B5 at *
 generalize decide (Int.ofNat l.length > 8)=B6 at *
 obtain⟨fA1,au⟩:∃ fA,fA=Vo 0 [.agg [.int .i64 k0,.int .i64 n0,sl]] Fr.nil:=⟨_,rfl⟩
 have gA1_0:=R9 au 0
 have dA1:fA1.ds=[]:=by rw[au];rfl
 obtain⟨J2,H2,O2_1,O2_2⟩:∃ aa,ar m Y [ZO 1 (.box true (.t 0)),ZM 2 (ZB false)] fA1 st=.ok aa st/\aa.get 1=some (.fptr [.int .i64 k0,.int .i64 n0,sl] 0)/\aa.get 2=some (.bool false):=⟨_,by simp only[Rw,rQ,rA,gA1_0]<;>rfl,gn gh,gh⟩
 obtain⟨J3,H3,O3_33⟩:∃ aa,ar m Y g166_3 J2 st=.ok aa st/\aa.get 33=some (.bool (((B1||(B4&&B5))||(B2&&B3))||B6)):=by cases B1<;>cases B4<;>cases B5<;>cases B2<;>cases B3<;>cases B6<;>exact⟨_,by simp only[Rw,rQ,rA,O2_1,g166_3,RP,Y7,Yg,WB,al,lt,e1,g0,oK,oM,yX,Qc,Qb]<;>rfl,by simp only[Fr.get_set,rQ,↓reduceIte,amB]⟩
 have W3:=ad H3 (ad H2 dA1)
 have er:(B1||(B2&&B3)||(B4&&B5)||B6)=(((B1||(B4&&B5))||(B2&&B3))||B6):=by cases B1<;>cases B2<;>cases B3<;>cases B4<;>cases B5<;>cases B6<;>rfl
 rw[er]
 generalize (((B1||(B4&&B5))||(B2&&B3))||B6)=BB at *
 cases BB with
 | true=>
  obtain⟨J4,H4,O4_2⟩:∃ aa,ar m Y [ZM 2 (ZB false)] J3 st=.ok aa st/\aa.get 2=some (.bool false):=⟨_,by simp only[Rw,rQ,rA]<;>rfl,gh⟩
  rw[Qm rfl]
  refine Ve (mf:=Up) (fr:=J4) t211 rfl (.inl ?q4) (ad H4 W3) (by simp only[Up,Vg,Vu,V0,O4_2,Qg,Ql])
  case q4=>
   rw[<-au]
   simp only[Rw,rQ,rA,Up,Rx,H2,H3,H4,O3_33]
 | false=>
  rw[Qe (by decide)]
  obtain⟨J5,H5,O5_3⟩:∃ aa,ar m Y [ZM 3 (ZC 0)] J3 st=.ok aa st/\aa.get 3=some Z0:=⟨_,by simp only[Rw,rQ,rA]<;>rfl,gh⟩
  have V5_1:=ag H5 (ag H3 O2_1)
  have W5:=ad H5 W3
  have tT:∀ k fr s,k<=xs.length->Kp [1] J5 fr->fr.get 3=some (ZI k)->(s=st/\RV (l.drop k)=RV l) ->
    ∃ aa,ar m Y cf166_0 fr s=.ok aa s/\Kp [3,1] fr aa/\aa.get 38=some (.bool (decide (k < xs.length)))/\(s=st/\RV (l.drop k)=RV l):=by
   intro k fr s hk aI gi ⟨ax,hq⟩
   subst ax
   have q7:=aI.at (k:=1) (by decide) V5_1
   refine⟨?c00,?c01,?c02,?c03,rfl,hq⟩
   case c01=>
    simp only[Rw,rQ,rA,cf166_0,q7,gi,RP,WB,al,lssD]
    rfl
   case c02=>repeat (first | exact Kp.refl | refine Kp.set (by decide) ?_)
   case c03=>simp only[Fr.get_set,rQ,↓reduceIte]
  have gw:∀ k fr s,k < xs.length->Kp [1] J5 fr->fr.get 3=some (ZI k)->(s=st/\RV (l.drop k)=RV l) ->
    (∃ FR s',ac m Y UW none fr s=.norm FR s'/\Kp [3,1] fr FR/\(s'=st/\RV (l.drop (k+1))=RV l)) ∨
    (∃ FR s',ac m Y UW none fr s=.ret FR s'/\(s'=st/\FR.ds=[]/\FR.get 2=some (.bool false)/\RV l=false)):=by
   intro k fr s hk aI gi ⟨ax,hq⟩
   subst ax
   obtain⟨t,ht,bH⟩:=WR (l:=l) (k:=k) (by omega)
   obtain⟨x,hx,bZ⟩:=bg.at ht
   obtain⟨p,ia,ld⟩:=aD.at hx
   have ld:=ld s (Vs.refl _ _)
   have bv:=Tm.fzL_mem (Qr ht)
   have ay:((gT m).cg Y).fn 211 [.agg x] s=.ret (.bool (shT t)) s:=ih t.fz (by omega) t rfl m Y F s x bZ (by omega)
   have q7:=aI.at (k:=1) (by decide) V5_1
   rw[bH,Ul] at hq
   generalize shT t=ok at *
   obtain⟨J8,H8,K8_,O8_47⟩:∃ aa,ar m Y g166_0 fr s=.ok aa s/\Kp [1,3] fr aa/\aa.get 47=some (.bool (!ok)):=⟨_,by simp only[Rw,rQ,rA,q7,gi,g166_0,RP,WB,ia,ld,ay,unN,Qc,Qb]<;>rfl,Kp.refl.s.s.s.s.s.s.s,gh⟩
   cases ok with
   | true=>
    rw[Qm rfl] at hq
    refine .inl ⟨J8,s,?q8,K8_.sub (by decide),rfl,hq⟩
    case q8=>simp only[Rw,rQ,rA,UW,H8,O8_47,Qc]
   | false=>
    obtain⟨J9,H9,O9_2⟩:∃ aa,ar m Y [ZM 2 (ZB false)] J8 s=.ok aa s/\aa.get 2=some (.bool false):=⟨_,by simp only[Rw,rQ,rA]<;>rfl,gh⟩
    rw[Qe (by decide)] at hq
    refine .inr ⟨J9,s,?q9,rfl,ad H9 (K8_.1.trans (aI.1.trans W5)),O9_2,hq.symm⟩
    case q9=>simp only[Rw,rQ,rA,UW,H8,H9,O8_47,Qb]
  rcases U4 (Γ:=(gT m)) (Y:=Y) (m:=m) (N:=xs.length) (c:=38) (i:=3) (j1:=39) (j2:=40) (b:=0) (b1:=1) (ro:=none) (C:=cf166_0) (B:=UW) (L:=[1]) (av:=J5) (by decide) (by decide) (by decide) aD.2.1
   (Q:=fun k fr s=>s=st/\RV (l.drop k)=RV l) (fun _ _ _ _ _ _ h=>h) tT gw xs.length 0 J5 st m (by omega) (by omega) Kp.refl O5_3 ⟨rfl,rfl⟩
   with⟨FR,s',h1,h2,h3,h4⟩|⟨FR,s',h1,h2,h3,h4,h5⟩
  ·subst h3
   rw[bJ,Xr,shL_nil] at h4
   rw[<-h4]
   refine Ve (mf:=Up) (fr:=FR.set 2 (some (.bool true))) t211 rfl (.inl ?w1) (h2.1.trans W5) ?w2
   case w1=>
    rw[<-au]
    simp only[Rw,rQ,rA,Up,Rx,H2,H3,H5,O3_33,h1]
   case w2=>simp only[Up,Vg,Vu,V0,Fr.get_set,↓reduceIte,Qg,Ql]
  ·subst h2
   rw[h5]
   refine Ve (mf:=Up) (fr:=FR) t211 rfl (.inl ?w3) h3 (by simp only[Up,Vg,Vu,V0,h4,Qg,Ql])
   case w3=>
    rw[<-au]
    simp only[Rw,rQ,rA,Up,Rx,H2,H3,H5,O3_33,h1]
def g140_1:List Vc:=[ZK 6 3 1,ZX 7 210 [(.t 6),(ZC 2000),(ZC 1)],ZV 5 7,ZO 8 (.extract 0 (.t 5)),ZO 9 (.extract 1 (.t 5)),ZV 3 8,ZV 4 9]
def g140_2:List Vc:=[ZV 10 4,ZV 11 10,ZG 12 (.load true 3 (.t 1)) 11 true,ZG 13 (.call (.c (.func (.func 211) [] [])) [(.t 12)]) 11 true,ZO 14 (.pick (.t 11) (.t 13) (ZB false)),ZV 2 14]
def kf140:Vm:=⟨15,(ZQ [ZO 1 (.box true (.t 0)),ZM 2 (ZB false)]
 (ZQ g140_1
 (ZR g140_2))),[.t 2]⟩
theorem t154:Ry 154=some kf140:=by kernel_rfl
theorem is_run(t:Tm)(n:Nat)(Y:Vi)(F:Nat->Prop)(st:St)(cs:List AV)(hr:We F st t cs)(hn:t.fz < n):R n Y 154 [.agg cs] st=.ret (.bool (rIs t)) st:=by
 obtain⟨m,rfl⟩:∃ m,n=m+1:=⟨n - 1,by omega⟩
 have Rx:Nat.beq 0 0=true:=rfl
 have c1:((gT m).cg Y).fn 210 [.agg cs,ZI 2000,ZI 1] st=.ret (.tuple [.int .i64 (rcT t 2000 1).1,.bool (rcT t 2000 1).2]) st:=counted165 t m Y F st (.ofNat 2000) (.ofNat 1) cs hr (by omega)
 have c2:((gT m).cg Y).fn 211 [.agg cs] st=.ret (.bool (shT t)) st:=nodes_run t m Y F st cs hr (by omega)
 obtain⟨a,b,c,rfl⟩:∃ a b c,cs=[a,b,c]:=by
  match cs,hr.cells3.1 with
  | [a,b,c],_=>exact⟨a,b,c,rfl⟩
 have eH:rIs t=((rcT t 2000 1).2&&shT t):=rfl
 rw[eH]
 generalize (rcT t 2000 1).1=L1 at *
 generalize (rcT t 2000 1).2=B at *
 obtain⟨fA1,au⟩:∃ fA,fA=Vo 0 [.agg [a,b,c]] Fr.nil:=⟨_,rfl⟩
 have gA1_0:=R9 au 0
 have dA1:fA1.ds=[]:=by rw[au];rfl
 obtain⟨J2,H2,O2_1⟩:∃ aa,ar m Y [ZO 1 (.box true (.t 0)),ZM 2 (ZB false)] fA1 st=.ok aa st/\aa.get 1=some (.fptr [a,b,c] 0):=⟨_,by simp only[Rw,rQ,rA,gA1_0]<;>rfl,gn gh⟩
 obtain⟨J3,H3,O3_4⟩:∃ aa,ar m Y g140_1 J2 st=.ok aa st/\aa.get 4=some (.bool B):=⟨_,by simp only[Rw,rQ,rA,O2_1,g140_1,JZ,c1,ex20,ex21]<;>rfl,gh⟩
 obtain⟨J4,H4,O4_2⟩:∃ aa,ar m Y g140_2 J3 st=.ok aa st/\aa.get 2=some (.bool (B&&shT t)):=by cases B<;>exact⟨_,by simp only[Rw,rQ,rA,(ag H3 O2_1),O3_4,g140_2,JZ,c2,Qc,Qb]<;>rfl,by simp only[Fr.get_set,rQ,↓reduceIte,amB]⟩
 refine Ve (mf:=kf140) (fr:=J4) t154 rfl (.inl ?q4) (ad H4 (ad H3 (ad H2 dA1))) (by simp only[kf140,Vg,Vu,V0,O4_2,Qg,Ql])
 case q4=>
  rw[<-au]
  simp only[Rw,rQ,rA,kf140,H2,H3,H4]
end
noncomputable section
open Nat renaming reduceEqDiff -> rQ, reduceAdd -> rA
def YU:Vm:=⟨12,(ZQ [ZM 2 (ZC 0),ZM 3 (ZC 0)]
 (.seq (ZQ [ZV 4 0]
 (.block 0 (.seq (ZQ [ZO 6 (.bin false .eql (.t 4) (ZC 1)),ZV 5 6]
 (.cond (.t 5)
 .skip
 (.region [ZO 7 (.bin false .eql (.t 4) (ZC 2)),ZV 5 7])))
 (.cond (.t 5)
 (ZR [ZM 2 (ZC 0),ZM 3 (ZC 8)])
 (ZQ [ZO 9 (.bin false .eql (.t 4) (ZC 7)),ZV 8 9]
 (.cond (.t 8)
 (ZR [ZM 2 (ZC 2),ZM 3 (ZC 0)])
 (ZQ [ZO 11 (.bin false .eql (.t 4) (ZC 16)),ZV 10 11]
 (.cond (.t 10)
 (ZR [ZM 2 (ZC 1),ZM 3 (ZC 64)])
 .skip))))))))
 (ZR [ZM 2 (ZC 1),ZM 3 (ZC 0)]))),[.t 2,.t 3]⟩
theorem t219:Ry 219=some YU:=by kernel_rfl
def kf109:Vm:=⟨6,(ZQ [ZO 1 (.box true (.t 0)),ZM 2 (ZB false)]
 (ZR [ZK 3 3 1,ZX 4 111 [(.t 3)],ZO 5 (.un .not (.t 4)),ZV 2 5])),[.t 2]⟩
theorem t220:Ry 220=some kf109:=by kernel_rfl
def kf112:Vm:=⟨11,(ZQ [ZO 3 (.box true (.t 0)),ZM 4 (ZB false)]
 (ZR [ZK 5 3 3,ZL 6 1,ZL 7 2,ZO 8 (.bin false .add (.t 7) (ZC 1)),ZX 9 161 [(.t 5),(.t 6),(.t 8)],ZO 10 (.un .not (.t 9)),ZV 4 10])),[.t 4]⟩
theorem t222:Ry 222=some kf112:=by kernel_rfl
def g70_0:List Vc:=[ZO 3 (.box true (.t 0)),ZO 4 (.box false (.t 1)),ZO 5 (.box false (.t 2)),ZM 6 (ZB false)]
def g70_1:List Vc:=[ZL 9 4,ZO 10 (.nilchk (.t 9)),ZL 11 10,ZO 12 (.bin false .sub (.t 11) (ZC 1)),ZO 13 (.nilchk (.t 9)),ZS 1 13 12]
def g70_2:List Vc:=[ZA 15 0 3,ZL 16 15,ZX 17 219 [(.t 16)],ZV 14 17,ZO 18 (.extract 0 (.t 14)),ZO 19 (.extract 1 (.t 14)),ZV 7 18,ZV 8 19]
def YM:List Vc:=[ZL 20 4,ZO 21 (.nilchk (.t 20)),ZL 22 21,ZO 23 (.bin false .lss (.t 22) (ZC 0)),ZV 24 23,ZG 25 (.load false 1 (.t 5)) 24 false,ZG 26 (.bin false .gtr (.t 25) (ZC 400)) 24 false,ZO 27 (.pick (.t 24) (ZB true) (.t 26)),ZV 28 27,ZG 29 (.faddr 0 (.t 3)) 28 false,ZG 30 (.load false 1 (.t 29)) 28 false,ZG 31 (.bin false .lss (.t 30) (ZC 1)) 28 false,ZO 32 (.pick (.t 28) (ZB true) (.t 31)),ZV 33 32,ZG 34 (.faddr 0 (.t 3)) 33 false,ZG 35 (.load false 1 (.t 34)) 33 false,ZG 36 (.bin false .gtr (.t 35) (ZC 19)) 33 false,ZO 37 (.pick (.t 33) (ZB true) (.t 36)),ZV 38 37,ZG 39 (.faddr 2 (.t 3)) 38 false,ZG 40 (.load false 1 (.t 39)) 38 false,ZG 41 (.len 0 (.t 40)) 38 false,ZG 42 (.mv (.t 7)) 38 false,ZG 43 (.bin false .neq (.t 41) (.t 42)) 38 false,ZO 44 (.pick (.t 38) (ZB true) (.t 43)),ZV 45 44,ZG 46 (.faddr 1 (.t 3)) 45 false,ZG 47 (.load false 1 (.t 46)) 45 false,ZG 48 (.len 0 (.t 47)) 45 false,ZG 49 (.mv (.t 8)) 45 false,ZG 50 (.bin false .gtr (.t 48) (.t 49)) 45 false,ZO 51 (.pick (.t 45) (ZB true) (.t 50)),ZV 52 51,ZG 53 (.faddr 1 (.t 3)) 52 false,ZG 54 (.load false 1 (.t 53)) 52 false,ZG 55 (.call (.c (.func (.func 109) [] [])) [(.t 54),(.c (.func (.func 220) [] []))]) 52 false,ZO 56 (.pick (.t 52) (ZB true) (.t 55))]
def Jm:List Vc:=[ZM 6 (ZB false)]
def g70_5:List Vc:=[ZA 57 2 3,ZL 58 57,ZO 59 (.mkfn 222 [] [(.t 4),(.t 5)]),ZX 60 221 [(.t 58),(.t 59)],ZO 61 (.un .not (.t 60)),ZV 6 61]
def Ye:Vm:=⟨62,(ZQ g70_0
 (ZQ g70_1
 (ZQ g70_2
 (.seq (ZQ YM
 (.cond (.t 56)
 (ZR Jm)
 .skip))
 (ZR g70_5))))),[.t 6]⟩
theorem t161:Ry 161=some Ye:=by kernel_rfl
def g41_2:List Vc:=[ZK 4 3 1,ZX 5 161 [(.t 4),(.t 3),(ZC 1)],ZV 2 5]
def kf41:Vm:=⟨6,(ZQ [ZO 1 (.box true (.t 0)),ZM 2 (ZB false)]
 (ZQ [ZO 3 (.alloc [Z0]),⟨none,.store 1 (.t 3) (ZC 4000),none⟩]
 (ZR g41_2))),[.t 2]⟩
theorem t112:Ry 112=some kf41:=by kernel_rfl
theorem arity_run(n:Nat)(Y:Vi)(r:Int)(st:St):R (n+1) Y 219 [.int .i64 r] st=.ret (.tuple [ZI ((RZ r)),ZI ((RY r))]) st:=by
 have Rx:Nat.beq 0 0=true:=rfl
 have eq:∀ c:Nat,Vr false .eql (.int .i64 r) (ZI c)=some (.bool (r==.ofNat c)):=fun _=>rfl
 cases h1:(r==Int.ofNat 1) with
 | true=>
  refine Ve (mf:=YU) (fr:=?x1a) t219 rfl (.inl ?x1b) ?x1c ?x1d
  case x1b=>
   simp only[Rw,rQ,rA,YU,Rx,eq,h1]
   rfl
  case x1c=>rfl
  case x1d=>
   simp only[YU,Vg,Vu,V0,Fr.get_set,rQ,↓reduceIte,Qg,Ql]
   try (have x:r=1:=by simpa using h1)
   try subst x
   try rfl
 | false=>
  cases h2:(r==Int.ofNat 2) with
  | true=>
   refine Ve (mf:=YU) (fr:=?x2a) t219 rfl (.inl ?x2b) ?x2c ?x2d
   case x2b=>
    simp only[Rw,rQ,rA,YU,Rx,eq,h1,h2]
    rfl
   case x2c=>rfl
   case x2d=>
    simp only[YU,Vg,Vu,V0,Fr.get_set,rQ,↓reduceIte,Qg,Ql]
    try (have x:r=2:=by simpa using h2)
    try subst x
    try rfl
  | false=>
   cases h7:(r==Int.ofNat 7) with
   | true=>
    refine Ve (mf:=YU) (fr:=?x7a) t219 rfl (.inl ?x7b) ?x7c ?x7d
    case x7b=>
     simp only[Rw,rQ,rA,YU,Rx,eq,h1,h2,h7]
     rfl
    case x7c=>rfl
    case x7d=>
     simp only[YU,Vg,Vu,V0,Fr.get_set,rQ,↓reduceIte,Qg,Ql]
     try (have x:r=7:=by simpa using h7)
     try subst x
     try rfl
   | false=>
    cases kT:(r==Int.ofNat 16) with
    | true=>
     refine Ve (mf:=YU) (fr:=?x16a) t219 rfl (.inl ?x16b) ?x16c ?x16d
     case x16b=>
      simp only[Rw,rQ,rA,YU,Rx,eq,h1,h2,h7,kT]
      rfl
     case x16c=>rfl
     case x16d=>
      simp only[YU,Vg,Vu,V0,Fr.get_set,rQ,↓reduceIte,Qg,Ql]
      try (have x:r=16:=by simpa using kT)
      try subst x
      try rfl
    | false=>
     refine Ve (mf:=YU) (fr:=?x0a) t219 rfl (.inl ?x0b) ?x0c ?x0d
     case x0b=>
      simp only[Rw,rQ,rA,YU,Rx,eq,h1,h2,h7,kT]
      rfl
     case x0c=>rfl
     case x0d=>
      simp only[YU,Vg,Vu,V0,Fr.get_set,rQ,↓reduceIte,Qg,Ql]
      try ((have x1:r≠1:=by simpa using h1);(have x2:r≠2:=by simpa using h2);(have x7:r≠7:=by simpa using h7);(have tU:r≠16:=by simpa using kT);simp only[RZ,RY,x1,x2,x7,tU,or_self,↓reduceIte];done)
theorem stb1{st:St}{id:Nat}{x:AV}{k:IntKind}{v:Int}(h:st.get id=some (.row [x])):Vt 1 st (.ptr id 0) (.int k v)=some (st.put id (.row [.int k v])):=by
 simp only[Vt,h];rfl
theorem shaped_run(d:Dv):∀(n:Nat) (Y:Vi) (F:Nat->Prop) (st:St) (id:Nat) (left deep:Int) (cs:List AV),VU F st d cs->(∀ i,F i->i < st.next)->¬ F id->id < st.next ->
  st.get id=some (.row [.int .i64 left])->d.fz<=n ->
  ∃ af,R n Y 161 [.agg cs,.ptr id 0,.int .i64 deep] st=.ret (.bool (shD d left deep).1) af/\VZ id st af/\af.get id=some (.row [.int .i64 (shD d left deep).2]):=by
 induction hs:d.fz using Nat.strongRecOn generalizing d with
 | _ s ih=>
 intro n Y F st id left deep cs hr hF aZ am hg hn
 cases d with
 | mk r nv ev vs nl ex l=>
 simp only[VU] at hr
 obtain⟨sv,xv,sl,xs,rfl,lZ,iF,aD,fy⟩:=hr
 simp only[Dv.fz] at hs
 obtain⟨m,rfl⟩:∃ m,n=m+6:=⟨n - 6,by omega⟩
 have qe:=iF.len
 have bJ:=fy.len
 have Rx:Nat.beq 0 0=true:=rfl
 -- the variables
 obtain⟨ai,bU⟩:∃ ai,ai=(st.new (.row [.ptr id 0])).new (.row [.int .i64 deep]):=⟨_,rfl⟩
 have rD:((st.new (.row (AV.ptr id 0).cells)).new (.row (AV.int .i64 deep).cells))=ai:=bU.symm
 have k1:Vd st ai:=by rw[bU];exact(Vd.new _ _).trans (Vd.new _ _)
 have n1:ai.next=st.next+1+1:=by rw[bU];rfl
 have gp:ai.get st.next=some (.row [.ptr id 0]):=by rw[bU,St.get_new,Qe (by simp),St.get_new,Qm rfl]
 have gd:ai.get (st.next+1)=some (.row [.int .i64 deep]):=by rw[bU,St.get_new,Qm (by simp)]
 have g1:=k1.get am hg
 have l1:Vf false 1 ai (.ptr id 0)=some (.int .i64 left):=ld0 g1
 have s1:=stb1 (k:=.i64) (v:=sw left 1) g1
 obtain⟨st2,kU⟩:∃ st2,st2=ai.put id (.row [.int .i64 (sw left 1)]):=⟨_,rfl⟩
 rw[<-kU] at s1
 have iG:VZ id ai st2:=by rw[kU];exact VZ.put _ _ _
 have n2:st2.next=st.next+1+1:=by rw[kU];exact n1
 have g2:st2.get id=some (.row [.int .i64 (sw left 1)]):=by rw[kU,St.get_put,Qm rfl]
 have wN:st2.get st.next=some (.row [.ptr id 0]):=(iG.2 _ (by omega) (by omega)).trans gp
 have wO:st2.get (st.next+1)=some (.row [.int .i64 deep]):=(iG.2 _ (by omega) (by omega)).trans gd
 have ez:VZ id st st2:=(VZ.of k1).trans iG
 have wP:Vs F st st2:=Vs.of1 ez hF aZ
 have nt:∀ i,F i->i < st2.next:=fun i hi=>Qz (hF i hi) ez.1
 -- the values
 obtain⟨b,RM,cv,hb⟩:=T0 (n:=m+3) (Y:=Y) (q:=220) (caps:=[]) (R3:=fun k s=>Vd st2 s/\(vs.drop k).all gr=vs.all gr) (Fin:=fun s=>Vd st2 s/\vs.all gr=false) (.inl ⟨rfl,rfl⟩) lZ
  (fun k s h=>wP.trans (Vs.of h.1 nt)) (fun k x s hx ⟨hk,hq⟩=>by
   have ce:k < vs.length:=by have:=(Qt.1 hx).1;omega
   obtain⟨t,ht,bH⟩:=WR ce
   obtain⟨x',aK,bZ⟩:=iF.at ht
   rw[hx] at aK;injection aK with aK;subst aK
   have bv:=Tm.fzL_mem (Qr ht)
   have tV:∀ i,F i->i < s.next:=fun i hi=>Qz (nt i hi) hk.1
   obtain⟨s',ay,cf⟩:=ground_run t (m+2) Y F s x (bZ.mono (wP.trans (Vs.of hk nt)) fun _ h=>h) tV (by omega)
   have aC:((gT (m+2)).cg Y).fn 111 [.agg x] s=.ret (.bool (gr t)) s':=ay
   refine⟨!gr t,s',?_,fun h=>⟨hk.trans cf,?_⟩,fun h=>⟨hk.trans cf,?_⟩⟩
   ·obtain⟨a,b,c,rfl⟩:∃ a b c,x=[a,b,c]:=by
     match x,bZ.cells3.1 with
     | [a,b,c],_=>exact⟨a,b,c,rfl⟩
    refine Ve (mf:=kf109) (fr:=?c0) t220 rfl (.inl ?c1) ?c2 ?c3
    case c1=>
     simp only[Rw,rQ,rA,kf109,JZ,aC,unN]
     rfl
    case c2=>rfl
    case c3=>simp only[kf109,Vg,Vu,V0,Fr.get_set,↓reduceIte,Qg,Ql]
   ·have h':gr t=false:=by simpa using h
    rw[<-hq,bH,QN,h',Q8]
   ·have h':gr t=true:=by simpa using h
    rw[<-hq,bH,QN,h',Q3]) st2 ⟨Vd.refl st2,rfl⟩ (by omega)
 have iH:((gT (m+5)).cg Y).fn 109 [sv,.func (.func 220) [] []] st2=.ret (.bool b) RM:=cv
 have oT:(!vs.all gr)=b/\Vd st2 RM:=by
  rcases hb with⟨rfl,h1,h2⟩|⟨rfl,h1,h2⟩
  ·rw[qe,Xr,QW] at h2
   exact⟨by rw[<-h2];rfl,h1⟩
  ·exact⟨by rw[h2];rfl,h1⟩
 obtain⟨oT,qf⟩:=oT
 have qg:VZ id st RM:=ez.trans (VZ.of qf)
 have g3:RM.get id=some (.row [.int .i64 (sw left 1)]):=qf.get (Qz am ez.1) g2
 have n3:st.next+2<=RM.next:=by have:=qf.1;omega
 have yY:=qf.get (i:=st.next) (by omega) wN
 have yZ:=qf.get (i:=st.next+1) (by omega) wO
 have wQ:Vs F st RM:=Vs.of1 qg hF aZ
 have tW:∀ i,F i->i < RM.next:=fun i hi=>Qz (hF i hi) qg.1
 -- the elements
 obtain⟨e,st4,cl,he⟩:=T0 (n:=m+3) (Y:=Y) (q:=222) (caps:=[.ptr st.next 0,.ptr (st.next+1) 0])
  (R3:=fun k s=>VZ id RM s/\∃ lf,s.get id=some (.row [.int .i64 lf])/\Jl (l.drop k) lf deep=Jl l (sw left 1) deep)
  (Fin:=fun s=>VZ id RM s/\s.get id=some (.row [.int .i64 (Jl l (sw left 1) deep).2])/\(Jl l (sw left 1) deep).1=false) (.inr ⟨rfl,rfl⟩) aD
  (fun k s h=>wQ.trans (Vs.of1 h.1 tW aZ)) (fun k x s hx ⟨hk,lf,oP,hq⟩=>by
   have ce:k < l.length:=by have:=(Qt.1 hx).1;omega
   obtain⟨t,ht,bH⟩:=WR ce
   obtain⟨x',aK,bZ⟩:=fy.at ht
   rw[hx] at aK;injection aK with aK;subst aK
   have bv:=Dv.fzL_mem (Qr ht)
   have tV:∀ i,F i->i < s.next:=fun i hi=>Qz (tW i hi) hk.1
   have gps:s.get st.next=some (.row [.ptr id 0]):=(hk.2 _ (by omega) (by omega)).trans yY
   have gds:s.get (st.next+1)=some (.row [.int .i64 deep]):=(hk.2 _ (by omega) (by omega)).trans yZ
   obtain⟨s',ay,cf,rv⟩:=ih t.fz (by omega) t rfl (m+2) Y F s id lf (aw deep 1) x (bZ.mono (wQ.trans (Vs.of1 hk tW aZ)) fun _ h=>h) tV aZ (Qz am (QY qg.1 hk.1)) oP (by omega)
   have aC:((gT (m+2)).cg Y).fn 161 [.agg x,.ptr id 0,.int .i64 (aw deep 1)] s=.ret (.bool (shD t lf (aw deep 1)).1) s':=ay
   have lp:=ld0 gps
   have lq:=ld0 gds
   have ad:Vr false .add (.int .i64 deep) (ZI 1)=some (.int .i64 (aw deep 1)):=rfl
   rw[bH,shDL_cons] at hq
   refine⟨!(shD t lf (aw deep 1)).1,s',?_,fun h=>⟨hk.trans cf,?_⟩,fun h=>⟨hk.trans cf,_,rv,?_⟩⟩
   ·obtain⟨a,b,c,rfl⟩:∃ a b c,x=[a,b,c]:=by
     match x,bZ.cells3.1 with
     | [a,b,c],_=>exact⟨a,b,c,rfl⟩
    refine Ve (mf:=kf112) (fr:=?e0) t222 rfl (.inl ?e1) ?e2 ?e3
    case e1=>
     simp only[Rw,rQ,rA,kf112,JZ,lp,lq,ad,aC,unN]
     rfl
    case e2=>rfl
    case e3=>simp only[kf112,Vg,Vu,V0,Fr.get_set,↓reduceIte,Qg,Ql]
   ·have h':(shD t lf (aw deep 1)).1=false:=by simpa using h
    rw[Qe (by rw[h'];decide)] at hq
    rw[<-hq]
    exact⟨rv,rfl⟩
   ·have h':(shD t lf (aw deep 1)).1=true:=by simpa using h
    rw[Qm h'] at hq
    exact hq) RM ⟨VZ.refl id RM,_,g3,rfl⟩ (by omega)
 have za:((gT (m+5)).cg Y).fn 221 [sl,.func (.func 222) [] [.ptr st.next 0,.ptr (st.next+1) 0]] RM=.ret (.bool e) st4:=cl
 have fX:(!e)=(Jl l (sw left 1) deep).1/\VZ id RM st4/\st4.get id=some (.row [.int .i64 (Jl l (sw left 1) deep).2]):=by
  rcases he with⟨rfl,h1,lf,h2,h3⟩|⟨rfl,h1,h2,h3⟩
  ·rw[bJ,Xr,shDL_nil] at h3
   rw[<-h3];exact⟨rfl,h1,h2⟩
  ·rw[h3];exact⟨rfl,h1,h2⟩
 obtain⟨fX,oU,g4⟩:=fX
 have car:∀ s,((gT (m+5)).cg Y).fn 219 [.int .i64 r] s=.ret (.tuple [ZI ((RZ r)),ZI ((RY r))]) s:=fun s=>arity_run (m+4) Y r s
 have nc:∀ x,Jd (.ptr id x)=some (.ptr id x):=fun _=>rfl
 have su:Vr false .sub (.int .i64 left) (ZI 1)=some (.int .i64 (sw left 1)):=rfl
 have tX:WJ 0 (.tuple [ZI ((RZ r)),ZI ((RY r))])=some (ZI ((RZ r))):=rfl
 have aM:WJ 1 (.tuple [ZI ((RZ r)),ZI ((RY r))])=some (ZI ((RY r))):=rfl
 have lpq:Vf false 1 ai (.ptr st.next 0)=some (.ptr id 0):=ld0 gp
 have fh:Vf false 1 st2 (.ptr st.next 0)=some (.ptr id 0):=ld0 wN
 have fj:Vf false 1 st2 (.ptr (st.next+1) 0)=some (.int .i64 deep):=ld0 wO
 have l2:Vf false 1 st2 (.ptr id 0)=some (.int .i64 (sw left 1)):=ld0 g2
 have lenl:=aD.len st2
 have lenv:=lZ.len st2
 have e1:Vr false .lss (.int .i64 (sw left 1)) Z0=some (.bool (decide (sw left 1 < 0))):=rfl
 have e2:Vr false .gtr (.int .i64 deep) (ZI 400)=some (.bool (decide (deep > 400))):=rfl
 have e3:Vr false .lss (.int .i64 r) (ZI 1)=some (.bool (decide (r < 1))):=rfl
 have e4:Vr false .gtr (.int .i64 r) (ZI 19)=some (.bool (decide (r > 19))):=rfl
 have e5:Vr false .neq (ZI xs.length) (ZI ((RZ r)))=some (.bool (Int.ofNat l.length != Int.ofNat (RZ r))):=by rw[bJ];rfl
 have e6:Vr false .gtr (ZI xv.length) (ZI ((RY r)))=some (.bool (decide (Int.ofNat vs.length > Int.ofNat (RY r)))):=by rw[qe];rfl
 rw[shD_eq]
 have jn:badD r left deep l.length vs.length (vs.all gr)=(decide (sw left 1 < 0)||(decide (deep > 400)||(decide (r < 1)||(decide (r > 19)||((Int.ofNat l.length != Int.ofNat (RZ r))||(decide (Int.ofNat vs.length > Int.ofNat (RY r))||!vs.all gr)))))):=rfl
 rw[jn,oT]
 generalize decide (sw left 1 < 0)=B1 at *
 generalize decide (deep > 400)=B2 at *
 generalize decide (r < 1)=B3 at *
 generalize decide (r > 19)=B4 at *
 generalize (Int.ofNat l.length != Int.ofNat (RZ r))=B5 at *
 generalize decide (Int.ofNat vs.length > Int.ofNat (RY r))=B6 at *
 obtain⟨fA1,au⟩:∃ fA,fA=Vo 0 [.agg [.int .i64 r,sv,sl],.ptr id 0,.int .i64 deep] Fr.nil:=⟨_,rfl⟩
 have gA1_0:=R9 au 0
 have gA1_1:=R9 au 1
 have gA1_2:=R9 au 2
 have dA1:fA1.ds=[]:=by rw[au];rfl
 obtain⟨J2,H2,O2_3,O2_4,O2_5⟩:∃ aa,ar (m+5) Y g70_0 fA1 st=.ok aa ai/\aa.get 3=some (.fptr [.int .i64 r,sv,sl] 0)/\aa.get 4=some (.ptr st.next 0)/\aa.get 5=some (.ptr (st.next+1) 0):=⟨_,by simp only[Rw,rQ,rA,gA1_0,gA1_1,gA1_2,g70_0,<-bU,St.next_new]<;>rfl,gn (gn (gn gh)),gn (gn gh),gn gh⟩
 have W2:=ad H2 dA1
 obtain⟨J3,H3⟩:∃ aa,ar (m+5) Y g70_1 J2 ai=.ok aa st2:=⟨_,by simp only[Rw,rQ,rA,O2_4,g70_1,lpq,nc,l1,su,s1]<;>rfl⟩
 have V3_3:=ag H3 O2_3
 have W3:=ad H3 W2
 obtain⟨J4,H4,O4_7,O4_8⟩:∃ aa,ar (m+5) Y g70_2 J3 st2=.ok aa st2/\aa.get 7=some (ZI ((RZ r)))/\aa.get 8=some (ZI ((RY r))):=⟨_,by simp only[Rw,rQ,rA,V3_3,g70_2,RP,Y7,Yg,WB,car,tX,aM]<;>rfl,gn gh,gh⟩
 have V4_3:=ag H4 V3_3
 have V4_4:=ag H4 (ag H3 O2_4)
 have V4_5:=ag H4 (ag H3 O2_5)
 have W4:=ad H4 W3
 cases B1 with
 | true=>
  obtain⟨J5,H5,O5_56⟩:∃ aa,ar (m+5) Y YM J4 st2=.ok aa st2/\aa.get 56=some (.bool true):=⟨_,by simp only[Rw,rQ,rA,V4_3,V4_4,V4_5,O4_7,O4_8,YM,fh,nc,l2,fj,RP,Y7,Yg,WB,lenl,lenv,e1,e2,e3,e4,e5,e6,iH,Qc,Qb]<;>rfl,gh⟩
  have W5:=ad H5 W4
  obtain⟨J6,H6,O6_6⟩:∃ aa,ar (m+5) Y Jm J5 st2=.ok aa st2/\aa.get 6=some (.bool false):=⟨_,by simp only[Rw,rQ,rA,Jm]<;>rfl,gh⟩
  have W6:=ad H6 W5
  refine⟨st2,?p6,ez,?o6⟩
  case p6=>
   rw[Qm (by simp)]
   refine Ve (mf:=Ye) (fr:=J6) t161 rfl (.inl ?q6) W6 (by simp only[Ye,Vg,Vu,V0,O6_6,Qg,Ql])
   case q6=>
    rw[<-au]
    simp only[Rw,rQ,rA,Ye,H2,H3,H4,H5,H6,O5_56]
  case o6=>rw[Qm (by simp)];exact g2
 | false=>
  cases B2 with
  | true=>
   obtain⟨J7,H7,O7_56⟩:∃ aa,ar (m+5) Y YM J4 st2=.ok aa st2/\aa.get 56=some (.bool true):=⟨_,by simp only[Rw,rQ,rA,V4_3,V4_4,V4_5,O4_7,O4_8,YM,fh,nc,l2,fj,RP,Y7,Yg,WB,lenl,lenv,e1,e2,e3,e4,e5,e6,iH,Qc,Qb]<;>rfl,gh⟩
   have W7:=ad H7 W4
   obtain⟨J8,H8,O8_6⟩:∃ aa,ar (m+5) Y Jm J7 st2=.ok aa st2/\aa.get 6=some (.bool false):=⟨_,by simp only[Rw,rQ,rA,Jm]<;>rfl,gh⟩
   have W8:=ad H8 W7
   refine⟨st2,?p8,ez,?o8⟩
   case p8=>
    rw[Qm (by simp)]
    refine Ve (mf:=Ye) (fr:=J8) t161 rfl (.inl ?q8) W8 (by simp only[Ye,Vg,Vu,V0,O8_6,Qg,Ql])
    case q8=>
     rw[<-au]
     simp only[Rw,rQ,rA,Ye,H2,H3,H4,H7,H8,O7_56]
   case o8=>rw[Qm (by simp)];exact g2
  | false=>
   cases B3 with
   | true=>
    obtain⟨J9,H9,O9_56⟩:∃ aa,ar (m+5) Y YM J4 st2=.ok aa st2/\aa.get 56=some (.bool true):=⟨_,by simp only[Rw,rQ,rA,V4_3,V4_4,V4_5,O4_7,O4_8,YM,fh,nc,l2,fj,RP,Y7,Yg,WB,lenl,lenv,e1,e2,e3,e4,e5,e6,iH,Qc,Qb]<;>rfl,gh⟩
    have W9:=ad H9 W4
    obtain⟨J10,H10,O10_6⟩:∃ aa,ar (m+5) Y Jm J9 st2=.ok aa st2/\aa.get 6=some (.bool false):=⟨_,by simp only[Rw,rQ,rA,Jm]<;>rfl,gh⟩
    refine⟨st2,?p10,ez,?o10⟩
    case p10=>
     rw[Qm (by simp)]
     refine Ve (mf:=Ye) (fr:=J10) t161 rfl (.inl ?q10) (ad H10 W9) (by simp only[Ye,Vg,Vu,V0,O10_6,Qg,Ql])
     case q10=>
      rw[<-au]
      simp only[Rw,rQ,rA,Ye,H2,H3,H4,H9,H10,O9_56]
    case o10=>rw[Qm (by simp)];exact g2
   | false=>
    cases B4 with
    | true=>
     obtain⟨J11,H11,O11_56⟩:∃ aa,ar (m+5) Y YM J4 st2=.ok aa st2/\aa.get 56=some (.bool true):=⟨_,by simp only[Rw,rQ,rA,V4_3,V4_4,V4_5,O4_7,O4_8,YM,fh,nc,l2,fj,RP,Y7,Yg,WB,lenl,lenv,e1,e2,e3,e4,e5,e6,iH,Qc,Qb]<;>rfl,gh⟩
     obtain⟨J12,H12,O12_6⟩:∃ aa,ar (m+5) Y Jm J11 st2=.ok aa st2/\aa.get 6=some (.bool false):=⟨_,by simp only[Rw,rQ,rA,Jm]<;>rfl,gh⟩
     refine⟨st2,?p12,ez,?o12⟩
     case p12=>
      rw[Qm (by simp)]
      refine Ve (mf:=Ye) (fr:=J12) t161 rfl (.inl ?q12) (ad H12 (ad H11 W4)) (by simp only[Ye,Vg,Vu,V0,O12_6,Qg,Ql])
      case q12=>
       rw[<-au]
       simp only[Rw,rQ,rA,Ye,H2,H3,H4,H11,H12,O11_56]
     case o12=>rw[Qm (by simp)];exact g2
    | false=>
     cases B5 with
     | true=>
      obtain⟨J13,H13,O13_56⟩:∃ aa,ar (m+5) Y YM J4 st2=.ok aa st2/\aa.get 56=some (.bool true):=⟨_,by simp only[Rw,rQ,rA,V4_3,V4_4,V4_5,O4_7,O4_8,YM,fh,nc,l2,fj,RP,Y7,Yg,WB,lenl,lenv,e1,e2,e3,e4,e5,e6,iH,Qc,Qb]<;>rfl,gh⟩
      obtain⟨J14,H14,O14_6⟩:∃ aa,ar (m+5) Y Jm J13 st2=.ok aa st2/\aa.get 6=some (.bool false):=⟨_,by simp only[Rw,rQ,rA,Jm]<;>rfl,gh⟩
      refine⟨st2,?p14,ez,?o14⟩
      case p14=>
       rw[Qm (by simp)]
       refine Ve (mf:=Ye) (fr:=J14) t161 rfl (.inl ?q14) (ad H14 (ad H13 W4)) (by simp only[Ye,Vg,Vu,V0,O14_6,Qg,Ql])
       case q14=>
        rw[<-au]
        simp only[Rw,rQ,rA,Ye,H2,H3,H4,H13,H14,O13_56]
      case o14=>rw[Qm (by simp)];exact g2
     | false=>
      cases B6 with
      | true=>
       obtain⟨J15,H15,O15_56⟩:∃ aa,ar (m+5) Y YM J4 st2=.ok aa st2/\aa.get 56=some (.bool true):=⟨_,by simp only[Rw,rQ,rA,V4_3,V4_4,V4_5,O4_7,O4_8,YM,fh,nc,l2,fj,RP,Y7,Yg,WB,lenl,lenv,e1,e2,e3,e4,e5,e6,iH,Qc,Qb]<;>rfl,gh⟩
       have W15:=ad H15 W4
       obtain⟨J16,H16,O16_6⟩:∃ aa,ar (m+5) Y Jm J15 st2=.ok aa st2/\aa.get 6=some (.bool false):=⟨_,by simp only[Rw,rQ,rA,Jm]<;>rfl,gh⟩
       have W16:=ad H16 W15
       refine⟨st2,?p16,ez,?o16⟩
       case p16=>
        rw[Qm (by simp)]
        refine Ve (mf:=Ye) (fr:=J16) t161 rfl (.inl ?q16) W16 (by simp only[Ye,Vg,Vu,V0,O16_6,Qg,Ql])
        case q16=>
         rw[<-au]
         simp only[Rw,rQ,rA,Ye,H2,H3,H4,H15,H16,O15_56]
       case o16=>rw[Qm (by simp)];exact g2
      | false=>
       cases b with
       | true=>
        obtain⟨J17,H17,O17_56⟩:∃ aa,ar (m+5) Y YM J4 st2=.ok aa RM/\aa.get 56=some (.bool true):=⟨_,by simp only[Rw,rQ,rA,V4_3,V4_4,V4_5,O4_7,O4_8,YM,fh,nc,l2,fj,RP,Y7,Yg,WB,lenl,lenv,e1,e2,e3,e4,e5,e6,iH,Qc,Qb]<;>rfl,gh⟩
        have W17:=ad H17 W4
        obtain⟨J18,H18,O18_6⟩:∃ aa,ar (m+5) Y Jm J17 RM=.ok aa RM/\aa.get 6=some (.bool false):=⟨_,by simp only[Rw,rQ,rA,Jm]<;>rfl,gh⟩
        have W18:=ad H18 W17
        refine⟨RM,?p18,qg,?o18⟩
        case p18=>
         rw[Qm (by simp)]
         refine Ve (mf:=Ye) (fr:=J18) t161 rfl (.inl ?q18) W18 (by simp only[Ye,Vg,Vu,V0,O18_6,Qg,Ql])
         case q18=>
          rw[<-au]
          simp only[Rw,rQ,rA,Ye,H2,H3,H4,H17,H18,O17_56]
        case o18=>rw[Qm (by simp)];exact g3
       | false=>
        obtain⟨J19,H19,O19_56⟩:∃ aa,ar (m+5) Y YM J4 st2=.ok aa RM/\aa.get 56=some (.bool false):=⟨_,by simp only[Rw,rQ,rA,V4_3,V4_4,V4_5,O4_7,O4_8,YM,fh,nc,l2,fj,RP,Y7,Yg,WB,lenl,lenv,e1,e2,e3,e4,e5,e6,iH,Qc,Qb]<;>rfl,gh⟩
        have W19:=ad H19 W4
        obtain⟨J20,H20,O20_6⟩:∃ aa,ar (m+5) Y g70_5 J19 RM=.ok aa st4/\aa.get 6=some (.bool (!e)):=⟨_,by simp only[Rw,rQ,rA,(ag H19 V4_3),(ag H19 V4_4),(ag H19 V4_5),g70_5,Jy,RP,Y7,Yg,WB,za,unN,Qc,Qb]<;>rfl,gh⟩
        have W20:=ad H20 W19
        refine⟨st4,?p20,qg.trans oU,?o20⟩
        case p20=>
         rw[Qe (by simp),<-fX]
         refine Ve (mf:=Ye) (fr:=J20) t161 rfl (.inl ?q20) W20 (by simp only[Ye,Vg,Vu,V0,O20_6,Qg,Ql])
         case q20=>
          rw[<-au]
          simp only[Rw,rQ,rA,Ye,H2,H3,H4,H19,H20,O19_56]
        case o20=>rw[Qe (by simp)];exact g4
theorem isDeriv_run(d:Dv)(n:Nat)(Y:Vi)(F:Nat->Prop)(st:St)(cs:List AV)(hr:VU F st d cs)(hF:∀ i,F i->i < st.next)(hn:d.fz < n):
  ∃ af,R n Y 112 [.agg cs] st=.ret (.bool (JY d)) af/\Vd st af:=by
 obtain⟨m,rfl⟩:∃ m,n=m+1:=⟨n - 1,by omega⟩
 have eF:=hr.cells3
 have k1:Vd st ((st.new (.row [ZI 0])).put st.next (.row [ZI 4000])):=(Vd.refl st).newput _ _
 have g1:((st.new (.row [ZI 0])).put st.next (.row [ZI 4000])).get st.next=some (.row [ZI 4000]):=by rw[St.get_put,Qm rfl]
 have so:=stb1 (st:=st.new (.row [ZI 0])) (id:=st.next) (x:=ZI 0) (k:=.i64) (v:=.ofNat 4000) (by rw[St.get_new,Qm rfl])
 have n1:((st.new (.row [ZI 0])).put st.next (.row [ZI 4000])).next=st.next+1:=rfl
 generalize (st.new (.row [ZI 0])).put st.next (.row [ZI 4000])=ai at *
 have aZ:¬ F st.next:=fun h=>Nat.lt_irrefl _ (hF _ h)
 obtain⟨st2,c1,k2,_⟩:=shaped_run d m Y F ai st.next (.ofNat 4000) (.ofNat 1) cs (hr.mono (Vs.of k1 hF) fun _ h=>h) (fun i hi=>Qz (hF i hi) k1.1) aZ (by omega) g1 (by omega)
 have eS:((gT m).cg Y).fn 161 [.agg cs,.ptr st.next 0,ZI 1] ai=.ret (.bool (JY d)) st2:=c1
 obtain⟨a,b,c,rfl⟩:∃ a b c,cs=[a,b,c]:=by
  match cs,eF.1 with
  | [a,b,c],_=>exact⟨a,b,c,rfl⟩
 obtain⟨fA1,au⟩:∃ fA,fA=Vo 0 [.agg [a,b,c]] Fr.nil:=⟨_,rfl⟩
 have gA1_0:=R9 au 0
 have dA1:fA1.ds=[]:=by rw[au];rfl
 obtain⟨J2,H2,O2_1⟩:∃ aa,ar m Y [ZO 1 (.box true (.t 0)),ZM 2 (ZB false)] fA1 st=.ok aa st/\aa.get 1=some (.fptr [a,b,c] 0):=⟨_,by simp only[Rw,rQ,rA,gA1_0]<;>rfl,gn gh⟩
 have W2:=ad H2 dA1
 obtain⟨J3,H3,O3_3⟩:∃ aa,ar m Y [ZO 3 (.alloc [Z0]),⟨none,.store 1 (.t 3) (ZC 4000),none⟩] J2 st=.ok aa ai/\aa.get 3=some (.ptr st.next 0):=⟨_,by simp only[Rw,rQ,rA,so]<;>rfl,gh⟩
 obtain⟨J4,H4,O4_2⟩:∃ aa,ar m Y g41_2 J3 ai=.ok aa st2/\aa.get 2=some (.bool (JY d)):=⟨_,by simp only[Rw,rQ,rA,(ag H3 O2_1),O3_3,g41_2,JZ,eS]<;>rfl,gh⟩
 refine⟨st2,Ve (mf:=kf41) (fr:=J4) t112 rfl (.inl ?q4) (ad H4 (ad H3 W2)) (by simp only[kf41,Vg,Vu,V0,O4_2,Qg,Ql]),k1.then1 k2 (Qw _)⟩
 case q4=>
  rw[<-au]
  simp only[Rw,rQ,rA,kf41,H2,H3,H4]
end
noncomputable section
open Nat renaming reduceEqDiff -> rQ, reduceAdd -> rA
theorem one_cells{v:AV}(h:AV.one v=true):v.cells=[v]:=by cases v<;>first | rfl | (simp[AV.one] at h)
theorem st32{st:St}{id:Nat}{x y z v:AV}(h:st.get id=some (.row [x,y,z]))(hv:AV.one v=true):Vt 1 st (.ptr id 2) v=some (st.put id (.row [x,y,v])):=by
 simp only[Vt,h,one_cells hv]
 show (bif (true&&(true&&(AV.one v&&true)):Bool) then _ else _)=_
 rw[hv];rfl
theorem RM{st:St}{id:Nat}{x zs:List AV}(h:st.get id=some (.row zs))(hz:zs.length=3)(hx:x.length=3/\x.all AV.one=true):Vt 3 st (.ptr id 0) (.agg x)=some (st.put id (.row x)):=by
 simp only[Vt,h,AV.cells,hx.1,hz,hx.2]
 have:setCells zs 0 x=x:=by
  simp only[setCells,Xe,QR,Q7]
  rw[XX (by omega)];simp
 rw[this];rfl
def Gr(lo:Nat)(s:St)(sl:AV)(xs:List (List AV))(G:Nat->Prop):Prop:=
 (∀ i,G i->lo<=i/\i < s.next)/\(∀ x∈xs,x.length=3/\x.all AV.one=true) ∧
 ((sl=.nilsl/\xs=[])\/∃ id,sl=.own id 0 xs.length 3 none xs.length/\lo<=id/\id < s.next/\s.get id=some (.row xs.flatten)/\¬ G id)
theorem Gr.nil(lo:Nat)(s:St):Gr lo s .nilsl [] (fun _=>False):=⟨fun _ h=>h.elim,fun _ h=>by simp at h,.inl ⟨rfl,rfl⟩⟩
theorem Gr.one{lo:Nat}{s:St}{sl:AV}{xs:List (List AV)}{G:Nat->Prop}(h:Gr lo s sl xs G):AV.one sl=true:=by
 rcases h.2.2 with⟨rfl,_⟩|⟨id,rfl,_⟩<;>rfl
theorem Gr.slr{lo:Nat}{s:St}{sl:AV}{xs:List (List AV)}{G:Nat->Prop}(h:Gr lo s sl xs G)(hb:xs.length<=9223372036854775807):RL (fun i=>lo<=i/\i < s.next) s sl xs:=by
 refine⟨h.2.1,hb,?_⟩
 rcases h.2.2 with h|⟨id,h1,h2,h3,h4,_⟩
 ·exact .inl h
 ·exact .inr (.inr ⟨id,none,xs.length,h1,⟨h2,h3⟩,h4⟩)
theorem Gr.mono{lo:Nat}{s s2:St}{sl:AV}{xs:List (List AV)}{G:Nat->Prop}(h:Gr lo s sl xs G)(hn:s.next<=s2.next)(hk:∀ id,lo<=id->id < s.next->¬ G id->sl=.own id 0 xs.length 3 none xs.length->s2.get id=s.get id):Gr lo s2 sl xs G:=by
 refine⟨fun i hi=>⟨(h.1 i hi).1,Qz (h.1 i hi).2 hn⟩,h.2.1,?_⟩
 rcases h.2.2 with h|⟨id,h1,h2,h3,h4,h5⟩
 ·exact .inl h
 ·exact .inr ⟨id,h1,h2,Qz h3 hn,by rw[hk id h2 h3 h5 h1];exact h4,h5⟩
theorem Gr.app{bytes lo:Nat}{s s2:St}{sl:AV}{xs:List (List AV)}{y:List AV}{G G2:Nat->Prop}(h:Gr lo s sl xs G)(fw:lo<=s.next)(hb:(xs.length+1)*bytes<=140737488355328)(bw:xs.length+1<=140737488355328)
  (k:Vd s s2) (hy:y.length=3/\y.all AV.one=true) (rE:∀ i,G2 i->s.next<=i/\i < s2.next):
  ∃ bI s3,VX bytes 3 s2 sl 1 y=some (bI,s3)/\(∀ i,i < s2.next->sl≠.own i 0 xs.length 3 none xs.length->s3.get i=s2.get i)/\s3.next=s2.next+1/\Vs G s s3/\Vs G2 s2 s3/\Gr lo s3 bI (xs++[y]) (fun i=>G i\/G2 i):=by
 obtain⟨hG,bn,aD⟩:=h
 have me:=flat_len bn
 have jo:∀ x∈xs++[y],x.length=3/\x.all AV.one=true:=fun x hx=>by
  rcases QV.1 hx with h | h
  ·exact bn x h
  ·simp only[Xd] at h;subst h;exact hy
 have wR:∀ s3:St,s3.next=s2.next+1->∀ i,(G i\/G2 i)->lo<=i/\i < s3.next:=fun s3 h3 i hi=>by
  have:=k.1
  rcases hi with hi | hi
  ·have:=hG i hi;omega
  ·have:=rE i hi;omega
 have wS:¬(G s2.next\/G2 s2.next):=fun h=>by
  have:=k.1
  rcases h with h | h
  ·have:=hG _ h;omega
  ·have:=rE _ h;omega
 rcases aD with⟨rfl,rfl⟩|⟨id,rfl,aZ,qh,hg,zb⟩
 ·refine⟨.own s2.next 0 1 3 none 1,s2.new (.row y),?_,?_,rfl,?_,?_,wR _ rfl,jo,.inr ⟨s2.next,rfl,by have:=k.1;omega,by simp,?_,wS⟩⟩
  ·unfold VX
   have h1:(1*bytes).ble 140737488355328=true:=Qo (by simpa using hb)
   rw[h1];rfl
  ·intro i hi _
   rw[St.get_new,Qe (by omega)]
  ·intro i hi
   have:=hG i hi
   have hk:=k.1
   rw[St.get_new,Qe (by omega),k.2 i (by omega)]
  ·intro i hi
   have:=rE i hi
   rw[St.get_new,Qe (by omega)]
  ·rw[St.get_new,Qm rfl];simp
 ·have jm:=k.get qh hg
  have hk:=k.1
  have zc:(xs++[y]).flatten=xs.flatten++y:=by simp
  have ze:(xs++[y]).length=xs.length+1:=by simp
  refine⟨.own s2.next 0 (xs.length+1) 3 none (xs.length+1),(s2.del id).new (.row (xs.flatten++y)),?_,?_,rfl,?_,?_,wR _ rfl,jo,.inr ⟨s2.next,by rw[ze],by omega,by simp[St.del,St.new],?_,wS⟩⟩
  ·have h0:Nat.beq 1 0=false:=rfl
   have h1:((xs.length+1)*bytes).ble 140737488355328=true:=Qo hb
   have h2:(xs.length+1).ble 140737488355328=true:=Qo bw
   have h3:(0+xs.length*3).ble xs.flatten.length=true:=Qo (by omega)
   have h4:KY (xs.length+1) xs.length none=none:=by
    have:(xs.length+1).ble xs.length=false:=by
     cases hc:(xs.length+1).ble xs.length with
     | false=>rfl
     | true=>have:=Qk hc;omega
    simp only[KY,this];rfl
   have h5:(xs.length*3).beq xs.flatten.length=true:=by rw[me];exact QD _
   unfold VX
   simp only[h0,Qq,jm,h1,h2,h3,h4,h5,hy.2];rfl
  ·intro i hi az
   have:i≠id:=fun e=>az (by rw[e])
   rw[St.get_new,Qe (by simp only[St.next_del];omega),St.get_del,Qe this]
  ·intro i hi
   have:=hG i hi
   have az:i≠id:=fun e=>zb (e ▸ hi)
   rw[St.get_new,Qe (by simp only[St.next_del];omega),St.get_del,Qe az,k.2 i (by omega)]
  ·intro i hi
   have:=rE i hi
   rw[St.get_new,Qe (by simp only[St.next_del];omega),St.get_del,Qe (by omega)]
  ·have:(s2.del id).next=s2.next:=rfl
   rw[<-this,St.get_new,Qm rfl,zc]
theorem tag0(x v:AV)(s:St):tagA none x v s=s:=rfl
theorem cnt1(a b c:AV)(s:St):Wd 3 s (.lst 1 [a,b,c] true)=some (1,[a,b,c]):=rfl
theorem KB{Γ:Cg}{zs:List (Vc × Nat)}{chk:List (Nat × Option Nat)}{fr frE:Fr}{st stE:St}{ak:List RF}(h:Wq Γ zs 0 st.next fr (VT zs [] st) none=some (ak,frE,stE))(hp:JE ak=none)
  (hc:chk.all (KE Γ zs ak st.next stE)=true) (hl:lens Γ zs fr st=[]:=by rfl):VK Γ zs chk fr st=.ok frE stE:=by
 unfold VK
 rw[hl,h]
 simp only[hc,Qi,hp]
theorem WU{Γ:Cg}{i id:Nat}{fr:Fr}{st:St}{pan:Option Nat}:Wq Γ [] i id fr st pan=some ([],fr,st):=rfl
theorem WH{Γ:Cg}{d:Option Nat}{op:Rz}{a:Nat}{zs:List (Vc × Nat)}{i id:Nat}{fr:Fr}{st:St}:Wq Γ ((⟨d,op,none⟩,a)::zs) i id fr st none=match V5 Γ id fr st op with
  | .val v af=>DR.cons (.val fr st v af) (Wq Γ zs (i+1) (VJ id op) (Fr.put fr d v) af none)
  | .pan v af=>DR.cons (.pan fr st v af) (Wq Γ zs (i+1) (VJ id op) fr st (some i))
  | .stuck=>none:=by
 conv=>lhs;unfold Wq
 simp only[Ku,Qq,Vv]
 cases V5 Γ id fr st op<;>rfl
theorem fill2{v:AV}(r:Int)(h:AV.one v=true):VN [ZI 0,.nilsl,.nilsl] [(0,1,.int .i64 r),(1,1,v)]=some [.int .i64 r,v,.nilsl]:=by cases v<;>first | rfl | (simp[AV.one] at h)
theorem Wo{Γ:Cg}{zs:List (Vc × Nat)}{ak:List RF}{id i k a:Nat}{d:Option Nat}{op:Rz}{stE:St}{fr fr2:Fr}{s s1 s2 s3:St}{v v2:AV}(hz:zs[i]?=some (⟨d,op,none⟩,a))(hi:ak[i]?=some (.val fr s v s1))(_hg:(none:Option (Nat × Bool))=none)(hk:ak[k]?=some (.val fr2 s2 v2 s3))
  (h:W0 op fr=true\/∃ s4,V5 Γ (Wf zs i id) fr s2 op=.val v s4/\V8 v v=true):KE Γ zs ak id stE (i,some k)=true:=by
 unfold KE
 simp only[hz,hi,Vv,hk]
 rcases h with h|⟨s4,h1,h2⟩
 ·rw[h];rfl
 ·simp only[YF,h1,h2,XS]
theorem Gr.beq{lo:Nat}{s:St}{sl:AV}{xs:List (List AV)}{G:Nat->Prop}(h:Gr lo s sl xs G):V8 sl sl=true:=by
 rcases h.2.2 with⟨rfl,_⟩|⟨id,rfl,_⟩
 ·rfl
 ·simp only[V8,QD,onBeq];rfl
theorem SF:∀{l:List Tm},l.all gr=true->RV l=true
 | [],_=>shL_nil
 | t::l,h=>by
  simp only[QN,Qd] at h
  rw[Ul,Qm (gr_shT h.1)];exact SF h.2
theorem good_mk{r:Int}{nv ev nl ex:Bool}{vs:List Tm}{l:List Dv}(h:Dv.good gr (.mk r nv ev vs nl ex l)=true):1<=r/\r<=19/\l.length=RZ r/\vs.length<=RY r/\RV vs=true/\Dv.goodL gr l=true:=by
 simp only[Dv.good,Qd,QF,Zm] at h
 exact⟨h.1.1.1.1.1,h.1.1.1.1.2,h.1.1.1.2,h.1.1.2,SF h.1.2,h.2⟩
theorem goodL_mem:∀{l:List Dv},Dv.goodL gr l=true->∀ d∈l,d.good gr=true
 | [],_,_,hx=>by simp at hx
 | t::l,h,x,hx=>by
  simp only[Dv.goodL,Qd] at h
  rcases Qx.1 hx with rfl | hx
  ·exact h.1
  ·exact goodL_mem h.2 x hx
theorem arN_le(r:Int):RZ r<=2:=by
 unfold RZ
 split
 ·omega
 ·split<;>omega
theorem vaN_le(r:Int):RY r<=64:=by
 unfold RY
 split
 ·omega
 ·split<;>omega
end
open Nat renaming reduceEqDiff -> rQ, reduceAdd -> rA
theorem cmpI_zero{x y:Int}(h:VS x y=0):x=y:=by
 unfold VS at h
 split at h
 ·cases h
 ·split at h
  ·cases h
  ·omega
noncomputable section
open Nat renaming reduceEqDiff -> rQ, reduceAdd -> rA
def JM:Vm:=⟨9,(ZQ [ZM 2 (ZC 0)]
 (.seq (ZQ [ZV 3 0]
 (.block 0 (.seq (ZQ [ZO 5 (.bin false .eql (.t 3) (ZC 1)),ZV 4 5]
 (.cond (.t 4)
 .skip
 (.region [ZO 6 (.bin false .eql (.t 3) (ZC 2)),ZV 4 6])))
 (.cond (.t 4)
 (ZR [ZM 2 (ZC 0)])
 (ZQ [ZO 8 (.bin false .eql (.t 3) (ZC 7)),ZV 7 8]
 (.cond (.t 7)
 (ZR [ZM 2 (ZC 2)])
 .skip))))))
 (ZR [ZM 2 (ZC 1)]))),[.t 2]⟩
theorem t214:Ry 214=some JM:=by kernel_rfl
def JR:Vm:=⟨9,(ZQ [ZM 2 (ZC 0)]
 (.seq (ZQ [ZV 3 0]
 (.block 0 (.seq (ZQ [ZO 5 (.bin false .eql (.t 3) (ZC 1)),ZV 4 5]
 (.cond (.t 4)
 .skip
 (.region [ZO 6 (.bin false .eql (.t 3) (ZC 2)),ZV 4 6])))
 (.cond (.t 4)
 (ZR [ZM 2 (ZC 8)])
 (ZQ [ZO 8 (.bin false .eql (.t 3) (ZC 16)),ZV 7 8]
 (.cond (.t 7)
 (ZR [ZM 2 (ZC 64)])
 .skip))))))
 (ZR [ZM 2 (ZC 0)]))),[.t 2]⟩
theorem t215:Ry 215=some JR:=by kernel_rfl
theorem arity2_run(n:Nat)(Y:Vi)(r:Int)(st:St):R (n+1) Y 214 [.int .i64 r] st=.ret (ZI ((RZ r))) st:=by
 have Rx:Nat.beq 0 0=true:=rfl
 have eq:∀ c:Nat,Vr false .eql (.int .i64 r) (ZI c)=some (.bool (r==.ofNat c)):=fun _=>rfl
 cases h1:(r==Int.ofNat 1) with
 | true=>
  refine Ve (mf:=JM) (fr:=?x1a) t214 rfl (.inl ?x1b) ?x1c ?x1d
  case x1b=>
   simp only[Rw,rQ,rA,JM,Rx,eq,h1]
   rfl
  case x1c=>rfl
  case x1d=>
   simp only[JM,Vg,Vu,V0,Fr.get_set,rQ,↓reduceIte,Qg,Ql]
   try (have x:r=1:=by simpa using h1)
   try subst x
   try rfl
 | false=>
  cases h2:(r==Int.ofNat 2) with
  | true=>
   refine Ve (mf:=JM) (fr:=?x2a) t214 rfl (.inl ?x2b) ?x2c ?x2d
   case x2b=>
    simp only[Rw,rQ,rA,JM,Rx,eq,h1,h2]
    rfl
   case x2c=>rfl
   case x2d=>
    simp only[JM,Vg,Vu,V0,Fr.get_set,rQ,↓reduceIte,Qg,Ql]
    try (have x:r=2:=by simpa using h2)
    try subst x
    try rfl
  | false=>
   cases h7:(r==Int.ofNat 7) with
   | true=>
    refine Ve (mf:=JM) (fr:=?x7a) t214 rfl (.inl ?x7b) ?x7c ?x7d
    case x7b=>
     simp only[Rw,rQ,rA,JM,Rx,eq,h1,h2,h7]
     rfl
    case x7c=>rfl
    case x7d=>
     simp only[JM,Vg,Vu,V0,Fr.get_set,rQ,↓reduceIte,Qg,Ql]
     try (have x:r=7:=by simpa using h7)
     try subst x
     try rfl
   | false=>
    refine Ve (mf:=JM) (fr:=?x0a) t214 rfl (.inl ?x0b) ?x0c ?x0d
    case x0b=>
     simp only[Rw,rQ,rA,JM,Rx,eq,h1,h2,h7]
     rfl
    case x0c=>rfl
    case x0d=>
     simp only[JM,Vg,Vu,V0,Fr.get_set,rQ,↓reduceIte,Qg,Ql]
     try ((have x1:r≠1:=by simpa using h1);(have x2:r≠2:=by simpa using h2);(have x7:r≠7:=by simpa using h7);simp only[RZ,x1,x2,x7,or_self,↓reduceIte];done)
theorem values2_run(n:Nat)(Y:Vi)(r:Int)(st:St):R (n+1) Y 215 [.int .i64 r] st=.ret (ZI ((RY r))) st:=by
 have Rx:Nat.beq 0 0=true:=rfl
 have eq:∀ c:Nat,Vr false .eql (.int .i64 r) (ZI c)=some (.bool (r==.ofNat c)):=fun _=>rfl
 cases h1:(r==Int.ofNat 1) with
 | true=>
  refine Ve (mf:=JR) (fr:=?x1a) t215 rfl (.inl ?x1b) ?x1c ?x1d
  case x1b=>
   simp only[Rw,rQ,rA,JR,Rx,eq,h1]
   rfl
  case x1c=>rfl
  case x1d=>
   simp only[JR,Vg,Vu,V0,Fr.get_set,rQ,↓reduceIte,Qg,Ql]
   try (have x:r=1:=by simpa using h1)
   try subst x
   try rfl
 | false=>
  cases h2:(r==Int.ofNat 2) with
  | true=>
   refine Ve (mf:=JR) (fr:=?x2a) t215 rfl (.inl ?x2b) ?x2c ?x2d
   case x2b=>
    simp only[Rw,rQ,rA,JR,Rx,eq,h1,h2]
    rfl
   case x2c=>rfl
   case x2d=>
    simp only[JR,Vg,Vu,V0,Fr.get_set,rQ,↓reduceIte,Qg,Ql]
    try (have x:r=2:=by simpa using h2)
    try subst x
    try rfl
  | false=>
   cases kT:(r==Int.ofNat 16) with
   | true=>
    refine Ve (mf:=JR) (fr:=?x16a) t215 rfl (.inl ?x16b) ?x16c ?x16d
    case x16b=>
     simp only[Rw,rQ,rA,JR,Rx,eq,h1,h2,kT]
     rfl
    case x16c=>rfl
    case x16d=>
     simp only[JR,Vg,Vu,V0,Fr.get_set,rQ,↓reduceIte,Qg,Ql]
     try (have x:r=16:=by simpa using kT)
     try subst x
     try rfl
   | false=>
    refine Ve (mf:=JR) (fr:=?x0a) t215 rfl (.inl ?x0b) ?x0c ?x0d
    case x0b=>
     simp only[Rw,rQ,rA,JR,Rx,eq,h1,h2,kT]
     rfl
    case x0c=>rfl
    case x0d=>
     simp only[JR,Vg,Vu,V0,Fr.get_set,rQ,↓reduceIte,Qg,Ql]
     try ((have x1:r≠1:=by simpa using h1);(have x2:r≠2:=by simpa using h2);(have tU:r≠16:=by simpa using kT);simp only[RY,x1,x2,tU,or_self,↓reduceIte];done)
end
end Go.AM.D32
