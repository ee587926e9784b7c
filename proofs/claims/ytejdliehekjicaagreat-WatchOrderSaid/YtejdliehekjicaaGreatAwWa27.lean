import Derived.Test.YtejdliehekjicaaGreatAwWa26
set_option maxRecDepth 100000
set_option linter.unusedSimpArgs false
namespace Go.AM.D32
open Go Go.AM
open Nat renaming reduceEqDiff -> rQ, reduceAdd -> rA
theorem TL{Γ:Gam}{n:Nat}{DF:Nat->List AV->St->DM->Option (DM × St)}{mf:Vm}{Y:Vi}{args:List AV}{st st':St}{fr:Fr}{v:AV}(hle:args.length.ble mf.N=true)
  (h:Vh Γ Y n mf.code none (Vo 0 args Fr.nil) st=.ret fr st'\/Vh Γ Y n mf.code none (Vo 0 args Fr.nil) st=.norm fr st') (hd:fr.ds=[]) (hr:Vg fr st' mf.res=.ret v st'):
  WK Γ Y n DF mf args st=.ret v st':=by
 unfold WK
 rw[hle]
 rcases h with h | h<;>simp only[Qi,h,WY,hd,VO,hr]
theorem extr0(a b c:AV):WJ 0 (.tuple [a,b,c])=some a:=rfl
theorem extr1(a b c:AV):WJ 1 (.tuple [a,b,c])=some b:=rfl
theorem extr2(a b c:AV):WJ 2 (.tuple [a,b,c])=some c:=rfl
theorem good_of{k:Nat}{N:Int}{js:List (AV × List En)}(hA:JK k N js=true):tot js<=4000/\(∀ p∈js,∀ e∈p.2,e.seen.length=k)/\∀ e∈VH js,0<=e.leaf:=by
 unfold JK at hA
 simp only[Qd,QF,QB] at hA
 obtain⟨⟨_,hA2⟩,hA3⟩:=hA
 have hg:∀ p∈js,∀ e∈p.2,e.seen.length=k/\0<=e.leaf:=fun p hp e he=>by
  have hg:=hA3 p hp e he
  unfold En.good at hg
  simp only[Qd,QF] at hg
  exact⟨hg.1.2,((Tb _).1 hg.1.1.1.1.1.1).1⟩
 refine⟨hA2,fun p hp e he=>(hg p hp e he).1,fun e he=>?_⟩
 unfold VH at he
 obtain⟨p,hp,he⟩:=QO.1 he
 exact(hg p hp e he).2
theorem spot_mem{js:List (AV × List En)}{z:Sp}(hz:z∈Vq js):z.2.2∈VH js:=by
 rw[<-U7];exact Q6.2 ⟨z,hz,rfl⟩
theorem fit_of{k:Nat}{N:Int}{ps:List Int}{js:List (AV × List En)}(hA:JK k N js=true)(hf:KC k ps (Vq js)):YP (VH js)/\∀ e∈VH js,0<=e.leaf/\e.leaf < (k:Int):=by
 obtain⟨g1,g2,g3⟩:=good_of hA
 have h1:=hf.fitE fun z hz=>⟨g3 _ (spot_mem hz),by
  have h:=spot_mem hz
  unfold VH at h
  obtain⟨p,hp,he⟩:=QO.1 h
  exact g2 p hp _ he⟩
 rw[U7] at h1
 refine⟨h1,fun e he=>⟨g3 e he,?_⟩⟩
 rw[<-U7] at he
 obtain⟨z,hz,rfl⟩:=Q6.1 he
 obtain⟨a,b,h⟩:=KS hz
 exact(Ut (hf a z b h)).1
theorem order_of{k:Nat}{N:Int}{ps:List Int}{js:List (AV × List En)}(hA:JK k N js=true)(hf:KC k ps (Vq js)):YB (VH js) (Yb (Vq js)).2/\(Yb (Vq js)).2.length<=4000:=by
 have hF:=(fit_of hA hf).1
 unfold Yb
 rw[U7]
 have h:=UL hF (Wn (V6 (VH js))).length (Wn (V6 (VH js))) [] (by rw[QG];exact(WA _).nodup_iff.2 (Wu _)) (Y9.nil _) (YB.nil _)
 refine⟨h.1,?_⟩
 have h1:=h.2.2.length_eq
 rw[QG,QJ] at h1
 have h2:=(WA (V6 (VH js))).length_eq
 have h3:∀ l:List En,(V6 l).length<=l.length:=fun l=>by
  induction l using JS with
  | nil=>simp[V6]
  | snoc l x ih=>
   rw[Yp]
   split
   ·simp;omega
   ·simp;omega
 have h4:=h3 (VH js)
 have h5:=(good_of hA).1
 rw[allE_len] at h4
 omega
set_option maxHeartbeats 1000000 in
theorem order_run{Γ:Gam}{n:Nat}{DF:Nat->List AV->St->DM->Option (DM × St)}{st stS:St}{lv pv jv:AV}{ls:List (List AV)}{ps:List Int}{N:Int}{js:List (AV × List En)}
  (h6:(Γ.cg Y0).fn 6 [] st=.ret (.bool true) stS) (hfn:∀ f args s,f≠6->(Γ.cg Y0).fn f args s=R n Y0 f args s)
  (hl:SlN 1 (fun _=>False) stS lv ls) (hp:SlI (fun _=>False) stS pv ps) (hj:YQ (fun _=>False) stS jv js) (hn:fzJ js+ps.length+50000<=n):
  ∃ st',WK Γ Y0 n DF wf3 [.agg [lv,pv,.int .i64 N],jv] st=.ret (.bool true) st':=by
 obtain⟨m,rfl⟩:∃ m,n=m+5:=⟨n - 5,by omega⟩
 have hF:∀ i,(fun _:Nat=>False) i->i < stS.next:=fun _ h=>h.elim
 obtain⟨b7,c7⟩:=little_run hj (m+4) Y0 (by have:=UT js;omega)
 have c7:(Γ.cg Y0).fn 7 [jv] stS=.ret (.bool b7) stS:=by rw[hfn _ _ _ (by decide)];exact c7
 have c8:=isPlan_run hl hp (N:=N) (m+4) Y0 (by omega)
 have c8:(Γ.cg Y0).fn 8 [.agg [lv,pv,.int .i64 N]] stS=.ret (.bool (planB ls.length ps N)) stS:=by rw[hfn _ _ _ (by decide)];exact c8
 cases b7 with
 | false=>
  obtain⟨fA87,hA87⟩:∃ fA,fA=Vo 0 [.agg [lv,pv,.int .i64 N],jv] Fr.nil:=⟨_,rfl⟩
  have gA87_0:=gAt hA87 0
  have gA87_1:=gAt hA87 1
  have dA87:fA87.ds=[]:=by rw[hA87];rfl
  obtain⟨J88,H88,O88_2,O88_4⟩:∃ fr',Vj (Γ.cg Y0) KL fA87 st=.ok fr' st/\fr'.get 2=some (.fptr [lv,pv,.int .i64 N] 0)/\fr'.get 4=some (.bool false):=⟨_,by simp only[amE,rQ,↓reduceIte,rA,gA87_0,KL]<;>rfl,gn gh,gh⟩
  have V88_1:=ag H88 gA87_1
  have W88:=ad H88 dA87
  obtain⟨J89,H89,O89_22⟩:∃ fr',Vj (Γ.cg Y0) KQ J88 st=.ok fr' stS/\fr'.get 22=some (.bool false):=⟨_,by simp only[amE,rQ,↓reduceIte,rA,KQ,h6,unN,Qc,Qb,Qc,Qb]<;>rfl,gh⟩
  have V89_1:=ag H89 V88_1
  have V89_2:=ag H89 O88_2
  have W89:=ad H89 W88
  obtain⟨J90,H90,O90_36⟩:∃ fr',Vj (Γ.cg Y0) KT J89 stS=.ok fr' stS/\fr'.get 36=some (.bool true):=⟨_,by simp only[amE,rQ,↓reduceIte,rA,V89_1,V89_2,KT,c7,unN,Qc,Qb,Qc,Qb]<;>rfl,gh⟩
  have W90:=ad H90 W89
  obtain⟨J91,H91,O91_4⟩:∃ fr',Vj (Γ.cg Y0) wg3_4 J90 stS=.ok fr' stS/\fr'.get 4=some (.bool true):=⟨_,by simp only[amE,rQ,↓reduceIte,rA,wg3_4]<;>rfl,gh⟩
  have W91:=ad H91 W90
  refine⟨stS,TL (mf:=wf3) (fr:=J91) rfl (.inl ?q91) W91 (by simp only[wf3,amE,O91_4])⟩
  case q91=>
   rw[<-hA87]
   simp only[amE,rQ,↓reduceIte,rA,wf3,b00,b11,b22,b33,b44,b55,b66,b77,b88,b99,bAA,Jb,H88,H89,H90,H91,O89_22,O90_36]
 | true=>
 cases hpl:planB ls.length ps N with
 | false=>
  rw[hpl] at c8
  obtain⟨fA92,hA92⟩:∃ fA,fA=Vo 0 [.agg [lv,pv,.int .i64 N],jv] Fr.nil:=⟨_,rfl⟩
  have gA92_0:=gAt hA92 0
  have gA92_1:=gAt hA92 1
  have dA92:fA92.ds=[]:=by rw[hA92];rfl
  obtain⟨J93,H93,O93_2,O93_4⟩:∃ fr',Vj (Γ.cg Y0) KL fA92 st=.ok fr' st/\fr'.get 2=some (.fptr [lv,pv,.int .i64 N] 0)/\fr'.get 4=some (.bool false):=⟨_,by simp only[amE,rQ,↓reduceIte,rA,gA92_0,KL]<;>rfl,gn gh,gh⟩
  have V93_1:=ag H93 gA92_1
  have W93:=ad H93 dA92
  obtain⟨J94,H94,O94_22⟩:∃ fr',Vj (Γ.cg Y0) KQ J93 st=.ok fr' stS/\fr'.get 22=some (.bool false):=⟨_,by simp only[amE,rQ,↓reduceIte,rA,KQ,h6,unN,Qc,Qb,Qc,Qb]<;>rfl,gh⟩
  have V94_1:=ag H94 V93_1
  have V94_2:=ag H94 O93_2
  have W94:=ad H94 W93
  obtain⟨J95,H95,O95_36⟩:∃ fr',Vj (Γ.cg Y0) KT J94 stS=.ok fr' stS/\fr'.get 36=some (.bool true):=⟨_,by simp only[amE,rQ,↓reduceIte,rA,V94_1,V94_2,KT,c7,Jh,c8,unN,Qc,Qb,Qc,Qb]<;>rfl,gh⟩
  have W95:=ad H95 W94
  obtain⟨J96,H96,O96_4⟩:∃ fr',Vj (Γ.cg Y0) wg3_4 J95 stS=.ok fr' stS/\fr'.get 4=some (.bool true):=⟨_,by simp only[amE,rQ,↓reduceIte,rA,wg3_4]<;>rfl,gh⟩
  have W96:=ad H96 W95
  refine⟨stS,TL (mf:=wf3) (fr:=J96) rfl (.inl ?q96) W96 (by simp only[wf3,amE,O96_4])⟩
  case q96=>
   rw[<-hA92]
   simp only[amE,rQ,↓reduceIte,rA,wf3,b00,b11,b22,b33,b44,b55,b66,b77,b88,b99,bAA,Jb,H93,H94,H95,H96,O94_22,O95_36]
 | true=>
 rw[hpl] at c8
 obtain⟨s9,c9,k9⟩:=areJ_run hl hj (N:=N) hF (m+3) Y0 (by omega)
 have c9:(Γ.cg Y0).fn 9 [.agg [lv,pv,.int .i64 N],jv] stS=.ret (.bool (JK ls.length N js)) s9:=by rw[hfn _ _ _ (by decide)];exact c9
 cases hA:JK ls.length N js with
 | false=>
  rw[hA] at c9
  obtain⟨fA97,hA97⟩:∃ fA,fA=Vo 0 [.agg [lv,pv,.int .i64 N],jv] Fr.nil:=⟨_,rfl⟩
  have gA97_0:=gAt hA97 0
  have gA97_1:=gAt hA97 1
  have dA97:fA97.ds=[]:=by rw[hA97];rfl
  obtain⟨J98,H98,O98_2,O98_4⟩:∃ fr',Vj (Γ.cg Y0) KL fA97 st=.ok fr' st/\fr'.get 2=some (.fptr [lv,pv,.int .i64 N] 0)/\fr'.get 4=some (.bool false):=⟨_,by simp only[amE,rQ,↓reduceIte,rA,gA97_0,KL]<;>rfl,gn gh,gh⟩
  have V98_1:=ag H98 gA97_1
  have W98:=ad H98 dA97
  obtain⟨J99,H99,O99_22⟩:∃ fr',Vj (Γ.cg Y0) KQ J98 st=.ok fr' stS/\fr'.get 22=some (.bool false):=⟨_,by simp only[amE,rQ,↓reduceIte,rA,KQ,h6,unN,Qc,Qb,Qc,Qb]<;>rfl,gh⟩
  have V99_1:=ag H99 V98_1
  have V99_2:=ag H99 O98_2
  have W99:=ad H99 W98
  obtain⟨J100,H100,O100_36⟩:∃ fr',Vj (Γ.cg Y0) KT J99 stS=.ok fr' s9/\fr'.get 36=some (.bool true):=⟨_,by simp only[amE,rQ,↓reduceIte,rA,V99_1,V99_2,KT,c7,Jh,c8,c9,unN,Qc,Qb,Qc,Qb]<;>rfl,gh⟩
  have W100:=ad H100 W99
  obtain⟨J101,H101,O101_4⟩:∃ fr',Vj (Γ.cg Y0) wg3_4 J100 s9=.ok fr' s9/\fr'.get 4=some (.bool true):=⟨_,by simp only[amE,rQ,↓reduceIte,rA,wg3_4]<;>rfl,gh⟩
  have W101:=ad H101 W100
  refine⟨s9,TL (mf:=wf3) (fr:=J101) rfl (.inl ?q101) W101 (by simp only[wf3,amE,O101_4])⟩
  case q101=>
   rw[<-hA97]
   simp only[amE,rQ,↓reduceIte,rA,wf3,b00,b11,b22,b33,b44,b55,b66,b77,b88,b99,bAA,Jb,H98,H99,H100,H101,O99_22,O100_36]
 | true=>
 rw[hA] at c9
 have hP:ps.length=ls.length/\ls.length<=24:=by
  unfold planB at hpl
  simp only[Qd,QF] at hpl
  exact⟨hpl.1.2,hpl.1.1.2⟩
 have hno:∀ s s':St,Vs (fun _=>False) s s':=fun _ _ _ h=>h.elim
 obtain⟨s10,mv,r,c10,k10,hM⟩:=merge10_run (hl.mono (hno stS s9) fun _ h=>h) (hp.mono (hno stS s9) fun _ h=>h) (hj.mono (hno stS s9) fun _ h=>h) (fun _ h=>h.elim) hP.1 hA m Y0 (by omega) hP.2 hpl
 have c10:(Γ.cg Y0).fn 10 [.agg [lv,pv,.int .i64 N],jv] s9=.ret (.tuple [mv,.agg r,ZI 0]) s10:=by rw[hfn _ _ _ (by decide)];exact c10
 obtain⟨ra,rb,rc,hr⟩:∃ ra rb rc:Int,r=[.int .i64 ra,.int .i64 rb,.int .i64 rc]:=by
  rcases hM with⟨_,h,_⟩|⟨_,_,_,_,_,_,h⟩<;>exact⟨_,_,_,h⟩
 rw[hr] at c10
 have sto:Vt 3 (s10.new (.row [Z0,Z0,Z0])) (.ptr s10.next 0) (.agg [.int .i64 ra,.int .i64 rb,.int .i64 rc])=some ((s10.new (.row [Z0,Z0,Z0])).put s10.next (.row [.int .i64 ra,.int .i64 rb,.int .i64 rc])):=VQ rfl rfl rfl
 obtain⟨s11,hs11⟩:∃ s11,s11=(s10.new (.row [Z0,Z0,Z0])).put s10.next (.row [.int .i64 ra,.int .i64 rb,.int .i64 rc]):=⟨_,rfl⟩
 rw[<-hs11] at sto
 have n11:s11.next=s10.next+1:=by rw[hs11];rfl
 have k11:Vd s10 s11:=by rw[hs11];exact(Vd.refl s10).newput _ _
 have g11:s11.get s10.next=some (.row [.int .i64 ra,.int .i64 rb,.int .i64 rc]):=by rw[hs11,St.get_put,Qm rfl]
 have l0:Vf false 1 s11 (.ptr s10.next 0)=some (.int .i64 ra):=Vk g11 rfl
 have n00:Vr false .neq Z0 Z0=some (.bool false):=rfl
 have e00:Vr false .eql Z0 Z0=some (.bool true):=rfl
 have hln0:(bif VD 0 .nilsl then Wm s11 .nilsl else none)=some Z0:=rfl
 rcases hM with⟨hok,hz,PS,rows,hps,hsl,hrl,hmv,hPM⟩|⟨hok,hmn,kd,p,i,hkd,hz⟩
 ·have hra:ra=.ofNat 0:=by rw[hr] at hz;injection hz with h _;injection h
  have hne:=n00
  obtain⟨s12,hs12⟩:∃ s12,s12=s11.new (.row (Vw ls.length fun _=>0)):=⟨_,rfl⟩
  have mk8:=mslA hP.2 s11
  rw[<-hs12] at mk8
  have n12:s12.next=s11.next+1:=by rw[hs12];rfl
  have k12:Vd s11 s12:=by rw[hs12];exact Vd.new _ _
  have T12:s12.get s11.next=some (.row (Vw ls.length fun _=>0)):=by rw[hs12,St.get_new,Qm rfl]
  have hll:(bif VD 0 lv then Wm s11 lv else none)=some (ZI ls.length):=hl.len s11
  have hml:(bif VD 0 mv then Wm s12 mv else none)=some (ZI PS.length):=by rw[<-hrl];exact hsl.len s12
  obtain⟨hord,hpn⟩:=order_of hA hok.1
  rw[<-hps] at hord hpn
  rw[Qu] at hpn
  obtain⟨g1,g2,_⟩:=good_of hA
  have g4:=(fit_of hA hok.1).2
  subst hra
  obtain⟨fA102,hA102⟩:∃ fA,fA=Vo 0 [.agg [lv,pv,.int .i64 N],jv] Fr.nil:=⟨_,rfl⟩
  have gA102_0:=gAt hA102 0
  have gA102_1:=gAt hA102 1
  have dA102:fA102.ds=[]:=by rw[hA102];rfl
  obtain⟨J103,H103,O103_2,O103_4⟩:∃ fr',Vj (Γ.cg Y0) KL fA102 st=.ok fr' st/\fr'.get 2=some (.fptr [lv,pv,.int .i64 N] 0)/\fr'.get 4=some (.bool false):=⟨_,by simp only[amE,rQ,↓reduceIte,rA,gA102_0,KL]<;>rfl,gn gh,gh⟩
  have V103_1:=ag H103 gA102_1
  have W103:=ad H103 dA102
  obtain⟨J104,H104,O104_22⟩:∃ fr',Vj (Γ.cg Y0) KQ J103 st=.ok fr' stS/\fr'.get 22=some (.bool false):=⟨_,by simp only[amE,rQ,↓reduceIte,rA,KQ,h6,unN,Qc,Qb,Qc,Qb]<;>rfl,gh⟩
  have V104_1:=ag H104 V103_1
  have V104_2:=ag H104 O103_2
  have W104:=ad H104 W103
  obtain⟨J105,H105,O105_36⟩:∃ fr',Vj (Γ.cg Y0) KT J104 stS=.ok fr' s9/\fr'.get 36=some (.bool false):=⟨_,by simp only[amE,rQ,↓reduceIte,rA,V104_1,V104_2,KT,c7,Jh,c8,c9,unN,Qc,Qb,Qc,Qb]<;>rfl,gh⟩
  have V105_1:=ag H105 V104_1
  have V105_2:=ag H105 V104_2
  have W105:=ad H105 W104
  obtain⟨J106,H106,O106_5,O106_6,O106_7⟩:∃ fr',Vj (Γ.cg Y0) wg3_5 J105 s9=.ok fr' s11/\fr'.get 5=some (mv)/\fr'.get 6=some (.ptr s10.next 0)/\fr'.get 7=some Z0:=⟨_,by simp only[amE,rQ,↓reduceIte,rA,V105_1,V105_2,wg3_5,Jh,c10,extr0,extr1,extr2,sto]<;>rfl,gn gh,gn (gn gh),gh⟩
  have V106_1:=ag H106 V105_1
  have V106_2:=ag H106 V105_2
  have W106:=ad H106 W105
  obtain⟨J107,H107,O107_50⟩:∃ fr',Vj (Γ.cg Y0) wg3_6 J106 s11=.ok fr' s11/\fr'.get 50=some (.bool false):=⟨_,by simp only[amE,rQ,↓reduceIte,rA,O106_6,O106_7,wg3_6,faP,l0,n00,Qc,Qb]<;>rfl,gh⟩
  have V107_1:=ag H107 V106_1
  have V107_2:=ag H107 V106_2
  have V107_5:=ag H107 O106_5
  have W107:=ad H107 W106
  obtain⟨J108,H108,O108_8⟩:∃ fr',Vj (Γ.cg Y0) wg3_8 J107 s11=.ok fr' s12/\fr'.get 8=some (.own s11.next 0 ls.length 1 (some ls.length) 0):=⟨_,by simp only[amE,rQ,↓reduceIte,rA,V107_2,wg3_8,faF,YV,hll,mk8,OpR.of2,nd_mksl]<;>rfl,gh⟩
  have V108_1:=ag H108 V107_1
  have V108_5:=ag H108 V107_5
  have W108:=ad H108 W107
  obtain⟨J109,H109,O109_62,O109_63,O109_64⟩:∃ fr',Vj (Γ.cg Y0) wg3_9 J108 s12=.ok fr' s12/\fr'.get 62=some (mv)/\fr'.get 63=some (ZI PS.length)/\fr'.get 64=some Z0:=⟨_,by simp only[amE,rQ,↓reduceIte,rA,V108_5,wg3_9,hml]<;>rfl,gn (gn gh),gn gh,gh⟩
  have V109_1:=ag H109 V108_1
  have V109_8:=ag H109 O108_8
  have W109:=ad H109 W108
  obtain⟨FR,s13,hL,kL⟩:=moves3_run (Γ:=Γ) (n:=m+5) (T:=s11.next) (lo:=s9.next) (k:=ls.length) hfn (hj.mono (hno stS s12) fun _ h=>h) (fun _ h=>h.elim) g1 (by omega) g2
   (hsl.mono (fun i hi=>by rw[k12.2 i (by omega),k11.2 i (by omega)]) fun i hi=>⟨hi.1,by omega⟩) hrl hpn
   (fun j x ys hx hy=>by
    obtain⟨sv,xv,cs,rfl,_,_,hd⟩:=hmv j x ys hx hy
    match cs,hd.cells3.1 with
    | [a,b,c],_=>exact⟨_,_,_,_,_,rfl⟩)
   (fun x hx=>by
    obtain⟨_,p2,_,p4,_,_,_,p8⟩:=hPM x hx
    refine⟨by rw[p2,U7],?_,by omega⟩
    rw[k12.2 _ (by omega),k11.2 _ (by omega)];exact p4)
   T12 (by omega) hord g4 (fr:=J109) V109_1 V109_8 O109_62 O109_63 O109_64
  have dL:=kL.1.trans W109
  obtain⟨J111,H111,O111_4⟩:∃ fr',Vj (Γ.cg Y0) wg3_39 FR s13=.ok fr' s13/\fr'.get 4=some (.bool true):=⟨_,by simp only[amE,rQ,↓reduceIte,rA,wg3_39]<;>rfl,gh⟩
  have W111:=ad H111 dL
  refine⟨s13,TL (mf:=wf3) (fr:=J111) rfl (.inl ?q111) W111 (by simp only[wf3,amE,O111_4])⟩
  case q111=>
   rw[<-hA102]
   simp only[amE,rQ,↓reduceIte,rA,wf3,b00,b11,b22,b33,b44,b55,b66,b77,b88,b99,bAA,Jb,H103,H104,H105,H106,H107,H108,H109,hL,H111,O104_22,O105_36,O107_50]
 ·have hra:ra=.ofNat kd:=by rw[hr] at hz;injection hz with h _;injection h
  subst hra
  have nek:Vr false .neq (ZI kd) Z0=some (.bool true):=by
   show some (AV.bool (Int.ofNat kd != Int.ofNat 0))=_
   congr 2
   cases kd with
   | zero=>exact absurd rfl hkd
   | succ k=>rfl
  subst hmn
  obtain⟨fA112,hA112⟩:∃ fA,fA=Vo 0 [.agg [lv,pv,.int .i64 N],jv] Fr.nil:=⟨_,rfl⟩
  have gA112_0:=gAt hA112 0
  have gA112_1:=gAt hA112 1
  have dA112:fA112.ds=[]:=by rw[hA112];rfl
  obtain⟨J113,H113,O113_2,O113_4⟩:∃ fr',Vj (Γ.cg Y0) KL fA112 st=.ok fr' st/\fr'.get 2=some (.fptr [lv,pv,.int .i64 N] 0)/\fr'.get 4=some (.bool false):=⟨_,by simp only[amE,rQ,↓reduceIte,rA,gA112_0,KL]<;>rfl,gn gh,gh⟩
  have V113_1:=ag H113 gA112_1
  have W113:=ad H113 dA112
  obtain⟨J114,H114,O114_22⟩:∃ fr',Vj (Γ.cg Y0) KQ J113 st=.ok fr' stS/\fr'.get 22=some (.bool false):=⟨_,by simp only[amE,rQ,↓reduceIte,rA,KQ,h6,unN,Qc,Qb,Qc,Qb]<;>rfl,gh⟩
  have V114_1:=ag H114 V113_1
  have V114_2:=ag H114 O113_2
  have W114:=ad H114 W113
  obtain⟨J115,H115,O115_36⟩:∃ fr',Vj (Γ.cg Y0) KT J114 stS=.ok fr' s9/\fr'.get 36=some (.bool false):=⟨_,by simp only[amE,rQ,↓reduceIte,rA,V114_1,V114_2,KT,c7,Jh,c8,c9,unN,Qc,Qb,Qc,Qb]<;>rfl,gh⟩
  have V115_1:=ag H115 V114_1
  have V115_2:=ag H115 V114_2
  have W115:=ad H115 W114
  obtain⟨J116,H116,O116_5,O116_6,O116_7⟩:∃ fr',Vj (Γ.cg Y0) wg3_5 J115 s9=.ok fr' s11/\fr'.get 5=some (.nilsl)/\fr'.get 6=some (.ptr s10.next 0)/\fr'.get 7=some Z0:=⟨_,by simp only[amE,rQ,↓reduceIte,rA,V115_1,V115_2,wg3_5,Jh,c10,extr0,extr1,extr2,sto]<;>rfl,gn gh,gn (gn gh),gh⟩
  have W116:=ad H116 W115
  obtain⟨J117,H117,O117_50⟩:∃ fr',Vj (Γ.cg Y0) wg3_6 J116 s11=.ok fr' s11/\fr'.get 50=some (.bool true):=⟨_,by simp only[amE,rQ,↓reduceIte,rA,O116_6,O116_7,wg3_6,faP,l0,n00,nek,Qc,Qb]<;>rfl,gh⟩
  have V117_5:=ag H117 O116_5
  have V117_7:=ag H117 O116_7
  have W117:=ad H117 W116
  obtain⟨J118,H118,O118_4⟩:∃ fr',Vj (Γ.cg Y0) wg3_7 J117 s11=.ok fr' s11/\fr'.get 4=some (.bool true):=⟨_,by simp only[amE,rQ,↓reduceIte,rA,V117_5,V117_7,wg3_7,e00,hln0,Qc,Qb]<;>rfl,gh⟩
  have W118:=ad H118 W117
  refine⟨s11,TL (mf:=wf3) (fr:=J118) rfl (.inl ?q118) W118 (by simp only[wf3,amE,O118_4])⟩
  case q118=>
   rw[<-hA112]
   simp only[amE,rQ,↓reduceIte,rA,wf3,b00,b11,b22,b33,b44,b55,b66,b77,b88,b99,bAA,Jb,H113,H114,H115,H116,H117,H118,O114_22,O115_36,O117_50]
end Go.AM.D32
