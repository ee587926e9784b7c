import Derived.Test.YtejdliehekjicaaGreatAwWa24
set_option maxRecDepth 100000
set_option linter.unusedSimpArgs false
namespace Go.AM.D32
open Go Go.AM
noncomputable section
open Nat renaming reduceEqDiff -> rQ, reduceAdd -> rA
theorem U7(js:List (AV × List En)):ens (Vq js)=VH js:=by
 unfold ens Vq VH
 have h1:∀(p:Nat) (l:List En),(row p l).map (fun z=>z.2.2)=l:=fun p l=>by
  unfold row
  rw[Xq]
  have h:∀(l:List En) (k:Nat),(l.zipIdx k).map ((fun z:Nat × Nat × En=>z.2.2) ∘ fun x=>(p,x.2,x.1))=l:=fun l=>by
   induction l with
   | nil=>intro k;rfl
   | cons a l ih=>intro k;simp only[Zd,Q4,ih];rfl
  exact h l 0
 have h2:∀(l:List (AV × List En)) (k:Nat),((l.zipIdx k).flatMap fun x=>row x.2 x.1.2).map (fun z=>z.2.2)=l.flatMap (·.2):=fun l=>by
  induction l with
  | nil=>intro k;rfl
  | cons a l ih=>intro k;simp only[Zd,Xa,QQ,h1,ih]
 exact h2 js 0
def KL:List Vc:=[ZO 2 (.box true (.t 0)),ZM 4 (ZB false)]
def KQ:List Vc:=[ZX 21 6 [],ZO 22 (.un .not (.t 21))]
def wg3_2:List Vc:=[ZM 4 (ZB false)]
def KT:List Vc:=[ZV 23 1,ZX 24 7 [(.t 23)],ZO 25 (.un .not (.t 24)),ZV 26 25,ZG 27 (.load true 3 (.t 2)) 26 false,ZG 28 (.call (.c (.func (.func 8) [] [])) [(.t 27)]) 26 false,ZG 29 (.un .not (.t 28)) 26 false,ZO 30 (.pick (.t 26) (ZB true) (.t 29)),ZV 31 30,ZG 32 (.load true 3 (.t 2)) 31 false,ZG 33 (.mv (.t 1)) 31 false,ZG 34 (.call (.c (.func (.func 9) [] [])) [(.t 32),(.t 33)]) 31 false,ZG 35 (.un .not (.t 34)) 31 false,ZO 36 (.pick (.t 31) (ZB true) (.t 35))]
def wg3_4:List Vc:=[ZM 4 (ZB true)]
def wg3_5:List Vc:=[ZK 38 3 2,ZV 39 1,ZX 40 10 [(.t 38),(.t 39)],ZV 37 40,ZO 41 (.extract 0 (.t 37)),ZO 42 (.extract 1 (.t 37)),ZO 43 (.extract 2 (.t 37)),ZO 6 (.alloc [Z0,Z0,Z0]),ZV 5 41,ZS 3 6 42,ZV 7 43]
def wg3_6:List Vc:=[ZV 44 7,ZO 45 (.bin false .neq (.t 44) (ZC 0)),ZV 46 45,ZG 47 (.faddr 0 (.t 6)) 46 false,ZG 48 (.load false 1 (.t 47)) 46 false,ZG 49 (.bin false .neq (.t 48) (ZC 0)) 46 false,ZO 50 (.pick (.t 46) (ZB true) (.t 49))]
def wg3_7:List Vc:=[ZV 51 7,ZO 52 (.bin false .eql (.t 51) (ZC 0)),ZV 53 52,ZG 54 (.mv (.t 5)) 53 true,ZG 55 (.len 0 (.t 54)) 53 true,ZG 56 (.bin false .eql (.t 55) (ZC 0)) 53 true,ZO 57 (.pick (.t 53) (.t 56) (ZB false)),ZV 4 57]
def wg3_8:List Vc:=[ZA 58 0 2,ZL 59 58,ZN 60 59,ZO 61 (.mksl 8 1 [Z0] (.t 60) (.t 60)),ZV 8 61]
def wg3_9:List Vc:=[ZV 62 5,ZN 63 62,ZM 64 (ZC 0)]
def wg3_10:List Vc:=[ZO 65 (.bin false .lss (.t 64) (.t 63))]
def wg3_11:List Vc:=[ZP 66 7 62 64,ZK 67 7 66,ZO 10 (.alloc [Z0,Z0,.nilsl,Z0,.nilsl,.nilsl,.nilsl]),ZS 7 10 67]
def wg3_12:List Vc:=[ZA 68 6 10,ZL 69 68,ZN 70 69,ZM 71 (ZC 0)]
def wg3_13:List Vc:=[ZO 72 (.bin false .lss (.t 71) (.t 70))]
def wg3_14:List Vc:=[ZP 73 2 69 71,ZK 74 2 73,ZO 12 (.alloc [Z0,Z0]),ZS 2 12 74]
def wg3_15_0:List Vc:=[ZA 75 0 12,ZL 76 75,ZO 77 (.bin false .lss (.t 76) (ZC 0)),ZV 78 77,ZG 79 (.faddr 0 (.t 12)) 78 false,ZG 80 (.load false 1 (.t 79)) 78 false,ZG 81 (.mv (.t 8)) 78 false,ZG 82 (.len 0 (.t 81)) 78 false,ZG 83 (.bin false .geq (.t 80) (.t 82)) 78 false,ZO 84 (.pick (.t 78) (ZB true) (.t 83))]
def wg3_15_1:List Vc:=[ZV 85 84,ZG 86 (.faddr 1 (.t 12)) 85 false,ZG 87 (.load false 1 (.t 86)) 85 false,ZG 88 (.mv (.t 8)) 85 false,ZG 89 (.faddr 0 (.t 12)) 85 false,ZG 90 (.load false 1 (.t 89)) 85 false,ZG 91 (.iaddr 1 (.t 88) (.t 90)) 85 false,ZG 92 (.load false 1 (.t 91)) 85 false,ZG 93 (.bin false .neq (.t 87) (.t 92)) 85 false,ZO 94 (.pick (.t 85) (ZB true) (.t 93))]
def wg3_15:List (Vc × Nat):=[(ZA 75 0 12,0),(ZL 76 75,1),(ZO 77 (.bin false .lss (.t 76) (ZC 0)),3),(ZV 78 77,7),(ZG 79 (.faddr 0 (.t 12)) 78 false,15),(ZG 80 (.load false 1 (.t 79)) 78 false,31),(ZG 81 (.mv (.t 8)) 78 false,15),(ZG 82 (.len 0 (.t 81)) 78 false,79),(ZG 83 (.bin false .geq (.t 80) (.t 82)) 78 false,255),(ZO 84 (.pick (.t 78) (ZB true) (.t 83)),511),(ZV 85 84,1023),(ZG 86 (.faddr 1 (.t 12)) 85 false,2047),(ZG 87 (.load false 1 (.t 86)) 85 false,4095),(ZG 88 (.mv (.t 8)) 85 false,2047),(ZG 89 (.faddr 0 (.t 12)) 85 false,2047),(ZG 90 (.load false 1 (.t 89)) 85 false,18431),(ZG 91 (.iaddr 1 (.t 88) (.t 90)) 85 false,59391),(ZG 92 (.load false 1 (.t 91)) 85 false,124927),(ZG 93 (.bin false .neq (.t 87) (.t 92)) 85 false,262143),(ZO 94 (.pick (.t 85) (ZB true) (.t 93)),524287)]
def wg3_16:List Vc:=[ZM 4 (ZB false)]
def wg3_17:List Vc:=[ZO 95 (.bin false .add (.t 71) (ZC 1)),ZV 71 95]
def wg3_18:List Vc:=[ZV 96 1,ZN 97 96,ZM 98 (ZC 0)]
def wg3_19:List Vc:=[ZO 99 (.bin false .lss (.t 98) (.t 97))]
def wg3_20:List Vc:=[ZP 100 1 96 98,ZL 101 100,ZV 14 101]
def wg3_21:List Vc:=[ZV 102 14,ZN 103 102,ZM 104 (ZC 0)]
def TK:List Vc:=[ZO 105 (.bin false .lss (.t 104) (.t 103))]
def wg3_23:List Vc:=[ZP 106 9 102 104,ZK 107 9 106,ZO 16 (.alloc [Z0,Z0,Z0,Z0,.nilsl,Z0,.nilsl,.nilsl,.nilsl]),ZS 9 16 107]
def wg3_24:List Vc:=[ZA 108 2 16,ZL 109 108,ZA 110 0 10,ZL 111 110,ZO 112 (.bin false .neq (.t 109) (.t 111))]
def wg3_25:List Vc:=[ZA 113 8 16,ZL 114 113,ZN 115 114,ZM 116 (ZC 0)]
def wg3_26:List Vc:=[ZO 117 (.bin false .lss (.t 116) (.t 115))]
def wg3_27:List Vc:=[ZV 118 116,ZP 119 1 114 116,ZL 120 119,ZV 17 118,ZV 18 120]
def wg3_28:List Vc:=[ZV 121 18,ZV 122 8,ZV 123 17,ZP 124 1 122 123,ZL 125 124,ZO 126 (.bin false .gtr (.t 121) (.t 125)),ZV 127 126,ZG 128 (.mv (.t 1)) 127 true,ZG 129 (.mv (.t 17)) 127 true,ZG 130 (.call (.c (.func (.func 11) [] [])) [(.t 128),(.t 129)]) 127 true,ZG 131 (.mv (.t 18)) 127 true,ZG 132 (.bin false .geq (.t 130) (.t 131)) 127 true,ZO 133 (.pick (.t 127) (.t 132) (ZB false))]
def wg3_29:List Vc:=[ZM 4 (ZB false)]
def wg3_30:List Vc:=[ZO 134 (.bin false .add (.t 116) (ZC 1)),ZV 116 134]
def wg3_31:List Vc:=[ZO 135 (.bin false .add (.t 104) (ZC 1)),ZV 104 135]
def wg3_32:List Vc:=[ZO 136 (.bin false .add (.t 98) (ZC 1)),ZV 98 136]
def wg3_33:List Vc:=[ZA 137 6 10,ZL 138 137,ZN 139 138,ZM 140 (ZC 0)]
def wg3_34:List Vc:=[ZO 141 (.bin false .lss (.t 140) (.t 139))]
def wg3_35:List Vc:=[ZP 142 2 138 140,ZK 143 2 142,ZO 20 (.alloc [Z0,Z0]),ZS 2 20 143]
def wg3_36:List Vc:=[ZV 144 8,ZA 145 0 20,ZL 146 145,ZP 147 1 144 146,ZL 148 147,ZO 149 (.bin false .add (.t 148) (ZC 1)),ZP 150 1 144 146,ZS 1 150 149]
def wg3_37:List Vc:=[ZO 151 (.bin false .add (.t 140) (ZC 1)),ZV 140 151]
def wg3_38:List Vc:=[ZO 152 (.bin false .add (.t 64) (ZC 1)),ZV 64 152]
def wg3_39:List Vc:=[ZM 4 (ZB true)]
def wl3_0:Vn:=(ZQ wg3_34 (.seq (.cond (.t 141) .skip (.exit 10)) (.seq (.block 11 (ZQ wg3_35 (.region wg3_36))) (.region wg3_37))))
def wl3_1:Vn:=(ZQ wg3_26 (.seq (.cond (.t 117) .skip (.exit 8)) (.seq (.block 9 (ZQ wg3_27 (ZQ wg3_28 (.cond (.t 133) (ZR wg3_29) .skip)))) (.region wg3_30))))
def wl3_2:Vn:=(ZQ TK (.seq (.cond (.t 105) .skip (.exit 6)) (.seq (.block 7 (ZQ wg3_23 (.seq (ZQ wg3_24 (.cond (.t 112) (.exit 7) .skip)) (ZQ wg3_25 (.block 8 (.loop wl3_1)))))) (.region wg3_31))))
def wl3_3:Vn:=(ZQ wg3_19 (.seq (.cond (.t 99) .skip (.exit 4)) (.seq (.block 5 (ZQ wg3_20 (ZQ wg3_21 (.block 6 (.loop wl3_2))))) (.region wg3_32))))
def wl3_4:Vn:=(ZQ wg3_13 (.seq (.cond (.t 72) .skip (.exit 2)) (.seq (.block 3 (ZQ wg3_14 (.seq (.draw wg3_15 []) (.cond (.t 94) (ZR wg3_16) .skip)))) (.region wg3_17))))
def wl3_5:Vn:=(ZQ wg3_10 (.seq (.cond (.t 65) .skip (.exit 0)) (.seq (.block 1 (ZQ wg3_11 (.seq (ZQ wg3_12 (.block 2 (.loop wl3_4))) (.seq (ZQ wg3_18 (.block 4 (.loop wl3_3))) (ZQ wg3_33 (.block 10 (.loop wl3_0))))))) (.region wg3_38))))
def wf3:Vm:=⟨153,(ZQ KL (.seq (ZQ KQ (.cond (.t 22) (ZR wg3_2) .skip)) (.seq (ZQ KT (.cond (.t 36) (ZR wg3_4) .skip)) (ZQ wg3_5 (.seq (ZQ wg3_6 (.cond (.t 50) (ZR wg3_7) .skip)) (ZQ wg3_8 (.seq (ZQ wg3_9 (.block 0 (.loop wl3_5))) (ZR wg3_39)))))))),[.t 4]⟩
theorem t3:tbl 3=some wf3:=by kernel_rfl
theorem b77:Nat.beq 7 7=true:=rfl
theorem b55:Nat.beq 5 5=true:=rfl
set_option maxHeartbeats 1000000 in
theorem chk3_run{Γ:Gam}{n:Nat}{s:St}{fr:Fr}{csl:AV}{cid:Nat}{cl:List (Int × Int)}{T k:Nat}{g:Nat->Nat}(hc:ClS s csl cid cl)(hcl:cl.length < 100000)(hn:cl.length < n)(hk:∀ c∈cl,∃ i:Nat,i < k/\c.1=(i:Int)/\c.2=(g i:Int))(hT:s.get T=some (.row (Vw k g)))(lt:T < s.next/\cid < s.next)
  (g8:fr.get 8=some (.own T 0 k 1 (some k) 0)) (gs:fr.get 69=some csl) (gl:fr.get 70=some (ZI cl.length)) (gi:fr.get 71=some Z0):
  ∃ FR s',Vx (Vh Γ Y0 n wl3_4 none) n fr s=.exit 2 FR s'/\Kq [72,73,74,12,75,76,77,78,79,80,81,82,83,84,85,86,87,88,89,90,91,92,93,94,4,95,71] fr FR/\Vd s s':=by
 have hsl:=hc.sl hcl
 refine Ws (B:=Vh Γ Y0 n wl3_4 none) (N:=cl.length) (Inv:=fun j f s1=>Kq [72,73,74,12,75,76,77,78,79,80,81,82,83,84,85,86,87,88,89,90,91,92,93,94,4,95,71] fr f/\f.get 71=some (ZI j)/\Vd s s1) (Out:=fun r=>∃ FR s',r=.exit 2 FR s'/\Kq [72,73,74,12,75,76,77,78,79,80,81,82,83,84,85,86,87,88,89,90,91,92,93,94,4,95,71] fr FR/\Vd s s') ?_ cl.length 0 fr s n (by omega) (by omega) ⟨Kq.refl.to,gi,Vd.refl s⟩
 intro j f s1 hj ⟨kf,fi,ks⟩
 have f8:=kf.g 8 g8
 have fs:=kf.g 69 gs
 have fl:=kf.g 70 gl
 have hlt:=Wt j cl.length
 by_cases hjN:j < cl.length
 ·have hx:cl[j]?=some cl[j]:=Qn hjN
  generalize cl[j]=c at hx
  obtain⟨i,hik,hi1,hi2⟩:=hk c (Qr hx)
  obtain⟨pe,ie,lde⟩:=hsl.at (k:=j) (x:=[.int .i64 c.1,.int .i64 c.2]) (by rw[Q5,hx];rfl)
  have lde:=lde s1 (fun q hq=>by subst hq;exact ks.2 _ lt.2)
  have had:=WC (i:=j) (by omega)
  have sto:Vt 2 (s1.new (.row [Z0,Z0])) (.ptr s1.next 0) (.agg [.int .i64 c.1,.int .i64 c.2])=some ((s1.new (.row [Z0,Z0])).put s1.next (.row [.int .i64 c.1,.int .i64 c.2])):=VQ rfl rfl rfl
  obtain⟨s2,hs2⟩:∃ s2,s2=(s1.new (.row [Z0,Z0])).put s1.next (.row [.int .i64 c.1,.int .i64 c.2]):=⟨_,rfl⟩
  rw[<-hs2] at sto
  have k2:Vd s1 s2:=by rw[hs2];exact(Vd.refl s1).newput _ _
  have g2:s2.get s1.next=some (.row [.int .i64 c.1,.int .i64 c.2]):=by rw[hs2,St.get_put,Qm rfl]
  have hTs:s2.get T=some (.row (Vw k g)):=((ks.trans k2).2 T lt.1).trans hT
  have l0:Vf false 1 s2 (.ptr s1.next 0)=some (.int .i64 c.1):=Vk g2 rfl
  have l1:Vf false 1 s2 (.ptr s1.next 1)=some (.int .i64 c.2):=Vk g2 rfl
  have ls0:Vr false .lss (.int .i64 c.1) Z0=some (.bool false):=by
   rw[lssI,hi1];first | rfl | (congr 2;exact Qp (by show ¬((i:Int) < ((0:Nat):Int));omega))
  have ge0:Vr false .geq (.int .i64 c.1) (ZI k)=some (.bool false):=by
   rw[geqI,hi1];congr 2;exact Qp (by show ¬((i:Int)>=((k:Nat):Int));omega)
  have ln8:(bif VD 0 (.own T 0 k 1 (some k) 0) then Wm s2 (.own T 0 k 1 (some k) 0) else none)=some (ZI k):=rfl
  have ia:VC 1 (.own T 0 k 1 (some k) 0) (.int .i64 c.1)=some (.ptr T i):=by rw[hi1];exact iaN hik (some k) 0
  have ldT:Vf false 1 s2 (.ptr T i)=some (ZI ((g i))):=Vk hTs (Jv hik)
  have ne:Vr false .neq (.int .i64 c.2) (ZI ((g i)))=some (.bool false):=by
   rw[Yk,hi2];first | rfl | simp
  rw[Qs hjN] at hlt
  obtain⟨J43,H43,O43_72⟩:∃ fr',Vj (Γ.cg Y0) wg3_13 f s1=.ok fr' s1/\fr'.get 72=some (.bool true):=⟨_,by simp only[amE,rQ,↓reduceIte,rA,fl,fi,wg3_13,hlt]<;>rfl,gh⟩
  have V43_8:=ag H43 f8
  have V43_69:=ag H43 fs
  have V43_71:=ag H43 fi
  obtain⟨J44,H44,O44_12⟩:∃ fr',Vj (Γ.cg Y0) wg3_14 J43 s1=.ok fr' s2/\fr'.get 12=some (.ptr s1.next 0):=⟨_,by simp only[amE,rQ,↓reduceIte,rA,V43_69,V43_71,wg3_14,ie,lde,sto]<;>rfl,gh⟩
  have V44_8:=ag H44 V43_8
  have V44_71:=ag H44 V43_71
  obtain⟨J45,H45,O45_84⟩:∃ fr',Vj (Γ.cg Y0) wg3_15_0 J44 s2=.ok fr' s2/\fr'.get 84=some (.bool false):=⟨_,by simp only[amE,rQ,↓reduceIte,rA,V44_8,O44_12,wg3_15_0,faP,l0,ls0,ln8,ge0,Qc,Qb]<;>rfl,gh⟩
  have V45_8:=ag H45 V44_8
  have V45_71:=ag H45 V44_71
  have V45_12:=ag H45 O44_12
  obtain⟨J46,H46,O46_94⟩:∃ fr',Vj (Γ.cg Y0) wg3_15_1 J45 s2=.ok fr' s2/\fr'.get 94=some (.bool false):=⟨_,by simp only[amE,rQ,↓reduceIte,rA,V45_8,V45_12,O45_84,wg3_15_1,faP,l0,l1,ia,ldT,ne,Qc,Qb]<;>rfl,gh⟩
  have V46_71:=ag H46 V45_71
  have H47:VK (Γ.cg Y0) wg3_15 [] J44 s2=.ok J46 s2:=Wj rfl (by show Vj _ (wg3_15_0++wg3_15_1) _ _=_;rw[Yv H45];exact H46)
  obtain⟨J48,H48,O48_71⟩:∃ fr',Vj (Γ.cg Y0) wg3_17 J46 s2=.ok fr' s2/\fr'.get 71=some (ZI ((j+1))):=⟨_,by simp only[amE,rQ,↓reduceIte,rA,V46_71,wg3_17,had]<;>rfl,gh⟩
  have kk:=((((((kf.t (aq H43)).t (aq H44)).t (aq H45)).t (aq H46)).t (aq H48))).to (E:=[72,73,74,12,75,76,77,78,79,80,81,82,83,84,85,86,87,88,89,90,91,92,93,94,4,95,71])
  have hI48:Vh Γ Y0 n wl3_4 none f s1=.norm J48 s2:=by
   simp only[amE,rQ,↓reduceIte,rA,wl3_4,b00,b11,b22,b33,b44,b55,b66,b77,b88,b99,bAA,Jb,H43,H44,H47,H48,O43_72,O46_94]
  rw[hI48]
  exact⟨hjN,kk,O48_71,ks.trans k2⟩
 ·rw[Qp hjN] at hlt
  obtain⟨J49,H49,O49_72⟩:∃ fr',Vj (Γ.cg Y0) wg3_13 f s1=.ok fr' s1/\fr'.get 72=some (.bool false):=⟨_,by simp only[amE,rQ,↓reduceIte,rA,fl,fi,wg3_13,hlt]<;>rfl,gh⟩
  have kk:=((kf.t (aq H49))).to (E:=[72,73,74,12,75,76,77,78,79,80,81,82,83,84,85,86,87,88,89,90,91,92,93,94,4,95,71])
  have hI49:Vh Γ Y0 n wl3_4 none f s1=.exit 2 J49 s1:=by
   simp only[amE,rQ,↓reduceIte,rA,wl3_4,b00,b11,b22,b33,b44,b55,b66,b77,b88,b99,bAA,Jb,H49,O49_72]
  rw[hI49]
  exact⟨_,_,rfl,kk,ks⟩
set_option maxHeartbeats 1000000 in
theorem bump3_run{Γ:Gam}{n:Nat}{s:St}{fr:Fr}{csl:AV}{cid:Nat}{cl:List (Int × Int)}{T k:Nat}{g:Nat->Nat}(hc:ClS s csl cid cl)(hcl:cl.length < 100000)(hn:cl.length < n)(hk:∀ c∈cl,0<=c.1/\c.1 < (k:Int))(hT:s.get T=some (.row (Vw k g)))(hg:∀ i,g i < 1000000000)(lt:T < s.next/\cid < s.next)(n1:T≠cid)
  (g8:fr.get 8=some (.own T 0 k 1 (some k) 0)) (gs:fr.get 138=some csl) (gl:fr.get 139=some (ZI cl.length)) (gi:fr.get 140=some Z0):
  ∃ FR s',Vx (Vh Γ Y0 n wl3_0 none) n fr s=.exit 10 FR s'/\Kq [141,142,143,20,144,145,146,147,148,149,150,151,140] fr FR/\s.next<=s'.next/\s'.get T=some (.row (Vw k fun i=>g i+VB cl i))/\∀ j,j < s.next->j≠T->s'.get j=s.get j:=by
 have hsl:=hc.sl hcl
 refine Ws (B:=Vh Γ Y0 n wl3_0 none) (N:=cl.length) (Inv:=fun j f s1=>Kq [141,142,143,20,144,145,146,147,148,149,150,151,140] fr f/\f.get 140=some (ZI j)/\s.next<=s1.next/\s1.get T=some (.row (Vw k fun i=>g i+VB (cl.take j) i))/\∀ j,j < s.next->j≠T->s1.get j=s.get j)
  (Out:=fun r=>∃ FR s',r=.exit 10 FR s'/\Kq [141,142,143,20,144,145,146,147,148,149,150,151,140] fr FR/\s.next<=s'.next/\s'.get T=some (.row (Vw k fun i=>g i+VB cl i))/\∀ j,j < s.next->j≠T->s'.get j=s.get j) ?_ cl.length 0 fr s n (by omega) (by omega) ⟨Kq.refl.to,gi,Qw _,by simpa [VB] using hT,fun _ _ _=>rfl⟩
 intro j f s1 hj ⟨kf,fi,hn1,hT1,ho⟩
 have f8:=kf.g 8 g8
 have fs:=kf.g 138 gs
 have fl:=kf.g 139 gl
 have hlt:=Wt j cl.length
 by_cases hjN:j < cl.length
 ·have hx:cl[j]?=some cl[j]:=Qn hjN
  generalize cl[j]=c at hx
  obtain⟨hc0,hck⟩:=hk c (Qr hx)
  obtain⟨pe,ie,lde⟩:=hsl.at (k:=j) (x:=[.int .i64 c.1,.int .i64 c.2]) (by rw[Q5,hx];rfl)
  have lde:=lde s1 (fun i hi=>by subst hi;exact ho _ lt.2 (fun e=>n1 e.symm))
  have had:=WC (i:=j) (by omega)
  have sto:Vt 2 (s1.new (.row [Z0,Z0])) (.ptr s1.next 0) (.agg [.int .i64 c.1,.int .i64 c.2])=some ((s1.new (.row [Z0,Z0])).put s1.next (.row [.int .i64 c.1,.int .i64 c.2])):=VQ rfl rfl rfl
  obtain⟨s2,hs2⟩:∃ s2,s2=(s1.new (.row [Z0,Z0])).put s1.next (.row [.int .i64 c.1,.int .i64 c.2]):=⟨_,rfl⟩
  rw[<-hs2] at sto
  have k2:Vd s1 s2:=by rw[hs2];exact(Vd.refl s1).newput _ _
  have n2':s2.next=s1.next+1:=by rw[hs2];rfl
  have g2:s2.get s1.next=some (.row [.int .i64 c.1,.int .i64 c.2]):=by rw[hs2,St.get_put,Qm rfl]
  obtain⟨i,hi⟩:∃ i:Nat,c.1=(i:Int):=⟨c.1.toNat,by omega⟩
  have hik:i < k:=by omega
  have hTs2:s2.get T=some (.row (Vw k fun i=>g i+VB (cl.take j) i)):=by rw[k2.2 _ (by omega)];exact hT1
  have lit:Vf false 1 s2 (.ptr s1.next 0)=some (.int .i64 c.1):=Vk g2 rfl
  have iaT:VC 1 (.own T 0 k 1 (some k) 0) (.int .i64 c.1)=some (.ptr T i):=by rw[hi];exact iaN hik (some k) 0
  have ldT:Vf false 1 s2 (.ptr T i)=some (ZI ((g i+VB (cl.take j) i))):=Vk hTs2 (Jv hik)
  have hcb:=UY (cl.take j) i
  rw[Xl] at hcb
  have hgi:=hg i
  have sm:=addN (i:=g i+VB (cl.take j) i) (j:=1) (by omega)
  have sto2:Vt 1 s2 (.ptr T i) (ZI ((g i+VB (cl.take j) i+1)))=some (s2.put T (.row (Vw k fun i=>g i+VB (cl.take (j+1)) i))):=V4 hTs2 rfl (by
   show setCells _ i [_]=_
   rw[rowN_set hik]
   congr 1;funext q
   rw[QT,hx,Z9,cntC_snoc _ _ i hi]
   by_cases hq:q=i
   ·rw[Qm hq,Qm hq,hq];omega
   ·rw[Qe hq,Qe hq]) (by rw[Jj];omega) rfl
  rw[Qs hjN] at hlt
  obtain⟨J50,H50,O50_141⟩:∃ fr',Vj (Γ.cg Y0) wg3_34 f s1=.ok fr' s1/\fr'.get 141=some (.bool true):=⟨_,by simp only[amE,rQ,↓reduceIte,rA,fl,fi,wg3_34,hlt]<;>rfl,gh⟩
  have V50_8:=ag H50 f8
  have V50_138:=ag H50 fs
  have V50_140:=ag H50 fi
  obtain⟨J51,H51,O51_20⟩:∃ fr',Vj (Γ.cg Y0) wg3_35 J50 s1=.ok fr' s2/\fr'.get 20=some (.ptr s1.next 0):=⟨_,by simp only[amE,rQ,↓reduceIte,rA,V50_138,V50_140,wg3_35,ie,lde,sto]<;>rfl,gh⟩
  have V51_8:=ag H51 V50_8
  have V51_140:=ag H51 V50_140
  obtain⟨J52,H52⟩:∃ fr',Vj (Γ.cg Y0) wg3_36 J51 s2=.ok fr' (s2.put T (.row (Vw k fun i=>g i+VB (cl.take (j+1)) i))):=⟨_,by simp only[amE,rQ,↓reduceIte,rA,V51_8,O51_20,wg3_36,faP,lit,iaT,ldT,sm,sto2]<;>rfl⟩
  have V52_140:=ag H52 V51_140
  obtain⟨J53,H53,O53_140⟩:∃ fr',Vj (Γ.cg Y0) wg3_37 J52 (s2.put T (.row (Vw k fun i=>g i+VB (cl.take (j+1)) i)))=.ok fr' (s2.put T (.row (Vw k fun i=>g i+VB (cl.take (j+1)) i)))/\fr'.get 140=some (ZI ((j+1))):=⟨_,by simp only[amE,rQ,↓reduceIte,rA,V52_140,wg3_37,had]<;>rfl,gh⟩
  have kk:=(((((kf.t (aq H50)).t (aq H51)).t (aq H52)).t (aq H53))).to (E:=[141,142,143,20,144,145,146,147,148,149,150,151,140])
  have hI53:Vh Γ Y0 n wl3_0 none f s1=.norm J53 (s2.put T (.row (Vw k fun i=>g i+VB (cl.take (j+1)) i))):=by
   simp only[amE,rQ,↓reduceIte,rA,wl3_0,b00,b11,b22,b33,b44,b55,b66,b77,b88,b99,bAA,Jb,H50,H51,H52,H53,O50_141]
  rw[hI53]
  exact⟨hjN,kk,O53_140,by show s.next<=s2.next;omega,by rw[St.get_put,Qm rfl],fun q h1 h2=>by rw[St.get_put,Qe h2,k2.2 _ (by omega)];exact ho q h1 h2⟩
 ·rw[Qp hjN] at hlt
  have hjl:j=cl.length:=by omega
  rw[hjl,QH] at hT1
  obtain⟨J54,H54,O54_141⟩:∃ fr',Vj (Γ.cg Y0) wg3_34 f s1=.ok fr' s1/\fr'.get 141=some (.bool false):=⟨_,by simp only[amE,rQ,↓reduceIte,rA,fl,fi,wg3_34,hlt]<;>rfl,gh⟩
  have kk:=((kf.t (aq H54))).to (E:=[141,142,143,20,144,145,146,147,148,149,150,151,140])
  have hI54:Vh Γ Y0 n wl3_0 none f s1=.exit 10 J54 s1:=by
   simp only[amE,rQ,↓reduceIte,rA,wl3_0,b00,b11,b22,b33,b44,b55,b66,b77,b88,b99,bAA,Jb,H54,O54_141]
  rw[hI54]
  exact⟨_,_,rfl,kk,hn1,hT1,ho⟩
set_option maxHeartbeats 1000000 in
theorem seen3_run{Γ:Gam}{n:Nat}(hfn:∀ f args s,f≠6->(Γ.cg Y0).fn f args s=R n Y0 f args s){F:Nat->Prop}{s:St}{fr:Fr}{jv:AV}{js:List (AV × List En)}(hj:YQ F s jv js)(hF:∀ i,F i->i < s.next)(ht:tot js<=4000)(hn:fzJ js+1 < n){e:En}(he:e.ok)(hen:e.seen.length < n){T k:Nat}{g:Nat->Nat}(hek:e.seen.length=k)(hT:s.get T=some (.row (Vw k g)))(lt:T < s.next)
  (hs:∀(i:Nat) (v:Int),e.seen[i]?=some v->¬(v > (g i:Int)/\(VF (VH js) i:Int)>=v))
  (g1:fr.get 1=some jv) (g8:fr.get 8=some (.own T 0 k 1 (some k) 0)) (gs:fr.get 114=some e.ssl) (gl:fr.get 115=some (ZI e.seen.length)) (gi:fr.get 116=some Z0):
  ∃ FR s',Vx (Vh Γ Y0 n wl3_1 none) n fr s=.exit 8 FR s'/\Kq [117,118,119,120,17,18,121,122,123,124,125,126,127,128,129,130,131,132,133,4,134,116] fr FR/\Vd s s':=by
 obtain⟨o1,o2,o3,o4,o5,o6⟩:=he
 have hS:=JA e.snl e.sex e.seen o5 o6 (fun _=>False) s
 obtain⟨m,rfl⟩:∃ m,n=m+1:=⟨n - 1,by omega⟩
 refine Ws (B:=Vh Γ Y0 (m+1) wl3_1 none) (N:=e.seen.length) (Inv:=fun j f s1=>Kq [117,118,119,120,17,18,121,122,123,124,125,126,127,128,129,130,131,132,133,4,134,116] fr f/\f.get 116=some (ZI j)/\Vd s s1) (Out:=fun r=>∃ FR s',r=.exit 8 FR s'/\Kq [117,118,119,120,17,18,121,122,123,124,125,126,127,128,129,130,131,132,133,4,134,116] fr FR/\Vd s s') ?_ e.seen.length 0 fr s (m+1) (by omega) (by omega) ⟨Kq.refl.to,gi,Vd.refl s⟩
 intro j f s1 hj' ⟨kf,fi,ks⟩
 have f1:=kf.g 1 g1
 have f8:=kf.g 8 g8
 have fs:=kf.g 114 gs
 have fl:=kf.g 115 gl
 have hlt:=Wt j e.seen.length
 by_cases hjN:j < e.seen.length
 ·have hx:e.seen[j]?=some e.seen[j]:=Qn hjN
  generalize e.seen[j]=v at hx
  obtain⟨pe,ie,lde⟩:=SlI.at hS hx
  have ie:VC 1 e.ssl (ZI j)=some pe:=ie
  have lde:=lde s1 (fun i hi=>hi.elim)
  have hjk:j < k:=by omega
  have iaT:=iaN (T:=T) hjk (some k) 0
  have ldT:Vf false 1 s1 (.ptr T j)=some (ZI ((g j))):=Vk ((ks.2 T lt).trans hT) (Jv hjk)
  have S1:=Vs.of ks hF
  obtain⟨s2,c11,k11⟩:=total_run (hj.mono S1 fun _ h=>h) (fun i hi=>Qz (hF i hi) ks.1) ht (.ofNat j) m Y0 (by omega)
  have c11:(Γ.cg Y0).fn 11 [jv,ZI j] s1=.ret (ZI ((VF (VH js) (.ofNat j)))) s2:=by rw[hfn _ _ _ (by decide)];exact c11
  have gt:=gtrI v (.ofNat (g j))
  have ge:=geqI (.ofNat (VF (VH js) (.ofNat j))) v
  have hno:=hs j v hx
  have had:=WC (i:=j) (by omega)
  have hB:(decide (v > Int.ofNat (g j))&&decide (Int.ofNat (VF (VH js) (.ofNat j))>=v))=false:=by
   rw[Bool.and_eq_false_iff]
   by_cases h1:v > Int.ofNat (g j)
   ·right;exact Qp fun h2=>hno ⟨h1,h2⟩
   ·left;exact Qp h1
  generalize decide (v > Int.ofNat (g j))=B1 at *
  generalize decide (Int.ofNat (VF (VH js) (.ofNat j))>=v)=B2 at *
  rw[Qs hjN] at hlt
  obtain⟨J55,H55,O55_117⟩:∃ fr',Vj (Γ.cg Y0) wg3_26 f s1=.ok fr' s1/\fr'.get 117=some (.bool true):=⟨_,by simp only[amE,rQ,↓reduceIte,rA,fl,fi,wg3_26,hlt]<;>rfl,gh⟩
  have V55_1:=ag H55 f1
  have V55_8:=ag H55 f8
  have V55_114:=ag H55 fs
  have V55_116:=ag H55 fi
  obtain⟨J56,H56,O56_17,O56_18⟩:∃ fr',Vj (Γ.cg Y0) wg3_27 J55 s1=.ok fr' s1/\fr'.get 17=some (ZI j)/\fr'.get 18=some (.int .i64 v):=⟨_,by simp only[amE,rQ,↓reduceIte,rA,V55_114,V55_116,wg3_27,ie,lde]<;>rfl,gn gh,gh⟩
  have V56_1:=ag H56 V55_1
  have V56_8:=ag H56 V55_8
  have V56_116:=ag H56 V55_116
  obtain⟨J57,sC,H57,K57,qR57,O57_133⟩:∃ fr' s',Vj (Γ.cg Y0) wg3_28 J56 s1=.ok fr' s'/\Kq [133,132,131,130,129,128,127,126,125,124,123,122,121] J56 fr'/\Vd s1 s'/\fr'.get 133=some (.bool (B1&&B2)):=by
   cases B1 with
   | true=>exact⟨_,_,by simp only[amE,rQ,↓reduceIte,rA,V56_1,V56_8,O56_17,O56_18,wg3_28,iaT,ldT,gt,c11,ge,Q3,Q8]<;>rfl,Kq.refl.s.s.s.s.s.s.s.s.s.s.s.s.s,k11,by simp only[Fr.get_set,rQ,↓reduceIte,Q3]⟩
   | false=>exact⟨_,_,by simp only[amE,rQ,↓reduceIte,rA,V56_1,V56_8,O56_17,O56_18,wg3_28,iaT,ldT,gt,c11,ge,Q3,Q8]<;>rfl,Kq.refl.s.s.s.s.s.s.s.s.s.s.s.s.s,Vd.refl _,by simp only[Fr.get_set,rQ,↓reduceIte,Q8]⟩
  rw[hB] at O57_133
  have V57_116:=K57.g 116 V56_116
  have kC:=ks.trans qR57
  obtain⟨J58,H58,O58_116⟩:∃ fr',Vj (Γ.cg Y0) wg3_30 J57 sC=.ok fr' sC/\fr'.get 116=some (ZI ((j+1))):=⟨_,by simp only[amE,rQ,↓reduceIte,rA,V57_116,wg3_30,had]<;>rfl,gh⟩
  have kk:=(((((kf.t (aq H55)).t (aq H56)).t K57).t (aq H58))).to (E:=[117,118,119,120,17,18,121,122,123,124,125,126,127,128,129,130,131,132,133,4,134,116])
  have hI58:Vh Γ Y0 (m+1) wl3_1 none f s1=.norm J58 sC:=by
   simp only[amE,rQ,↓reduceIte,rA,wl3_1,b00,b11,b22,b33,b44,b55,b66,b77,b88,b99,bAA,Jb,H55,H56,H57,H58,O55_117,O57_133]
  rw[hI58]
  exact⟨hjN,kk,O58_116,kC⟩
 ·rw[Qp hjN] at hlt
  obtain⟨J59,H59,O59_117⟩:∃ fr',Vj (Γ.cg Y0) wg3_26 f s1=.ok fr' s1/\fr'.get 117=some (.bool false):=⟨_,by simp only[amE,rQ,↓reduceIte,rA,fl,fi,wg3_26,hlt]<;>rfl,gh⟩
  have kk:=((kf.t (aq H59))).to (E:=[117,118,119,120,17,18,121,122,123,124,125,126,127,128,129,130,131,132,133,4,134,116])
  have hI59:Vh Γ Y0 (m+1) wl3_1 none f s1=.exit 8 J59 s1:=by
   simp only[amE,rQ,↓reduceIte,rA,wl3_1,b00,b11,b22,b33,b44,b55,b66,b77,b88,b99,bAA,Jb,H59,O59_117]
  rw[hI59]
  exact⟨_,_,rfl,kk,ks⟩
set_option maxHeartbeats 1000000 in
theorem ents3_run{Γ:Gam}{n:Nat}(hfn:∀ f args s,f≠6->(Γ.cg Y0).fn f args s=R n Y0 f args s){F:Nat->Prop}{s:St}{fr:Fr}{jv:AV}{js:List (AV × List En)}(hj:YQ F s jv js)(hF:∀ i,F i->i < s.next)(ht:tot js<=4000)(hn:fzJ js+10 < n){T k o:Nat}{g:Nat->Nat}{q:Int}{yr:List AV}(hT:s.get T=some (.row (Vw k g)))(ho:s.get o=some (.row (.int .i64 q::yr)))(lt:T < s.next/\o < s.next)(hek:∀ p∈js,∀ e∈p.2,e.seen.length=k)
  (hs:∀ e∈VH js,e.prop=q->∀(i:Nat) (v:Int),e.seen[i]?=some v->¬(v > (g i:Int)/\(VF (VH js) i:Int)>=v)) {p:AV × List En} (hp:p∈js)
  (g1:fr.get 1=some jv) (g8:fr.get 8=some (.own T 0 k 1 (some k) 0)) (g10:fr.get 10=some (.ptr o 0)) (gs:fr.get 102=some p.1) (gl:fr.get 103=some (ZI p.2.length)) (gi:fr.get 104=some Z0):
  ∃ FR s',Vx (Vh Γ Y0 n wl3_2 none) n fr s=.exit 6 FR s'/\Kq [105,106,107,16,108,109,110,111,112,113,114,115,116,135,104,117,118,119,120,17,18,121,122,123,124,125,126,127,128,129,130,131,132,133,4,134] fr FR/\Vd s s':=by
 obtain⟨e1,e2⟩:=hj.2 p hp
 have heb:=e1.2.2.1
 rw[Qu] at heb
 have hfp:=fzJ_mem hp
 refine Ws (B:=Vh Γ Y0 n wl3_2 none) (N:=p.2.length) (Inv:=fun j f s1=>Kq [105,106,107,16,108,109,110,111,112,113,114,115,116,135,104,117,118,119,120,17,18,121,122,123,124,125,126,127,128,129,130,131,132,133,4,134] fr f/\f.get 104=some (ZI j)/\Vd s s1) (Out:=fun r=>∃ FR s',r=.exit 6 FR s'/\Kq [105,106,107,16,108,109,110,111,112,113,114,115,116,135,104,117,118,119,120,17,18,121,122,123,124,125,126,127,128,129,130,131,132,133,4,134] fr FR/\Vd s s') ?_ p.2.length 0 fr s n (by omega) (by omega) ⟨Kq.refl.to,gi,Vd.refl s⟩
 intro j f s1 hj' ⟨kf,fi,ks⟩
 have f1:=kf.g 1 g1
 have f8:=kf.g 8 g8
 have f10:=kf.g 10 g10
 have fs:=kf.g 102 gs
 have fl:=kf.g 103 gl
 have hlt:=Wt j p.2.length
 by_cases hjN:j < p.2.length
 ·have hx:p.2[j]?=some p.2[j]:=Qn hjN
  generalize p.2[j]=e at hx
  have hem:=Qr hx
  have hfe:=fzJ_en hp hem
  have hef:Tm.fzL e.vals+e.vals.length+e.d.fz+e.seen.length+4200=e.fz:=rfl
  obtain⟨pe,ie,lde⟩:=e1.at (k:=j) (x:=e.cells) (by rw[Q5,hx];rfl)
  have lde:=lde s1 (Vs.of ks hF)
  have had:=WC (i:=j) (by omega)
  have c9:=e.cells9
  obtain⟨a,b',c',hda,_⟩:=e.d.cells_abc
  have hcs:e.cells=[.int .i64 e.leaf,.int .i64 e.ver,.int .i64 e.prop,.int .i64 e.gate,e.vsl,a,b',c',e.ssl]:=by unfold En.cells;rw[hda];rfl
  have sto:Vt 9 (s1.new (.row ze9)) (.ptr s1.next 0) (.agg e.cells)=some ((s1.new (.row ze9)).put s1.next (.row e.cells)):=VQ rfl c9.1 c9.2
  unfold ze9 at sto
  obtain⟨s2,hs2⟩:∃ s2,s2=(s1.new (.row [Z0,Z0,Z0,Z0,.nilsl,Z0,.nilsl,.nilsl,.nilsl])).put s1.next (.row e.cells):=⟨_,rfl⟩
  rw[<-hs2] at sto
  have k2:Vd s1 s2:=by rw[hs2];exact(Vd.refl s1).newput _ _
  have g2:s2.get s1.next=some (.row e.cells):=by rw[hs2,St.get_put,Qm rfl]
  rw[hcs] at g2
  have l2:Vf false 1 s2 (.ptr s1.next 2)=some (.int .i64 e.prop):=Vk g2 rfl
  have l8:Vf false 1 s2 (.ptr s1.next 8)=some e.ssl:=Vk g2 rfl
  have k02:=ks.trans k2
  have lo:Vf false 1 s2 (.ptr o 0)=some (.int .i64 q):=Vk ((k02.2 o lt.2).trans ho) rfl
  have ne:=Yk e.prop q
  have hl8:(bif VD 0 e.ssl then Wm s2 e.ssl else none)=some (ZI e.seen.length):=SlI.len (JA e.snl e.sex e.seen (e2 e hem).2.2.2.2.1 (e2 e hem).2.2.2.2.2 (fun _=>False) s2) s2
  rw[Qs hjN] at hlt
  cases hC:(e.prop != q) with
  | true=>
   rw[hC] at ne
   obtain⟨J60,H60,O60_105⟩:∃ fr',Vj (Γ.cg Y0) TK f s1=.ok fr' s1/\fr'.get 105=some (.bool true):=⟨_,by simp only[amE,rQ,↓reduceIte,rA,fl,fi,TK,hlt]<;>rfl,gh⟩
   have V60_10:=ag H60 f10
   have V60_102:=ag H60 fs
   have V60_104:=ag H60 fi
   obtain⟨J61,H61,O61_16⟩:∃ fr',Vj (Γ.cg Y0) wg3_23 J60 s1=.ok fr' s2/\fr'.get 16=some (.ptr s1.next 0):=⟨_,by simp only[amE,rQ,↓reduceIte,rA,V60_102,V60_104,wg3_23,ie,lde,sto]<;>rfl,gh⟩
   have V61_10:=ag H61 V60_10
   have V61_104:=ag H61 V60_104
   obtain⟨J62,H62,O62_112⟩:∃ fr',Vj (Γ.cg Y0) wg3_24 J61 s2=.ok fr' s2/\fr'.get 112=some (.bool true):=⟨_,by simp only[amE,rQ,↓reduceIte,rA,V61_10,O61_16,wg3_24,faP,l2,lo,ne]<;>rfl,gh⟩
   have V62_104:=ag H62 V61_104
   obtain⟨J63,H63,O63_104⟩:∃ fr',Vj (Γ.cg Y0) wg3_31 J62 s2=.ok fr' s2/\fr'.get 104=some (ZI ((j+1))):=⟨_,by simp only[amE,rQ,↓reduceIte,rA,V62_104,wg3_31,had]<;>rfl,gh⟩
   have kk:=(((((kf.t (aq H60)).t (aq H61)).t (aq H62)).t (aq H63))).to (E:=[105,106,107,16,108,109,110,111,112,113,114,115,116,135,104,117,118,119,120,17,18,121,122,123,124,125,126,127,128,129,130,131,132,133,4,134])
   have hI63:Vh Γ Y0 n wl3_2 none f s1=.norm J63 s2:=by
    simp only[amE,rQ,↓reduceIte,rA,wl3_2,b00,b11,b22,b33,b44,b55,b66,b77,b88,b99,bAA,Jb,H60,H61,H62,H63,O60_105,O62_112]
   rw[hI63]
   exact⟨hjN,kk,O63_104,k02⟩
  | false=>
   rw[hC] at ne
   have hpq:e.prop=q:=by simpa using hC
   obtain⟨J64,H64,O64_105⟩:∃ fr',Vj (Γ.cg Y0) TK f s1=.ok fr' s1/\fr'.get 105=some (.bool true):=⟨_,by simp only[amE,rQ,↓reduceIte,rA,fl,fi,TK,hlt]<;>rfl,gh⟩
   have V64_1:=ag H64 f1
   have V64_8:=ag H64 f8
   have V64_10:=ag H64 f10
   have V64_102:=ag H64 fs
   have V64_103:=ag H64 fl
   have V64_104:=ag H64 fi
   obtain⟨J65,H65,O65_16⟩:∃ fr',Vj (Γ.cg Y0) wg3_23 J64 s1=.ok fr' s2/\fr'.get 16=some (.ptr s1.next 0):=⟨_,by simp only[amE,rQ,↓reduceIte,rA,V64_102,V64_104,wg3_23,ie,lde,sto]<;>rfl,gh⟩
   have V65_1:=ag H65 V64_1
   have V65_8:=ag H65 V64_8
   have V65_10:=ag H65 V64_10
   have V65_102:=ag H65 V64_102
   have V65_103:=ag H65 V64_103
   have V65_104:=ag H65 V64_104
   obtain⟨J66,H66,O66_112⟩:∃ fr',Vj (Γ.cg Y0) wg3_24 J65 s2=.ok fr' s2/\fr'.get 112=some (.bool false):=⟨_,by simp only[amE,rQ,↓reduceIte,rA,V65_10,O65_16,wg3_24,faP,l2,lo,ne]<;>rfl,gh⟩
   have V66_1:=ag H66 V65_1
   have V66_8:=ag H66 V65_8
   have V66_10:=ag H66 V65_10
   have V66_102:=ag H66 V65_102
   have V66_103:=ag H66 V65_103
   have V66_104:=ag H66 V65_104
   have V66_16:=ag H66 O65_16
   obtain⟨J67,H67,O67_114,O67_115,O67_116⟩:∃ fr',Vj (Γ.cg Y0) wg3_25 J66 s2=.ok fr' s2/\fr'.get 114=some (e.ssl)/\fr'.get 115=some (ZI e.seen.length)/\fr'.get 116=some Z0:=⟨_,by simp only[amE,rQ,↓reduceIte,rA,V66_16,wg3_25,faP,l8,hl8]<;>rfl,gn (gn gh),gn gh,gh⟩
   have V67_1:=ag H67 V66_1
   have V67_8:=ag H67 V66_8
   have V67_10:=ag H67 V66_10
   have V67_102:=ag H67 V66_102
   have V67_103:=ag H67 V66_103
   have V67_104:=ag H67 V66_104
   obtain⟨FR,s3,hL,kL,k3⟩:=seen3_run hfn (hj.mono (Vs.of k02 hF) fun _ h=>h) (fun i hi=>Qz (hF i hi) k02.1) ht (by omega) (e2 e hem) (by omega) (hek p hp e hem) ((k02.2 T lt.1).trans hT) (Qz lt.1 k02.1) (hs e (QO.2 ⟨p,hp,hem⟩) hpq) (fr:=J67) V67_1 V67_8 O67_114 O67_115 O67_116
   have L1:=kL.g 1 V67_1
   have L8:=kL.g 8 V67_8
   have L10:=kL.g 10 V67_10
   have L102:=kL.g 102 V67_102
   have L103:=kL.g 103 V67_103
   have L104:=kL.g 104 V67_104
   obtain⟨J69,H69,O69_104⟩:∃ fr',Vj (Γ.cg Y0) wg3_31 FR s3=.ok fr' s3/\fr'.get 104=some (ZI ((j+1))):=⟨_,by simp only[amE,rQ,↓reduceIte,rA,L104,wg3_31,had]<;>rfl,gh⟩
   have kk:=(((((((kf.t (aq H64)).t (aq H65)).t (aq H66)).t (aq H67)).t kL).t (aq H69))).to (E:=[105,106,107,16,108,109,110,111,112,113,114,115,116,135,104,117,118,119,120,17,18,121,122,123,124,125,126,127,128,129,130,131,132,133,4,134])
   have hI69:Vh Γ Y0 n wl3_2 none f s1=.norm J69 s3:=by
    simp only[amE,rQ,↓reduceIte,rA,wl3_2,b00,b11,b22,b33,b44,b55,b66,b77,b88,b99,bAA,Jb,H64,H65,H66,H67,hL,H69,O64_105,O66_112]
   rw[hI69]
   exact⟨hjN,kk,O69_104,k02.trans k3⟩
 ·rw[Qp hjN] at hlt
  obtain⟨J70,H70,O70_105⟩:∃ fr',Vj (Γ.cg Y0) TK f s1=.ok fr' s1/\fr'.get 105=some (.bool false):=⟨_,by simp only[amE,rQ,↓reduceIte,rA,fl,fi,TK,hlt]<;>rfl,gh⟩
  have kk:=((kf.t (aq H70))).to (E:=[105,106,107,16,108,109,110,111,112,113,114,115,116,135,104,117,118,119,120,17,18,121,122,123,124,125,126,127,128,129,130,131,132,133,4,134])
  have hI70:Vh Γ Y0 n wl3_2 none f s1=.exit 6 J70 s1:=by
   simp only[amE,rQ,↓reduceIte,rA,wl3_2,b00,b11,b22,b33,b44,b55,b66,b77,b88,b99,bAA,Jb,H70,O70_105]
  rw[hI70]
  exact⟨_,_,rfl,kk,ks⟩
set_option maxHeartbeats 1000000 in
theorem jous3_run{Γ:Gam}{n:Nat}(hfn:∀ f args s,f≠6->(Γ.cg Y0).fn f args s=R n Y0 f args s){F:Nat->Prop}{s:St}{fr:Fr}{jv:AV}{js:List (AV × List En)}(hj:YQ F s jv js)(hF:∀ i,F i->i < s.next)(ht:tot js<=4000)(hn:fzJ js+10 < n){T k o:Nat}{g:Nat->Nat}{q:Int}{yr:List AV}(hT:s.get T=some (.row (Vw k g)))(ho:s.get o=some (.row (.int .i64 q::yr)))(lt:T < s.next/\o < s.next)(hek:∀ p∈js,∀ e∈p.2,e.seen.length=k)
  (hs:∀ e∈VH js,e.prop=q->∀(i:Nat) (v:Int),e.seen[i]?=some v->¬(v > (g i:Int)/\(VF (VH js) i:Int)>=v))
  (g1:fr.get 1=some jv) (g8:fr.get 8=some (.own T 0 k 1 (some k) 0)) (g10:fr.get 10=some (.ptr o 0)) (gs:fr.get 96=some jv) (gl:fr.get 97=some (ZI js.length)) (gi:fr.get 98=some Z0):
  ∃ FR s',Vx (Vh Γ Y0 n wl3_3 none) n fr s=.exit 4 FR s'/\Kq [99,100,101,14,102,103,104,136,98,105,106,107,16,108,109,110,111,112,113,114,115,116,135,117,118,119,120,17,18,121,122,123,124,125,126,127,128,129,130,131,132,133,4,134] fr FR/\Vd s s':=by
 have h1':SlN 1 F s jv ((js.map Prod.fst).map fun x=>[x]):=by rw[Xq];exact hj.1
 have hb:=hj.1.2.2.1
 rw[Qu] at hb
 have hjl:=UT js
 refine Ws (B:=Vh Γ Y0 n wl3_3 none) (N:=js.length) (Inv:=fun j f s1=>Kq [99,100,101,14,102,103,104,136,98,105,106,107,16,108,109,110,111,112,113,114,115,116,135,117,118,119,120,17,18,121,122,123,124,125,126,127,128,129,130,131,132,133,4,134] fr f/\f.get 98=some (ZI j)/\Vd s s1) (Out:=fun r=>∃ FR s',r=.exit 4 FR s'/\Kq [99,100,101,14,102,103,104,136,98,105,106,107,16,108,109,110,111,112,113,114,115,116,135,117,118,119,120,17,18,121,122,123,124,125,126,127,128,129,130,131,132,133,4,134] fr FR/\Vd s s') ?_ js.length 0 fr s n (by omega) (by omega) ⟨Kq.refl.to,gi,Vd.refl s⟩
 intro j f s1 hj' ⟨kf,fi,ks⟩
 have f1:=kf.g 1 g1
 have f8:=kf.g 8 g8
 have f10:=kf.g 10 g10
 have fs:=kf.g 96 gs
 have fl:=kf.g 97 gl
 have hlt:=Wt j js.length
 by_cases hjN:j < js.length
 ·have hx:js[j]?=some js[j]:=Qn hjN
  generalize js[j]=p at hx
  have hp:=Qr hx
  obtain⟨pa,ia,lda⟩:=SlN.at1 h1' (k:=j) (x:=p.1) (by rw[Q5,hx];rfl)
  have lda:=lda s1 (Vs.of ks hF)
  have hel:=((hj.2 p hp).1).len s1
  rw[Qu] at hel
  have had:=WC (i:=j) (by omega)
  rw[Qs hjN] at hlt
  obtain⟨J71,H71,O71_99⟩:∃ fr',Vj (Γ.cg Y0) wg3_19 f s1=.ok fr' s1/\fr'.get 99=some (.bool true):=⟨_,by simp only[amE,rQ,↓reduceIte,rA,fl,fi,wg3_19,hlt]<;>rfl,gh⟩
  have V71_1:=ag H71 f1
  have V71_8:=ag H71 f8
  have V71_10:=ag H71 f10
  have V71_96:=ag H71 fs
  have V71_97:=ag H71 fl
  have V71_98:=ag H71 fi
  obtain⟨J72,H72,O72_14⟩:∃ fr',Vj (Γ.cg Y0) wg3_20 J71 s1=.ok fr' s1/\fr'.get 14=some (p.1):=⟨_,by simp only[amE,rQ,↓reduceIte,rA,V71_96,V71_98,wg3_20,ia,lda]<;>rfl,gh⟩
  have V72_1:=ag H72 V71_1
  have V72_8:=ag H72 V71_8
  have V72_10:=ag H72 V71_10
  have V72_96:=ag H72 V71_96
  have V72_97:=ag H72 V71_97
  have V72_98:=ag H72 V71_98
  obtain⟨J73,H73,O73_102,O73_103,O73_104⟩:∃ fr',Vj (Γ.cg Y0) wg3_21 J72 s1=.ok fr' s1/\fr'.get 102=some (p.1)/\fr'.get 103=some (ZI p.2.length)/\fr'.get 104=some Z0:=⟨_,by simp only[amE,rQ,↓reduceIte,rA,O72_14,wg3_21,hel]<;>rfl,gn (gn gh),gn gh,gh⟩
  have V73_1:=ag H73 V72_1
  have V73_8:=ag H73 V72_8
  have V73_10:=ag H73 V72_10
  have V73_96:=ag H73 V72_96
  have V73_97:=ag H73 V72_97
  have V73_98:=ag H73 V72_98
  obtain⟨FR,s3,hL,kL,k3⟩:=ents3_run hfn (hj.mono (Vs.of ks hF) fun _ h=>h) (fun i hi=>Qz (hF i hi) ks.1) ht hn ((ks.2 T lt.1).trans hT) ((ks.2 o lt.2).trans ho) ⟨Qz lt.1 ks.1,Qz lt.2 ks.1⟩ hek hs hp (fr:=J73) V73_1 V73_8 V73_10 O73_102 O73_103 O73_104
  have L1:=kL.g 1 V73_1
  have L8:=kL.g 8 V73_8
  have L10:=kL.g 10 V73_10
  have L96:=kL.g 96 V73_96
  have L97:=kL.g 97 V73_97
  have L98:=kL.g 98 V73_98
  obtain⟨J75,H75,O75_98⟩:∃ fr',Vj (Γ.cg Y0) wg3_32 FR s3=.ok fr' s3/\fr'.get 98=some (ZI ((j+1))):=⟨_,by simp only[amE,rQ,↓reduceIte,rA,L98,wg3_32,had]<;>rfl,gh⟩
  have kk:=((((((kf.t (aq H71)).t (aq H72)).t (aq H73)).t kL).t (aq H75))).to (E:=[99,100,101,14,102,103,104,136,98,105,106,107,16,108,109,110,111,112,113,114,115,116,135,117,118,119,120,17,18,121,122,123,124,125,126,127,128,129,130,131,132,133,4,134])
  have hI75:Vh Γ Y0 n wl3_3 none f s1=.norm J75 s3:=by
   simp only[amE,rQ,↓reduceIte,rA,wl3_3,b00,b11,b22,b33,b44,b55,b66,b77,b88,b99,bAA,Jb,H71,H72,H73,hL,H75,O71_99]
  rw[hI75]
  exact⟨hjN,kk,O75_98,ks.trans k3⟩
 ·rw[Qp hjN] at hlt
  obtain⟨J76,H76,O76_99⟩:∃ fr',Vj (Γ.cg Y0) wg3_19 f s1=.ok fr' s1/\fr'.get 99=some (.bool false):=⟨_,by simp only[amE,rQ,↓reduceIte,rA,fl,fi,wg3_19,hlt]<;>rfl,gh⟩
  have kk:=((kf.t (aq H76))).to (E:=[99,100,101,14,102,103,104,136,98,105,106,107,16,108,109,110,111,112,113,114,115,116,135,117,118,119,120,17,18,121,122,123,124,125,126,127,128,129,130,131,132,133,4,134])
  have hI76:Vh Γ Y0 n wl3_3 none f s1=.exit 4 J76 s1:=by
   simp only[amE,rQ,↓reduceIte,rA,wl3_3,b00,b11,b22,b33,b44,b55,b66,b77,b88,b99,bAA,Jb,H76,O76_99]
  rw[hI76]
  exact⟨_,_,rfl,kk,ks⟩
end
open Nat renaming reduceEqDiff -> rQ, reduceAdd -> rA
theorem flatC_le{α:Type}{f:α->List (Int × Int)}{B:Nat}:∀ l:List α,(∀ x∈l,(f x).length<=B)->(l.flatMap f).length<=l.length*B
 | [],_=>by simp
 | x::l,h=>by
  have h1:=flatC_le l fun y hy=>h y (by simp[hy])
  have h2:=h x (by simp)
  rw[Xa,QJ,QC,Xv,Nat.one_mul]
  omega
theorem clE_len(l:List En)(q:Int):(clE l q).length<=l.length:=by
 unfold clE;rw[Qu];exact Zc ..
theorem thereE_le(l:List En)(out:List Int)(i:Nat):Wa l out i<=out.length*l.length:=by
 rw[UQ]
 exact QY (UY _ _) (flatC_le out fun q _=>clE_len l q)
set_option maxHeartbeats 1000000 in
theorem moves3_run{Γ:Gam}{n:Nat}(hfn:∀ f args s,f≠6->(Γ.cg Y0).fn f args s=R n Y0 f args s){F:Nat->Prop}{s:St}{fr:Fr}{jv mv:AV}{js:List (AV × List En)}{lo T k:Nat}{PS:List Pr}{rows:List (List AV)}(hj:YQ F s jv js)(hF:∀ i,F i->i < T)(ht:tot js<=4000)(hn:fzJ js+40000 < n)
  (hek:∀ p∈js,∀ e∈p.2,e.seen.length=k) (hsl:SlN 7 (fun i=>lo<=i/\i < T) s mv rows) (hrl:rows.length=PS.length) (hPn:PS.length<=4000)
  (hmv:∀(j:Nat) (x:Pr) (ys:List AV),PS[j]?=some x->rows[j]?=some ys->∃ a b c d e,ys=[.int .i64 x.e.prop,a,b,c,d,e,x.csl])
  (hPr:∀ x∈PS,x.cl=clE (VH js) x.e.prop/\s.get x.cid=some (.row (V9 (VY x.cl)))/\x.cid < T)
  (hT:s.get T=some (.row (Vw k fun _=>0))) (lt:T < s.next) (hord:YB (VH js) (PS.map fun x=>x.e.prop)) (hlf:∀ e∈VH js,0<=e.leaf/\e.leaf < (k:Int))
  (g1:fr.get 1=some jv) (g8:fr.get 8=some (.own T 0 k 1 (some k) 0)) (gs:fr.get 62=some mv) (gl:fr.get 63=some (ZI PS.length)) (gi:fr.get 64=some Z0):
  ∃ FR s',Vx (Vh Γ Y0 n wl3_5 none) n fr s=.exit 0 FR s'/\Kq [65,66,67,10,68,69,70,71,96,97,98,137,138,139,140,152,64,72,73,74,12,75,76,77,78,79,80,81,82,83,84,85,86,87,88,89,90,91,92,93,94,4,95,99,100,101,14,102,103,104,136,105,106,107,16,108,109,110,111,112,113,114,115,116,135,117,118,119,120,17,18,121,122,123,124,125,126,127,128,129,130,131,132,133,134,141,142,143,20,144,145,146,147,148,149,150,151] fr FR:=by
 have hal:(VH js).length<=4000:=by rw[allE_len];exact ht
 refine Ws (B:=Vh Γ Y0 n wl3_5 none) (N:=PS.length) (Inv:=fun j f s1=>Kq [65,66,67,10,68,69,70,71,96,97,98,137,138,139,140,152,64,72,73,74,12,75,76,77,78,79,80,81,82,83,84,85,86,87,88,89,90,91,92,93,94,4,95,99,100,101,14,102,103,104,136,105,106,107,16,108,109,110,111,112,113,114,115,116,135,117,118,119,120,17,18,121,122,123,124,125,126,127,128,129,130,131,132,133,134,141,142,143,20,144,145,146,147,148,149,150,151] fr f/\f.get 64=some (ZI j)/\s.next<=s1.next/\s1.get T=some (.row (Vw k fun i=>Wa (VH js) ((PS.take j).map fun x=>x.e.prop) i))/\∀ i,i < s.next->i≠T->s1.get i=s.get i)
  (Out:=fun r=>∃ FR s',r=.exit 0 FR s'/\Kq [65,66,67,10,68,69,70,71,96,97,98,137,138,139,140,152,64,72,73,74,12,75,76,77,78,79,80,81,82,83,84,85,86,87,88,89,90,91,92,93,94,4,95,99,100,101,14,102,103,104,136,105,106,107,16,108,109,110,111,112,113,114,115,116,135,117,118,119,120,17,18,121,122,123,124,125,126,127,128,129,130,131,132,133,134,141,142,143,20,144,145,146,147,148,149,150,151] fr FR) ?_ PS.length 0 fr s n (by omega) (by omega) ⟨Kq.refl.to,gi,Qw _,by simpa [Wa] using hT,fun _ _ _=>rfl⟩
 intro j f s1 hj' ⟨kf,fi,n1,T1_,o1⟩
 have f1:=kf.g 1 g1
 have f8:=kf.g 8 g8
 have fs:=kf.g 62 gs
 have fl:=kf.g 63 gl
 have hlt:=Wt j PS.length
 by_cases hjN:j < PS.length
 ·have hx:PS[j]?=some PS[j]:=Qn hjN
  have hdp:PS.drop j=PS[j]::PS.drop (j+1):=XO hjN
  generalize PS[j]=x at hx hdp
  have hxm:=Qr hx
  have hy:rows[j]?=some rows[j]:=Qn (by omega)
  generalize rows[j]=ys at hy
  obtain⟨ya,yb,yc,yd,ye,rfl⟩:=hmv j x ys hx hy
  have hy7:=hsl.2.1 _ (Qr hy)
  obtain⟨pe,ie,lde⟩:=hsl.at hy
  have lde:=lde s1 (fun i hi=>o1 i (by omega) (by omega))
  obtain⟨p1,p2,p3⟩:=hPr x hxm
  have had:=WC (i:=j) (by omega)
  have sto:Vt 7 (s1.new (.row [Z0,Z0,.nilsl,Z0,.nilsl,.nilsl,.nilsl])) (.ptr s1.next 0) (.agg [.int .i64 x.e.prop,ya,yb,yc,yd,ye,x.csl])=some ((s1.new (.row [Z0,Z0,.nilsl,Z0,.nilsl,.nilsl,.nilsl])).put s1.next (.row [.int .i64 x.e.prop,ya,yb,yc,yd,ye,x.csl])):=VQ rfl hy7.1 hy7.2
  obtain⟨s2,hs2⟩:∃ s2,s2=(s1.new (.row [Z0,Z0,.nilsl,Z0,.nilsl,.nilsl,.nilsl])).put s1.next (.row [.int .i64 x.e.prop,ya,yb,yc,yd,ye,x.csl]):=⟨_,rfl⟩
  rw[<-hs2] at sto
  have k2:Vd s1 s2:=by rw[hs2];exact(Vd.refl s1).newput _ _
  have n2:s2.next=s1.next+1:=by rw[hs2];rfl
  have g2:s2.get s1.next=some (.row [.int .i64 x.e.prop,ya,yb,yc,yd,ye,x.csl]):=by rw[hs2,St.get_put,Qm rfl]
  have l6:Vf false 1 s2 (.ptr s1.next 6)=some x.csl:=Vk g2 rfl
  obtain⟨g,hg⟩:∃ g:Nat->Nat,g=fun i=>Wa (VH js) ((PS.take j).map fun x=>x.e.prop) (i:Nat):=⟨_,rfl⟩
  rw[<-hg] at T1_
  have hcs2:s2.get x.cid=some (.row (V9 (VY x.cl))):=by rw[k2.2 _ (by omega),o1 _ (by omega) (by omega)];exact p2
  have hperm:=Ug x.cl
  have hsl2:(VY x.cl).length=x.cl.length:=hperm.length_eq
  have hcl:x.cl.length<=4000:=by rw[p1];exact QY (clE_len _ _) hal
  have hC:ClS s2 x.csl x.cid (VY x.cl):=.inr ⟨by unfold Pr.csl;rw[hsl2],hcs2⟩
  have hlen:(bif VD 0 x.csl then Wm s2 x.csl else none)=some (ZI ((VY x.cl).length)):=by
   have:=(hC.sl (by omega)).len s2
   rwa [Qu] at this
  have hT2:s2.get T=some (.row (Vw k g)):=(k2.2 T (by omega)).trans T1_
  obtain⟨od1,od2⟩:=hord ((PS.take j).map fun x=>x.e.prop) x.e.prop ((PS.drop (j+1)).map fun x=>x.e.prop) (by
   conv=>lhs;rw[<-Zb j PS,hdp]
   simp)
  have hbnd:∀ c∈VY x.cl,0<=c.1/\c.1 < (k:Int):=fun c hc=>by
   have h1:=(hperm.mem_iff).1 hc
   rw[p1] at h1
   obtain⟨e,he,_,h2,_⟩:=Tg.1 h1
   rw[<-h2];exact hlf e he
  have hchk:∀ c∈VY x.cl,∃ i:Nat,i < k/\c.1=(i:Int)/\c.2=(g i:Int):=fun c hc=>by
   have h1:=(hperm.mem_iff).1 hc
   obtain⟨b1,b2⟩:=hbnd c hc
   rw[p1] at h1
   have h2:=od1 c h1
   refine⟨c.1.toNat,by omega,by omega,?_⟩
   rw[h2,hg]
   show _=((Wa (VH js) _ ((c.1.toNat:Nat):Int):Nat):Int)
   rw[show ((c.1.toNat:Nat):Int)=c.1 by omega]
  have hgb:∀ i,g i < 1000000000:=fun i=>by
   have h1:=thereE_le (VH js) ((PS.take j).map fun x=>x.e.prop) i
   rw[Qu,Xl] at h1
   have h2:min j PS.length*(VH js).length<=4000*4000:=Nat.mul_le_mul (by omega) hal
   rw[hg]
   show Wa (VH js) ((PS.take j).map fun x=>x.e.prop) (i:Int) < 1000000000
   omega
  have hsee:∀ e∈VH js,e.prop=x.e.prop->∀(i:Nat) (v:Int),e.seen[i]?=some v->¬(v > (g i:Int)/\(VF (VH js) i:Int)>=v):=fun e he hp i v hv=>by
   rw[hg];exact od2 e he hp i v hv
  have hnew:∀ i,Wa (VH js) ((PS.take (j+1)).map fun x=>x.e.prop) (i:Nat)=g i+VB (VY x.cl) i:=fun i=>by
   rw[QT,hx,hg,UQ,cntC_perm hperm i,p1]
   show VB (((PS.take j++[x]).map fun x=>x.e.prop).flatMap (clE (VH js))) i=Wa _ _ _+_
   rw[UQ,QQ,X0,cntC_app]
   simp
  rw[Qs hjN] at hlt
  obtain⟨J77,H77,O77_65⟩:∃ fr',Vj (Γ.cg Y0) wg3_10 f s1=.ok fr' s1/\fr'.get 65=some (.bool true):=⟨_,by simp only[amE,rQ,↓reduceIte,rA,fl,fi,wg3_10,hlt]<;>rfl,gh⟩
  have V77_1:=ag H77 f1
  have V77_8:=ag H77 f8
  have V77_62:=ag H77 fs
  have V77_63:=ag H77 fl
  have V77_64:=ag H77 fi
  obtain⟨J78,H78,O78_10⟩:∃ fr',Vj (Γ.cg Y0) wg3_11 J77 s1=.ok fr' s2/\fr'.get 10=some (.ptr s1.next 0):=⟨_,by simp only[amE,rQ,↓reduceIte,rA,V77_62,V77_64,wg3_11,ie,lde,sto]<;>rfl,gh⟩
  have V78_1:=ag H78 V77_1
  have V78_8:=ag H78 V77_8
  have V78_62:=ag H78 V77_62
  have V78_63:=ag H78 V77_63
  have V78_64:=ag H78 V77_64
  obtain⟨J79,H79,O79_69,O79_70,O79_71⟩:∃ fr',Vj (Γ.cg Y0) wg3_12 J78 s2=.ok fr' s2/\fr'.get 69=some (x.csl)/\fr'.get 70=some (ZI ((VY x.cl).length))/\fr'.get 71=some Z0:=⟨_,by simp only[amE,rQ,↓reduceIte,rA,O78_10,wg3_12,faP,l6,hlen]<;>rfl,gn (gn gh),gn gh,gh⟩
  have V79_1:=ag H79 V78_1
  have V79_8:=ag H79 V78_8
  have V79_62:=ag H79 V78_62
  have V79_63:=ag H79 V78_63
  have V79_64:=ag H79 V78_64
  have V79_10:=ag H79 O78_10
  obtain⟨FR1,s3,hL1,kL1,k3⟩:=chk3_run (Γ:=Γ) (n:=n) hC (by omega) (by omega) hchk hT2 ⟨by omega,by omega⟩ (fr:=J79) V79_8 O79_69 O79_70 O79_71
  have La1:=kL1.g 1 V79_1
  have La8:=kL1.g 8 V79_8
  have La10:=kL1.g 10 V79_10
  have La62:=kL1.g 62 V79_62
  have La63:=kL1.g 63 V79_63
  have La64:=kL1.g 64 V79_64
  have n3:=k3.1
  have q3:s3.get s1.next=some (.row [.int .i64 x.e.prop,ya,yb,yc,yd,ye,x.csl]):=(k3.2 _ (by omega)).trans g2
  have T3_:s3.get T=some (.row (Vw k g)):=(k3.2 _ (by omega)).trans hT2
  have S03:Vs F s s3:=fun i hi=>by have:=hF i hi;rw[k3.2 i (by omega),k2.2 i (by omega),o1 i (by omega) (by omega)]
  have hjl3:(bif VD 0 jv then Wm s3 jv else none)=some (ZI js.length):=by
   have:=hj.1.len s3
   rwa [Qu] at this
  obtain⟨J81,H81,O81_96,O81_97,O81_98⟩:∃ fr',Vj (Γ.cg Y0) wg3_18 FR1 s3=.ok fr' s3/\fr'.get 96=some (jv)/\fr'.get 97=some (ZI js.length)/\fr'.get 98=some Z0:=⟨_,by simp only[amE,rQ,↓reduceIte,rA,La1,wg3_18,hjl3]<;>rfl,gn (gn gh),gn gh,gh⟩
  have V81_1:=ag H81 La1
  have V81_8:=ag H81 La8
  have V81_10:=ag H81 La10
  have V81_62:=ag H81 La62
  have V81_63:=ag H81 La63
  have V81_64:=ag H81 La64
  obtain⟨FR2,s4,hL2,kL2,k4⟩:=jous3_run hfn (hj.mono S03 fun _ h=>h) (fun i hi=>by have:=hF i hi;omega) ht (by omega) T3_ q3 ⟨by omega,by omega⟩ hek hsee (fr:=J81) V81_1 V81_8 V81_10 O81_96 O81_97 O81_98
  have Lb1:=kL2.g 1 V81_1
  have Lb8:=kL2.g 8 V81_8
  have Lb10:=kL2.g 10 V81_10
  have Lb62:=kL2.g 62 V81_62
  have Lb63:=kL2.g 63 V81_63
  have Lb64:=kL2.g 64 V81_64
  have n4:=k4.1
  have q4:s4.get s1.next=some (.row [.int .i64 x.e.prop,ya,yb,yc,yd,ye,x.csl]):=(k4.2 _ (by omega)).trans q3
  have T4:s4.get T=some (.row (Vw k g)):=(k4.2 _ (by omega)).trans T3_
  have l64:Vf false 1 s4 (.ptr s1.next 6)=some x.csl:=Vk q4 rfl
  have hC4:ClS s4 x.csl x.cid (VY x.cl):=.inr ⟨by unfold Pr.csl;rw[hsl2],by rw[k4.2 _ (by omega),k3.2 _ (by omega)];exact hcs2⟩
  have hlen4:(bif VD 0 x.csl then Wm s4 x.csl else none)=some (ZI ((VY x.cl).length)):=by
   have:=(hC4.sl (by omega)).len s4
   rwa [Qu] at this
  obtain⟨J83,H83,O83_138,O83_139,O83_140⟩:∃ fr',Vj (Γ.cg Y0) wg3_33 FR2 s4=.ok fr' s4/\fr'.get 138=some (x.csl)/\fr'.get 139=some (ZI ((VY x.cl).length))/\fr'.get 140=some Z0:=⟨_,by simp only[amE,rQ,↓reduceIte,rA,Lb10,wg3_33,faP,l64,hlen4]<;>rfl,gn (gn gh),gn gh,gh⟩
  have V83_1:=ag H83 Lb1
  have V83_8:=ag H83 Lb8
  have V83_10:=ag H83 Lb10
  have V83_62:=ag H83 Lb62
  have V83_63:=ag H83 Lb63
  have V83_64:=ag H83 Lb64
  obtain⟨FR3,s5,hL3,kL3,n5,T5_,o5⟩:=bump3_run (Γ:=Γ) (n:=n) hC4 (by omega) (by omega) hbnd T4 hgb ⟨by omega,by omega⟩ (by omega) (fr:=J83) V83_8 O83_138 O83_139 O83_140
  have Lc1:=kL3.g 1 V83_1
  have Lc8:=kL3.g 8 V83_8
  have Lc10:=kL3.g 10 V83_10
  have Lc62:=kL3.g 62 V83_62
  have Lc63:=kL3.g 63 V83_63
  have Lc64:=kL3.g 64 V83_64
  obtain⟨J85,H85,O85_64⟩:∃ fr',Vj (Γ.cg Y0) wg3_38 FR3 s5=.ok fr' s5/\fr'.get 64=some (ZI ((j+1))):=⟨_,by simp only[amE,rQ,↓reduceIte,rA,Lc64,wg3_38,had]<;>rfl,gh⟩
  have kk:=((((((((((kf.t (aq H77)).t (aq H78)).t (aq H79)).t kL1).t (aq H81)).t kL2).t (aq H83)).t kL3).t (aq H85))).to (E:=[65,66,67,10,68,69,70,71,96,97,98,137,138,139,140,152,64,72,73,74,12,75,76,77,78,79,80,81,82,83,84,85,86,87,88,89,90,91,92,93,94,4,95,99,100,101,14,102,103,104,136,105,106,107,16,108,109,110,111,112,113,114,115,116,135,117,118,119,120,17,18,121,122,123,124,125,126,127,128,129,130,131,132,133,134,141,142,143,20,144,145,146,147,148,149,150,151])
  have hI85:Vh Γ Y0 n wl3_5 none f s1=.norm J85 s5:=by
   simp only[amE,rQ,↓reduceIte,rA,wl3_5,b00,b11,b22,b33,b44,b55,b66,b77,b88,b99,bAA,Jb,H77,H78,H79,hL1,H81,hL2,H83,hL3,H85,O77_65]
  rw[hI85]
  exact⟨hjN,kk,O85_64,by omega,by
   rw[T5_];congr 2
   exact Xn (Vw k) (funext fun i=>(hnew i).symm),fun i hi hne=>by rw[o5 i (by omega) hne,k4.2 i (by omega),k3.2 i (by omega),k2.2 i (by omega),o1 i hi hne]⟩
 ·rw[Qp hjN] at hlt
  obtain⟨J86,H86,O86_65⟩:∃ fr',Vj (Γ.cg Y0) wg3_10 f s1=.ok fr' s1/\fr'.get 65=some (.bool false):=⟨_,by simp only[amE,rQ,↓reduceIte,rA,fl,fi,wg3_10,hlt]<;>rfl,gh⟩
  have kk:=((kf.t (aq H86))).to (E:=[65,66,67,10,68,69,70,71,96,97,98,137,138,139,140,152,64,72,73,74,12,75,76,77,78,79,80,81,82,83,84,85,86,87,88,89,90,91,92,93,94,4,95,99,100,101,14,102,103,104,136,105,106,107,16,108,109,110,111,112,113,114,115,116,135,117,118,119,120,17,18,121,122,123,124,125,126,127,128,129,130,131,132,133,134,141,142,143,20,144,145,146,147,148,149,150,151])
  have hI86:Vh Γ Y0 n wl3_5 none f s1=.exit 0 J86 s1:=by
   simp only[amE,rQ,↓reduceIte,rA,wl3_5,b00,b11,b22,b33,b44,b55,b66,b77,b88,b99,bAA,Jb,H86,O86_65]
  rw[hI86]
  exact⟨_,_,rfl,kk⟩
end Go.AM.D32
