import Derived.Test.YtejdliehekjicaaGreatAwWy2
set_option maxRecDepth 100000
set_option linter.unusedSimpArgs false
namespace Go.AM.D32
open Go Go.AM
noncomputable section
open Nat renaming reduceEqDiff -> rQ, reduceAdd -> rA
theorem U7(js:List (AV × List En)):ens (Vq js)=VH js:=by
 unfold ens Vq VH
 have h1:∀(p:Nat) (l:List En),(row p l).map (fun z=>z.2.2)=l:=fun p l=>by
  unfold row
  rw[Xq]
  have h:∀(l:List En) (k:Nat),(l.zipIdx k).map ((fun z:Nat × Nat × En=>z.2.2) ∘ fun x=>(p,x.2,x.1))=l:=fun l=>by
   induction l with
   | nil=>intro k;rfl
   | cons a l ih=>intro k;simp only[Zd,Q4,ih];rfl
  exact h l 0
 have h2:∀(l:List (AV × List En)) (k:Nat),((l.zipIdx k).flatMap fun x=>row x.2 x.1.2).map (fun z=>z.2.2)=l.flatMap (·.2):=fun l=>by
  induction l with
  | nil=>intro k;rfl
  | cons a l ih=>intro k;simp only[Zd,Xa,QQ,h1,ih]
 exact h2 js 0
def wg3_0:List Vc:=[ZO 2 (.box true (.t 0)),ZM 4 (ZB false)]
def wg3_1:List Vc:=[ZX 21 6 [],ZO 22 (.un .not (.t 21))]
def wg3_2:List Vc:=[ZM 4 (ZB false)]
def wg3_3:List Vc:=[ZV 23 1,ZX 24 7 [(.t 23)],ZO 25 (.un .not (.t 24)),ZV 26 25,ZG 27 (.load true 3 (.t 2)) 26 false,ZG 28 (.call (.c (.func (.func 8) [] [])) [(.t 27)]) 26 false,ZG 29 (.un .not (.t 28)) 26 false,ZO 30 (.pick (.t 26) (ZB true) (.t 29)),ZV 31 30,ZG 32 (.load true 3 (.t 2)) 31 false,ZG 33 (.mv (.t 1)) 31 false,ZG 34 (.call (.c (.func (.func 9) [] [])) [(.t 32),(.t 33)]) 31 false,ZG 35 (.un .not (.t 34)) 31 false,ZO 36 (.pick (.t 31) (ZB true) (.t 35))]
def wg3_4:List Vc:=[ZM 4 (ZB true)]
def wg3_5:List Vc:=[ZK 38 3 2,ZV 39 1,ZX 40 10 [(.t 38),(.t 39)],ZV 37 40,ZO 41 (.extract 0 (.t 37)),ZO 42 (.extract 1 (.t 37)),ZO 43 (.extract 2 (.t 37)),ZO 6 (.alloc [Z0,Z0,Z0]),ZV 5 41,ZS 3 6 42,ZV 7 43]
def wg3_6:List Vc:=[ZV 44 7,ZO 45 (.bin false .neq (.t 44) (ZC 0)),ZV 46 45,ZG 47 (.faddr 0 (.t 6)) 46 false,ZG 48 (.load false 1 (.t 47)) 46 false,ZG 49 (.bin false .neq (.t 48) (ZC 0)) 46 false,ZO 50 (.pick (.t 46) (ZB true) (.t 49))]
def wg3_7:List Vc:=[ZV 51 7,ZO 52 (.bin false .eql (.t 51) (ZC 0)),ZV 53 52,ZG 54 (.mv (.t 5)) 53 true,ZG 55 (.len 0 (.t 54)) 53 true,ZG 56 (.bin false .eql (.t 55) (ZC 0)) 53 true,ZO 57 (.pick (.t 53) (.t 56) (ZB false)),ZV 4 57]
def wg3_8:List Vc:=[ZA 58 0 2,ZL 59 58,ZN 60 59,ZO 61 (.mksl 8 1 [Z0] (.t 60) (.t 60)),ZV 8 61]
def wg3_9:List Vc:=[ZV 62 5,ZN 63 62,ZM 64 (ZC 0)]
def wg3_10:List Vc:=[ZO 65 (.bin false .lss (.t 64) (.t 63))]
def wg3_11:List Vc:=[ZP 66 7 62 64,ZK 67 7 66,ZO 10 (.alloc [Z0,Z0,.nilsl,Z0,.nilsl,.nilsl,.nilsl]),ZS 7 10 67]
def wg3_12:List Vc:=[ZA 68 6 10,ZL 69 68,ZN 70 69,ZM 71 (ZC 0)]
def wg3_13:List Vc:=[ZO 72 (.bin false .lss (.t 71) (.t 70))]
def wg3_14:List Vc:=[ZP 73 2 69 71,ZK 74 2 73,ZO 12 (.alloc [Z0,Z0]),ZS 2 12 74]
def wg3_15:List (Vc × Nat):=[(ZA 75 0 12,0),(ZL 76 75,1),(ZO 77 (.bin false .lss (.t 76) (ZC 0)),3),(ZV 78 77,7),(ZG 79 (.faddr 0 (.t 12)) 78 false,15),(ZG 80 (.load false 1 (.t 79)) 78 false,31),(ZG 81 (.mv (.t 8)) 78 false,15),(ZG 82 (.len 0 (.t 81)) 78 false,79),(ZG 83 (.bin false .geq (.t 80) (.t 82)) 78 false,255),(ZO 84 (.pick (.t 78) (ZB true) (.t 83)),511),(ZV 85 84,1023),(ZG 86 (.faddr 1 (.t 12)) 85 false,2047),(ZG 87 (.load false 1 (.t 86)) 85 false,4095),(ZG 88 (.mv (.t 8)) 85 false,2047),(ZG 89 (.faddr 0 (.t 12)) 85 false,2047),(ZG 90 (.load false 1 (.t 89)) 85 false,18431),(ZG 91 (.iaddr 1 (.t 88) (.t 90)) 85 false,59391),(ZG 92 (.load false 1 (.t 91)) 85 false,124927),(ZG 93 (.bin false .neq (.t 87) (.t 92)) 85 false,262143),(ZO 94 (.pick (.t 85) (ZB true) (.t 93)),524287)]
def wg3_16:List Vc:=[ZM 4 (ZB false)]
def wg3_17:List Vc:=[ZO 95 (.bin false .add (.t 71) (ZC 1)),ZV 71 95]
def wg3_18:List Vc:=[ZV 96 1,ZN 97 96,ZM 98 (ZC 0)]
def wg3_19:List Vc:=[ZO 99 (.bin false .lss (.t 98) (.t 97))]
def wg3_20:List Vc:=[ZP 100 1 96 98,ZL 101 100,ZV 14 101]
def wg3_21:List Vc:=[ZV 102 14,ZN 103 102,ZM 104 (ZC 0)]
def wg3_22:List Vc:=[ZO 105 (.bin false .lss (.t 104) (.t 103))]
def wg3_23:List Vc:=[ZP 106 9 102 104,ZK 107 9 106,ZO 16 (.alloc [Z0,Z0,Z0,Z0,.nilsl,Z0,.nilsl,.nilsl,.nilsl]),ZS 9 16 107]
def wg3_24:List Vc:=[ZA 108 2 16,ZL 109 108,ZA 110 0 10,ZL 111 110,ZO 112 (.bin false .neq (.t 109) (.t 111))]
def wg3_25:List Vc:=[ZA 113 8 16,ZL 114 113,ZN 115 114,ZM 116 (ZC 0)]
def wg3_26:List Vc:=[ZO 117 (.bin false .lss (.t 116) (.t 115))]
def wg3_27:List Vc:=[ZV 118 116,ZP 119 1 114 116,ZL 120 119,ZV 17 118,ZV 18 120]
def wg3_28:List Vc:=[ZV 121 18,ZV 122 8,ZV 123 17,ZP 124 1 122 123,ZL 125 124,ZO 126 (.bin false .gtr (.t 121) (.t 125)),ZV 127 126,ZG 128 (.mv (.t 1)) 127 true,ZG 129 (.mv (.t 17)) 127 true,ZG 130 (.call (.c (.func (.func 11) [] [])) [(.t 128),(.t 129)]) 127 true,ZG 131 (.mv (.t 18)) 127 true,ZG 132 (.bin false .geq (.t 130) (.t 131)) 127 true,ZO 133 (.pick (.t 127) (.t 132) (ZB false))]
def wg3_29:List Vc:=[ZM 4 (ZB false)]
def wg3_30:List Vc:=[ZO 134 (.bin false .add (.t 116) (ZC 1)),ZV 116 134]
def wg3_31:List Vc:=[ZO 135 (.bin false .add (.t 104) (ZC 1)),ZV 104 135]
def wg3_32:List Vc:=[ZO 136 (.bin false .add (.t 98) (ZC 1)),ZV 98 136]
def wg3_33:List Vc:=[ZA 137 6 10,ZL 138 137,ZN 139 138,ZM 140 (ZC 0)]
def wg3_34:List Vc:=[ZO 141 (.bin false .lss (.t 140) (.t 139))]
def wg3_35:List Vc:=[ZP 142 2 138 140,ZK 143 2 142,ZO 20 (.alloc [Z0,Z0]),ZS 2 20 143]
def wg3_36:List Vc:=[ZV 144 8,ZA 145 0 20,ZL 146 145,ZP 147 1 144 146,ZL 148 147,ZO 149 (.bin false .add (.t 148) (ZC 1)),ZP 150 1 144 146,ZS 1 150 149]
def wg3_37:List Vc:=[ZO 151 (.bin false .add (.t 140) (ZC 1)),ZV 140 151]
def wg3_38:List Vc:=[ZO 152 (.bin false .add (.t 64) (ZC 1)),ZV 64 152]
def wg3_39:List Vc:=[ZM 4 (ZB true)]
def wl3_0:Vn:=(ZQ wg3_34 (.seq (.cond (.t 141) .skip (.exit 10)) (.seq (.block 11 (ZQ wg3_35 (.region wg3_36))) (.region wg3_37))))
def wl3_1:Vn:=(ZQ wg3_26 (.seq (.cond (.t 117) .skip (.exit 8)) (.seq (.block 9 (ZQ wg3_27 (ZQ wg3_28 (.cond (.t 133) (ZR wg3_29) .skip)))) (.region wg3_30))))
def wl3_2:Vn:=(ZQ wg3_22 (.seq (.cond (.t 105) .skip (.exit 6)) (.seq (.block 7 (ZQ wg3_23 (.seq (ZQ wg3_24 (.cond (.t 112) (.exit 7) .skip)) (ZQ wg3_25 (.block 8 (.loop wl3_1)))))) (.region wg3_31))))
def wl3_3:Vn:=(ZQ wg3_19 (.seq (.cond (.t 99) .skip (.exit 4)) (.seq (.block 5 (ZQ wg3_20 (ZQ wg3_21 (.block 6 (.loop wl3_2))))) (.region wg3_32))))
def wl3_4:Vn:=(ZQ wg3_13 (.seq (.cond (.t 72) .skip (.exit 2)) (.seq (.block 3 (ZQ wg3_14 (.seq (.draw wg3_15 []) (.cond (.t 94) (ZR wg3_16) .skip)))) (.region wg3_17))))
def wl3_5:Vn:=(ZQ wg3_10 (.seq (.cond (.t 65) .skip (.exit 0)) (.seq (.block 1 (ZQ wg3_11 (.seq (ZQ wg3_12 (.block 2 (.loop wl3_4))) (.seq (ZQ wg3_18 (.block 4 (.loop wl3_3))) (ZQ wg3_33 (.block 10 (.loop wl3_0))))))) (.region wg3_38))))
def wf3:Vm:=⟨153,(ZQ wg3_0 (.seq (ZQ wg3_1 (.cond (.t 22) (ZR wg3_2) .skip)) (.seq (ZQ wg3_3 (.cond (.t 36) (ZR wg3_4) .skip)) (ZQ wg3_5 (.seq (ZQ wg3_6 (.cond (.t 50) (ZR wg3_7) .skip)) (ZQ wg3_8 (.seq (ZQ wg3_9 (.block 0 (.loop wl3_5))) (ZR wg3_39)))))))),[.t 4]⟩
theorem t3:tbl 3=some wf3:=by kernel_rfl
theorem b77:Nat.beq 7 7=true:=rfl
theorem b55:Nat.beq 5 5=true:=rfl
end
open Nat renaming reduceEqDiff -> rQ, reduceAdd -> rA
theorem clE_len(l:List En)(q:Int):(clE l q).length<=l.length:=by
 unfold clE;rw[Qu];exact Zc ..
open Nat renaming reduceEqDiff -> rQ, reduceAdd -> rA
theorem abody_of{Γ:Gam}{n:Nat}{DF:Nat->List AV->St->DM->Option (DM × St)}{mf:Vm}{Y:Vi}{args:List AV}{st st':St}{fr:Fr}{v:AV}(hle:args.length.ble mf.N=true)
  (h:Vh Γ Y n mf.code none (Vo 0 args Fr.nil) st=.ret fr st'\/Vh Γ Y n mf.code none (Vo 0 args Fr.nil) st=.norm fr st') (hd:fr.ds=[]) (hr:Vg fr st' mf.res=.ret v st'):
  WK Γ Y n DF mf args st=.ret v st':=by
 unfold WK
 rw[hle]
 rcases h with h | h<;>simp only[Qi,h,WY,hd,VO,hr]
theorem extr0(a b c:AV):WJ 0 (.tuple [a,b,c])=some a:=rfl
theorem extr1(a b c:AV):WJ 1 (.tuple [a,b,c])=some b:=rfl
theorem extr2(a b c:AV):WJ 2 (.tuple [a,b,c])=some c:=rfl
theorem good_of{k:Nat}{N:Int}{js:List (AV × List En)}(hA:areB k N js=true):tot js<=4000/\(∀ p∈js,∀ e∈p.2,e.seen.length=k)/\∀ e∈VH js,0<=e.leaf:=by
 unfold areB at hA
 simp only[Qd,QF,QB] at hA
 obtain⟨⟨_,hA2⟩,hA3⟩:=hA
 have hg:∀ p∈js,∀ e∈p.2,e.seen.length=k/\0<=e.leaf:=fun p hp e he=>by
  have hg:=hA3 p hp e he
  unfold En.good at hg
  simp only[Qd,QF] at hg
  exact⟨hg.1.2,((Tb _).1 hg.1.1.1.1.1.1).1⟩
 refine⟨hA2,fun p hp e he=>(hg p hp e he).1,fun e he=>?_⟩
 unfold VH at he
 obtain⟨p,hp,he⟩:=QO.1 he
 exact(hg p hp e he).2
theorem spot_mem{js:List (AV × List En)}{z:Sp}(hz:z∈Vq js):z.2.2∈VH js:=by
 rw[<-U7];exact Q6.2 ⟨z,hz,rfl⟩
theorem fit_of{k:Nat}{N:Int}{ps:List Int}{js:List (AV × List En)}(hA:areB k N js=true)(hf:KC k ps (Vq js)):YP (VH js)/\∀ e∈VH js,0<=e.leaf/\e.leaf < (k:Int):=by
 obtain⟨g1,g2,g3⟩:=good_of hA
 have h1:=hf.fitE fun z hz=>⟨g3 _ (spot_mem hz),by
  have h:=spot_mem hz
  unfold VH at h
  obtain⟨p,hp,he⟩:=QO.1 h
  exact g2 p hp _ he⟩
 rw[U7] at h1
 refine⟨h1,fun e he=>⟨g3 e he,?_⟩⟩
 rw[<-U7] at he
 obtain⟨z,hz,rfl⟩:=Q6.1 he
 obtain⟨a,b,h⟩:=KS hz
 exact(Ut (hf a z b h)).1
theorem order_of{k:Nat}{N:Int}{ps:List Int}{js:List (AV × List En)}(hA:areB k N js=true)(hf:KC k ps (Vq js)):YB (VH js) (Yb (Vq js)).2/\(Yb (Vq js)).2.length<=4000:=by
 have hF:=(fit_of hA hf).1
 unfold Yb
 rw[U7]
 have h:=UL hF (Wn (V6 (VH js))).length (Wn (V6 (VH js))) [] (by rw[QG];exact(WA _).nodup_iff.2 (Wu _)) (Y9.nil _) (YB.nil _)
 refine⟨h.1,?_⟩
 have h1:=h.2.2.length_eq
 rw[QG,QJ] at h1
 have h2:=(WA (V6 (VH js))).length_eq
 have h3:∀ l:List En,(V6 l).length<=l.length:=fun l=>by
  induction l using JS with
  | nil=>simp[V6]
  | snoc l x ih=>
   rw[Yp]
   split
   ·simp;omega
   ·simp;omega
 have h4:=h3 (VH js)
 have h5:=(good_of hA).1
 rw[allE_len] at h4
 omega
def SW(l:List En)(e:En):En:=match l.find? (fun z=>z.prop==e.prop) with
 | some z=>z
 | none=>e
def kE(k:Nat)(ps:List Int)(l:List En)(p:Nat)(e:En):Nat:=
 bif decide (e.leaf>=k)||!(ps.getD e.leaf.toNat 0==(p:Int)) then 1 else
 bif (l.any fun z=>z.prop==e.prop&&z.leaf==e.leaf)||!YT e (SW l e)||!decide (e.seen=(SW l e).seen) then 2 else
 bif !(e.ver==(VF l e.leaf:Int))||!(e.ver==e.seen.getD e.leaf.toNat 0) then 3 else 0
theorem firstE_ens(d:List Sp)(e:En):Wg d e=SW (ens d) e:=by
 unfold Wg SW ens
 rw[List.find?_map]
 show _=match (d.find? fun z=>z.2.2.prop==e.prop).map (fun z=>z.2.2) with
  | some z=>z
  | none=>e
 cases d.find? (fun z=>z.2.2.prop==e.prop)<;>rfl
theorem kindAt_kE(k:Nat)(ps:List Int)(d:List Sp)(x:Sp):Wp k ps d x=kE k ps (ens d) x.1 x.2.2:=by
 unfold Wp kE
 rw[firstE_ens]
 have:(d.any fun z=>z.2.2.prop==x.2.2.prop&&z.2.2.leaf==x.2.2.leaf)=((ens d).any fun z=>z.prop==x.2.2.prop&&z.leaf==x.2.2.leaf):=by
  unfold ens;rw[List.any_map];rfl
 rw[this]
def fitR(k:Nat)(ps:List Int):List En->List (Nat × En)->Prop
 | _,[]=>True
 | l,y::r=>kE k ps l y.1 y.2=0/\fitR k ps (l++[y.2]) r
theorem fitR_app(k:Nat)(ps:List Int):∀(a b:List (Nat × En)) (l:List En),fitR k ps l (a++b) ↔ fitR k ps l a/\fitR k ps (l++a.map (·.2)) b
 | [],b,l=>by simp[fitR]
 | y::a,b,l=>by
  simp only[QP,fitR,fitR_app k ps a b,Q4,Xb,QP,QR,and_assoc]
def pe(d:List Sp):List (Nat × En):=d.map fun z=>(z.1,z.2.2)
theorem pe_ens(d:List Sp):(pe d).map (·.2)=ens d:=by unfold pe ens;rw[Xq];rfl
theorem fits_fitR(k:Nat)(ps:List Int)(d:List Sp):KC k ps d ↔ fitR k ps [] (pe d):=by
 induction d using JS with
 | nil=>exact⟨fun _=>trivial,fun _=>KC.nil k ps⟩
 | snoc d x ih=>
  have h1:pe (d++[x])=pe d++[(x.1,x.2.2)]:=by simp[pe]
  rw[h1,fitR_app,QR,pe_ens]
  simp only[fitR,ZW]
  rw[<-kindAt_kE,<-ih]
  exact⟨fun h=>⟨h.pre,h d x [] (by simp)⟩,fun h=>h.1.snoc h.2⟩
def peJ:Nat->List (List En)->List (Nat × En)
 | _,[]=>[]
 | n,l::r=>l.map (fun e=>(n,e))++peJ (n+1) r
theorem row_pe(p:Nat)(l:List En):pe (row p l)=l.map fun e=>(p,e):=by
 unfold pe row
 rw[Xq]
 have h:∀(l:List En) (k:Nat),(l.zipIdx k).map ((fun z:Sp=>(z.1,z.2.2)) ∘ fun x=>(p,x.2,x.1))=l.map fun e=>(p,e):=fun l=>by
  induction l with
  | nil=>intro k;rfl
  | cons a l ih=>intro k;simp only[Zd,Q4,ih];rfl
 exact h l 0
theorem pe_spots(js:List (AV × List En)):pe (Vq js)=peJ 0 (js.map (·.2)):=by
 unfold Vq
 have h:∀(js:List (AV × List En)) (n:Nat),pe ((js.zipIdx n).flatMap fun x=>row x.2 x.1.2)=peJ n (js.map (·.2)):=fun js=>by
  induction js with
  | nil=>intro n;rfl
  | cons a l ih=>
   intro n
   rw[Zd,Xa]
   show pe (row n a.2++_)=_
   have h1:∀ a b:List Sp,pe (a++b)=pe a++pe b:=fun a b=>by simp[pe]
   rw[h1,row_pe,ih];rfl
 exact h js 0
theorem peJ_set:∀(ll:List (List En)) (n i:Nat) (l:List En),ll[i]?=some l->∃ A C,peJ n ll=A++l.map (fun e=>(n+i,e))++C/\∀ l',peJ n (ll.set i l')=A++l'.map (fun e=>(n+i,e))++C
 | [],n,i,l,h=>by simp at h
 | x::r,n,0,l,h=>by
  simp at h;subst h
  exact⟨[],peJ (n+1) r,by simp[peJ],fun l'=>by simp[peJ]⟩
 | x::r,n,i+1,l,h=>by
  obtain⟨A,C,h1,h2⟩:=peJ_set r (n+1) i l (by simpa using h)
  refine⟨x.map (fun e=>(n,e))++A,C,?_,fun l'=>?_⟩
  ·show x.map _++peJ (n+1) r=_
   rw[h1,show n+1+i=n+(i+1) by omega];simp
  ·show x.map _++peJ (n+1) (r.set i l')=_
   rw[h2 l',show n+1+i=n+(i+1) by omega];simp
theorem find_swap{a b:En}(hp:a.prop≠b.prop)(A C:List En)(q:Int):(A++b::a::C).find? (fun z=>z.prop==q)=(A++a::b::C).find? (fun z=>z.prop==q):=by
 rw[ZH,ZH]
 congr 1
 simp only[List.find?_cons]
 cases h1:a.prop==q<;>cases h2:b.prop==q<;>simp_all
theorem cntE_swap(a b:En)(A C:List En)(i:Int):VF (A++b::a::C) i=VF (A++a::b::C) i:=by
 unfold VF
 exact(((List.Perm.swap a b C).append_left A).filter _).length_eq
theorem any_swap(a b:En)(A C:List En)(f:En->Bool):(A++b::a::C).any f=(A++a::b::C).any f:=by
 simp only[List.any_append,List.any_cons]
 cases f a<;>cases f b<;>rfl
theorem firstL_swap{a b:En}(hp:a.prop≠b.prop)(A C:List En)(e:En):SW (A++b::a::C) e=SW (A++a::b::C) e:=by
 unfold SW;rw[find_swap hp]
theorem kE_swap{a b:En}(hp:a.prop≠b.prop)(k:Nat)(ps:List Int)(A C:List En)(p:Nat)(e:En):kE k ps (A++b::a::C) p e=kE k ps (A++a::b::C) p e:=by
 unfold kE;rw[any_swap,firstL_swap hp,cntE_swap]
theorem kE_drop{a b:En}(hp:a.prop≠b.prop)(hl:a.leaf≠b.leaf)(k:Nat)(ps:List Int)(A:List En)(p:Nat):kE k ps (A++[a]) p b=kE k ps A p b:=by
 have h1:(a.prop==b.prop)=false:=by simpa using hp
 have h2:(a.leaf==b.leaf)=false:=by simpa using hl
 have hf:SW (A++[a]) b=SW A b:=by
  unfold SW
  rw[ZH]
  have:[a].find? (fun z=>z.prop==b.prop)=none:=by simp[List.find?_cons,h1]
  rw[this]
  cases A.find? (fun z=>z.prop==b.prop)<;>rfl
 have hc:VF (A++[a]) b.leaf=VF A b.leaf:=by rw[cntE_app2];unfold VF;simp[h2]
 unfold kE
 rw[hf,hc,List.any_append]
 simp[h1]
theorem fitR_swap{a b:En}(hp:a.prop≠b.prop)(k:Nat)(ps:List Int)(A:List En):∀(r:List (Nat × En)) (C:List En),fitR k ps (A++b::a::C) r ↔ fitR k ps (A++a::b::C) r
 | [],C=>Iff.rfl
 | y::r,C=>by
  have ih:=fitR_swap hp k ps A r (C++[y.2])
  simp only[fitR,kE_swap hp]
  rw[Xb,Xb]
  exact and_congr Iff.rfl ih
theorem fit_swap{a b:En}(hp:a.prop≠b.prop)(hl:a.leaf≠b.leaf){k:Nat}{ps:List Int}{P:List En}{p q:Nat}{A C:List (Nat × En)}(h:fitR k ps P (A++(p,a)::(q,b)::C)):fitR k ps P (A++(q,b)::(p,a)::C):=by
 rw[fitR_app] at h ⊢
 refine⟨h.1,?_⟩
 have h2:=h.2
 generalize P++A.map (·.2)=Q at h2 ⊢
 simp only[fitR,Xb,Zt] at h2 ⊢
 obtain⟨h3,h4,h5⟩:=h2
 rw[kE_drop hp hl] at h4
 exact⟨h4,by rw[kE_drop hp.symm hl.symm];exact h3,(fitR_swap hp k ps Q C []).2 h5⟩
theorem clE_swap{a b:En}(hp:a.prop≠b.prop)(A C:List En)(q:Int):clE (A++b::a::C) q=clE (A++a::b::C) q:=by
 unfold clE
 congr 1
 rw[List.filter_append,List.filter_append]
 congr 1
 simp only[Va]
 cases h1:a.prop==q<;>cases h2:b.prop==q<;>simp_all
theorem seenE_swap{a b:En}(hp:a.prop≠b.prop)(A C:List En)(q:Int):seenE (A++b::a::C) q=seenE (A++a::b::C) q:=by
 unfold seenE;rw[find_swap hp]
theorem readyB_swap{a b:En}(hp:a.prop≠b.prop)(A C:List En):Jp (A++b::a::C)=Jp (A++a::b::C):=by
 funext out q
 unfold Jp Wa
 rw[seenE_swap hp,show clE (A++b::a::C)=clE (A++a::b::C) from funext (clE_swap hp A C)]
 congr 1
 funext x
 rw[cntE_swap]
theorem pickE_congr{l l':List En}(h:Jp l'=Jp l):∀(f:Nat) (left out:List Int),Y4 l' f left out=Y4 l f left out
 | 0,left,out=>rfl
 | f+1,left,out=>by
  simp only[Y4,h]
  split
  ·rfl
  ·exact pickE_congr h f _ _
theorem asc_ext:∀{l l':List Int},l.Pairwise (· < ·)->l'.Pairwise (· < ·)->(∀ x,x∈l ↔ x∈l')->l=l'
 | [],[],_,_,_=>rfl
 | [],y::l',_,_,h=>absurd ((h y).2 (by simp)) (by simp)
 | x::l,[],_,_,h=>absurd ((h x).1 (by simp)) (by simp)
 | x::l,y::l',h1,h2,h=>by
  obtain⟨a1,a2⟩:=X8.1 h1
  obtain⟨b1,b2⟩:=X8.1 h2
  have hxy:x=y:=by
   rcases Qx.1 ((h x).1 (by simp)) with e | e
   ·exact e
   ·rcases Qx.1 ((h y).2 (by simp)) with e' | e'
    ·exact e'.symm
    ·have:=b1 x e;have:=a1 y e';omega
  subst hxy
  congr 1
  refine asc_ext a2 b2 fun z=>?_
  have hz:=h z
  constructor
  ·intro hm
   rcases Qx.1 (hz.1 (by simp[hm])) with e | e
   ·subst e;exact absurd (a1 z hm) (by omega)
   ·exact e
  ·intro hm
   rcases Qx.1 (hz.2 (by simp[hm])) with e | e
   ·subst e;exact absurd (b1 z hm) (by omega)
   ·exact e
theorem sortI_ext{l l':List Int}(h1:l.Nodup)(h2:l'.Nodup)(h:∀ x,x∈l ↔ x∈l'):Wn l=Wn l':=by
 have lt:∀{l:List Int},l.Nodup->(Wn l).Pairwise (· < ·):=fun {l} hn=>by
  have a:=Rn l
  have b:(Wn l).Nodup:=(WA l).nodup_iff.2 hn
  exact(List.Pairwise.and a b).imp fun h=>by have:=h.1;have:=h.2;omega
 exact asc_ext (lt h1) (lt h2) fun x=>by rw[(WA l).mem_iff,(WA l').mem_iff];exact h x
theorem pick_swap{a b:En}(hp:a.prop≠b.prop){d d':List Sp}{A C:List En}(h:ens d=A++a::b::C)(h':ens d'=A++b::a::C):Yb d'=Yb d:=by
 unfold Yb
 have e:Wn (V6 (ens d'))=Wn (V6 (ens d)):=sortI_ext (Wu _) (Wu _) fun q=>by
  rw[YK,YK,h,h']
  simp only[QV,Qx]
  constructor<;>rintro ⟨e,he,hq⟩<;>exact⟨e,by rcases he with he | he | he | he<;>simp[he],hq⟩
 rw[e]
 exact pickE_congr (by rw[h,h'];exact readyB_swap hp A C) _ _ _
theorem ok_swap{a b:En}(hp:a.prop≠b.prop)(hl:a.leaf≠b.leaf){k:Nat}{ps:List Int}{d d':List Sp}{A C:List (Nat × En)}{p q:Nat}(h:pe d=A++(p,a)::(q,b)::C)(h':pe d'=A++(q,b)::(p,a)::C)(hok:okM k ps d):okM k ps d'/\Yb d'=Yb d:=by
 have e:ens d=A.map (·.2)++a::b::C.map (·.2):=by rw[<-pe_ens,h];simp
 have e':ens d'=A.map (·.2)++b::a::C.map (·.2):=by rw[<-pe_ens,h'];simp
 have hpk:=pick_swap hp e e'
 refine⟨⟨?_,by rw[hpk];exact hok.2⟩,hpk⟩
 rw[fits_fitR,h']
 exact fit_swap hp hl (h ▸ (fits_fitR k ps d).1 hok.1)
noncomputable section
open Nat renaming reduceEqDiff -> rQ, reduceAdd -> rA
theorem Rh{z:Nat}:∀(xs:List (List AV)) (k:Nat) (y:List AV),(∀ x∈xs,x.length=z)->y.length=z->k < xs.length->setCells xs.flatten (k*z) y=(xs.set k y).flatten
 | [],_,_,_,_,h=>absurd h (by simp)
 | a::xs,0,y,hx,hy,_=>by
  have ha:=hx a (by simp)
  unfold setCells
  rw[Nat.zero_mul,Xe,Q7,hy,Xc,List.set_cons_zero,Xc,<-ha,List.drop_left]
  rfl
 | a::xs,k+1,y,hx,hy,h=>by
  have ha:=hx a (by simp)
  have ih:=Rh xs k y (fun x hm=>hx x (by simp[hm])) hy (by simpa using h)
  unfold setCells at ih ⊢
  have e1:(k+1)*z=a.length+k*z:=by rw[Xv,ha];omega
  rw[Xc,List.set_cons_succ,Xc,<-ih,e1,List.take_length_add_append,X1,List.drop_length_add_append,Xb]
theorem iaOwn{id n k z:Nat}(h:k < n)(cap:Option Nat)(lo:Nat):VC z (.own id 0 n z cap lo) (ZI k)=some (.ptr id (k*z)):=by
 simp only[VC]
 rw[Qo (show k+1<=n from h),QD,Q7]
 rfl
def T5:AV->Option Nat
 | .own id _ _ _ _ _=>some id
 | _=>none
def Cp(lo:Nat)(s:St)(v:AV)(l:List En):Prop:=(l=[]/\(v=.nilsl\/v=.lst 0 [] true))\/∃ id,v=.own id 0 l.length 9 none l.length/\lo<=id/\id < s.next/\s.get id=some (.row (l.map En.cells).flatten)
theorem Cp.oid{lo:Nat}{s:St}{v:AV}{l:List En}(h:Cp lo s v l){x:Nat}(hx:T5 v=some x):lo<=x/\x < s.next/\s.get x=some (.row (l.map En.cells).flatten):=by
 rcases h with⟨_,rfl | rfl⟩|⟨id,rfl,h1,h2,h3⟩
 ·cases hx
 ·cases hx
 ·injection hx with hx;subst hx;exact⟨h1,h2,h3⟩
theorem Cp.to{lo lo':Nat}{s s':St}{v:AV}{l:List En}(h:Cp lo s v l)(hl:lo'<=lo)(hn:s.next<=s'.next)(k:∀ x,T5 v=some x->s'.get x=s.get x):Cp lo' s' v l:=by
 rcases h with h|⟨id,rfl,h1,h2,h3⟩
 ·exact .inl h
 ·exact .inr ⟨id,rfl,by omega,by omega,(k id rfl).trans h3⟩
theorem cells_all(l:List En):∀ x∈l.map En.cells,x.length=9/\x.all AV.one=true:=fun x hx=>by
 obtain⟨e,_,rfl⟩:=Q6.1 hx
 exact e.cells9
theorem Cp.sln{lo:Nat}{s:St}{v:AV}{l:List En}(h:Cp lo s v l)(hb:l.length<=100000):SlN 9 (fun i=>lo<=i/\i < s.next) s v (l.map En.cells):=by
 refine⟨by omega,cells_all l,by rw[Qu];omega,?_⟩
 rcases h with⟨rfl,rfl | rfl⟩|⟨id,rfl,h1,h2,h3⟩
 ·exact .inl ⟨rfl,rfl⟩
 ·exact .inr (.inl ⟨true,rfl⟩)
 ·exact .inr (.inr ⟨id,none,l.length,[],by rw[Qu],⟨h1,h2⟩,by rw[h3,QG]⟩)
theorem Cp.one{lo:Nat}{s:St}{v:AV}{l:List En}(h:Cp lo s v l):v.cells=[v]/\AV.one v=true:=by
 rcases h with⟨_,rfl | rfl⟩|⟨id,rfl,_⟩<;>exact⟨rfl,rfl⟩
theorem app9{s:St}{l:List En}(hb:l.length<=4000):∃ v s',VX 136 9 s (.lst 0 [] true) l.length (l.map En.cells).flatten=some (v,s')/\Vd s s'/\Cp s.next s' v l:=by
 cases l with
 | nil=>exact⟨_,_,rfl,Vd.refl s,.inl ⟨rfl,.inr rfl⟩⟩
 | cons e l=>
  refine⟨.own s.next 0 (0+(e::l).length) 9 none (0+(e::l).length),s.new (.row ([]++((e::l).map En.cells).flatten)),?_,Vd.new s _,.inr ⟨s.next,by rw[Q7],Qw _,by show s.next < s.next+1;omega,by rw[St.get_new,Qm rfl];rfl⟩⟩
  have h1:((0+(e::l).length)*136).ble 140737488355328=true:=Qo (by omega)
  have h2:(0+(e::l).length).ble 140737488355328=true:=Qo (by omega)
  unfold VX
  simp only[show (e::l).length.beq 0=false from rfl,Qq,h1,h2]
  rfl
def wg33_0:List Vc:=[ZM 2 (.c .nilsl)]
def wg33_1:List Vc:=[ZV 3 0,ZO 4 (.eqnil 1 false .eql (.t 3) (.c .nilsl))]
def wg33_2:List Vc:=[ZM 2 (.c .nilsl)]
def wg33_3:List Vc:=[ZO 5 (.bslice 0 [] []),ZV 6 0,ZO 7 (.append 136 9 none (.t 5) (.t 6)),ZV 2 7]
def wf33:Vm:=⟨8,(ZQ wg33_0 (.seq (ZQ wg33_1 (.cond (.t 4) (ZR wg33_2) .skip)) (ZR wg33_3))),[.t 2]⟩
theorem t33:tbl 33=some wf33:=by kernel_rfl
theorem clone33_run{F:Nat->Prop}{st:St}{lv:AV}{l:List En}(h:SlN 9 F st lv (l.map En.cells))(hb:l.length<=4000)(m:Nat)(Y:Vi):∃ v st',R (m+1) Y 33 [lv] st=.ret v st'/\Vd st st'/\Cp st.next st' v l:=by
 by_cases hnl:lv=.nilsl
 ·subst hnl
  have hl:l=[]:=by
   rcases h.2.2.2 with⟨_,h2⟩|⟨_,h2⟩|⟨_,_,_,_,h2,_⟩
   ·exact List.map_eq_nil_iff.1 h2
   ·cases h2
   ·cases h2
  have e:Rg 1 .eql .nilsl .nilsl=some (.bool true):=rfl
  obtain⟨fA1,hA1⟩:∃ fA,fA=Vo 0 [.nilsl] Fr.nil:=⟨_,rfl⟩
  have gA1_0:=gAt hA1 0
  have dA1:fA1.ds=[]:=by rw[hA1];rfl
  obtain⟨J2,H2⟩:∃ fr',ar m Y wg33_0 fA1 st=.ok fr' st:=⟨_,by simp only[amE,rQ,rA,wg33_0]<;>rfl⟩
  have V2_0:=ag H2 gA1_0
  obtain⟨J3,H3,O3_4⟩:∃ fr',ar m Y wg33_1 J2 st=.ok fr' st/\fr'.get 4=some (.bool true):=⟨_,by simp only[amE,rQ,rA,V2_0,wg33_1,e]<;>rfl,gh⟩
  obtain⟨J4,H4,O4_2⟩:∃ fr',ar m Y wg33_2 J3 st=.ok fr' st/\fr'.get 2=some (.nilsl):=⟨_,by simp only[amE,rQ,rA,wg33_2]<;>rfl,gh⟩
  refine⟨_,_,Ve (mf:=wf33) (fr:=J4) t33 rfl (.inl ?q4) (ad H4 (ad H3 (ad H2 dA1))) (by simp only[wf33,Vg,Vu,V0,O4_2,Qg,Ql]),Vd.refl _,.inl ⟨hl,.inl rfl⟩⟩
  case q4=>
   rw[<-hA1]
   simp only[amE,rQ,rA,wf33,b00,b11,b22,b33,H2,H3,H4,O3_4]
 ·have e:Rg 1 .eql lv .nilsl=some (.bool false):=by
   rcases h.2.2.2 with⟨h1,_⟩|⟨_,h2⟩|⟨_,_,_,_,h2,_⟩
   ·exact absurd h1 hnl
   ·rw[h2];rfl
   ·rw[h2];rfl
  have ct:=h.content (Vs.refl _ st)
  rw[Qu] at ct
  obtain⟨v,s',ap,k,c⟩:=app9 (s:=st) hb
  have fl:VN [] []=some []:=rfl
  obtain⟨fA5,hA5⟩:∃ fA,fA=Vo 0 [lv] Fr.nil:=⟨_,rfl⟩
  have gA5_0:=gAt hA5 0
  have dA5:fA5.ds=[]:=by rw[hA5];rfl
  obtain⟨J6,H6⟩:∃ fr',ar m Y wg33_0 fA5 st=.ok fr' st:=⟨_,by simp only[amE,rQ,rA,wg33_0]<;>rfl⟩
  have V6_0:=ag H6 gA5_0
  obtain⟨J7,H7,O7_4⟩:∃ fr',ar m Y wg33_1 J6 st=.ok fr' st/\fr'.get 4=some (.bool false):=⟨_,by simp only[amE,rQ,rA,V6_0,wg33_1,e]<;>rfl,gh⟩
  have V7_0:=ag H7 V6_0
  obtain⟨J8,H8,O8_2⟩:∃ fr',ar m Y wg33_3 J7 st=.ok fr' s'/\fr'.get 2=some (v):=⟨_,by simp only[amE,rQ,rA,V7_0,wg33_3,fl,ct,ap,tag0]<;>rfl,gh⟩
  refine⟨_,_,Ve (mf:=wf33) (fr:=J8) t33 rfl (.inl ?q8) (ad H8 (ad H7 (ad H6 dA5))) (by simp only[wf33,Vg,Vu,V0,O8_2,Qg,Ql]),k,c⟩
  case q8=>
   rw[<-hA5]
   simp only[amE,rQ,rA,wf33,b00,b11,b22,b33,H6,H7,H8,O7_4]
def wg13_0:List Vc:=[ZM 2 (.c .nilsl)]
def wg13_1:List Vc:=[ZM 3 (.c .nilsl)]
def wg13_2:List Vc:=[ZV 6 0,ZN 7 6,ZM 8 (ZC 0)]
def wg13_3:List Vc:=[ZO 9 (.bin false .lss (.t 8) (.t 7))]
def wg13_4:List Vc:=[ZP 10 1 6 8,ZL 11 10,ZV 5 11]
def wg13_5:List Vc:=[ZV 12 3,ZV 13 5,ZX 14 33 [(.t 13)],ZO 15 (.bslice 1 [.nilsl] [(0,1,(.t 14))]),ZO 16 (.append 24 1 none (.t 12) (.t 15)),ZV 3 16]
def wg13_6:List Vc:=[ZO 17 (.bin false .add (.t 8) (ZC 1)),ZV 8 17]
def wg13_7:List Vc:=[ZV 18 3,ZV 2 18]
def Ro:Vn:=(ZQ wg13_3 (.seq (.cond (.t 9) .skip (.exit 0)) (.seq (.block 1 (ZQ wg13_4 (.region wg13_5))) (.region wg13_6))))
def wf13:Vm:=⟨19,(ZQ wg13_0 (ZQ wg13_1 (.seq (ZQ wg13_2 (.block 0 (.loop Ro))) (ZR wg13_7)))),[.t 2]⟩
theorem t13:tbl 13=some wf13:=by kernel_rfl
theorem cnt1v(v:AV)(s:St):Wd 1 s (.lst 1 [v] true)=some (1,[v]):=rfl
theorem fl1v{v:AV}(h:v.cells=[v]):VN [.nilsl] [(0,1,v)]=some [v]:=by
 simp[VN,h,setCells,Nat.ble]
set_option maxHeartbeats 1000000 in
theorem copied13_run{F:Nat->Prop}{st:St}{jv:AV}{js:List (AV × List En)}(hj:YQ F st jv js)(hF:∀ i,F i->i < st.next)(ht:tot js<=4000)(hjl:js.length<=4000)(m:Nat)(Y:Vi)(hn:js.length+4 < m):
  ∃ st' cv,∃ vs:List AV,R (m+1) Y 13 [jv] st=.ret cv st'/\Vd st st'/\vs.length=js.length/\GrW 1 st.next st' cv (vs.map fun v=>[v])/\(∀(i:Nat) (v:AV) (p:AV × List En),vs[i]?=some v->js[i]?=some p->Cp st.next st' v p.2/\∀ x,T5 v=some x->¬ hO cv x) ∧
   ∀(i j:Nat) (v w:AV) (x:Nat),i < j->vs[i]?=some v->vs[j]?=some w->T5 v=some x->T5 w≠some x:=by
 obtain⟨q,rfl⟩:∃ q,m=q+1:=⟨m - 1,by omega⟩
 have hln:=hj.1.len st
 rw[Qu] at hln
 have hL:∀(fr:Fr),fr.ds=[]->fr.get 3=some .nilsl->fr.get 6=some jv->fr.get 7=some (ZI js.length)->fr.get 8=some Z0 ->
   ∃ FR s' cv,∃ vs:List AV,Vx (ac (q+1) Y Ro none) (q+1) fr st=.exit 0 FR s'/\FR.ds=[]/\FR.get 3=some cv/\Vd st s'/\vs.length=js.length/\GrW 1 st.next s' cv (vs.map fun v=>[v])/\(∀(i:Nat) (v:AV) (p:AV × List En),vs[i]?=some v->js[i]?=some p->Cp st.next s' v p.2/\∀ x,T5 v=some x->¬ hO cv x) ∧
   ∀(i j:Nat) (v w:AV) (x:Nat),i < j->vs[i]?=some v->vs[j]?=some w->T5 v=some x->T5 w≠some x:=by
  intro fr d0 g3 g6 g7 g8
  refine Ws (B:=ac (q+1) Y Ro none) (N:=js.length) (Inv:=fun k f s=>f.ds=[]/\f.get 6=some jv/\f.get 7=some (ZI js.length)/\f.get 8=some (ZI k)/\Vd st s/\∃ cv,∃ vs:List AV,f.get 3=some cv/\vs.length=k/\GrW 1 st.next s cv (vs.map fun v=>[v])/\(∀(i:Nat) (v:AV) (p:AV × List En),vs[i]?=some v->js[i]?=some p->Cp st.next s v p.2/\∀ x,T5 v=some x->¬ hO cv x) ∧
    ∀(i j:Nat) (v w:AV) (x:Nat),i < j->vs[i]?=some v->vs[j]?=some w->T5 v=some x->T5 w≠some x)
   (Out:=fun r=>∃ FR s' cv,∃ vs:List AV,r=.exit 0 FR s'/\FR.ds=[]/\FR.get 3=some cv/\Vd st s'/\vs.length=js.length/\GrW 1 st.next s' cv (vs.map fun v=>[v])/\(∀(i:Nat) (v:AV) (p:AV × List En),vs[i]?=some v->js[i]?=some p->Cp st.next s' v p.2/\∀ x,T5 v=some x->¬ hO cv x) ∧
   ∀(i j:Nat) (v w:AV) (x:Nat),i < j->vs[i]?=some v->vs[j]?=some w->T5 v=some x->T5 w≠some x) ?_ js.length 0 fr st (q+1) (by omega) (by omega) ⟨d0,g6,g7,g8,Vd.refl st,.nilsl,[],g3,rfl,⟨fun x hx=>by simp at hx,.inl ⟨rfl,rfl⟩⟩,fun i v p h=>by simp at h,fun i j v w x _ h=>by simp at h⟩
  intro k f s hk ⟨d0,q6,q7,q8,hks,cv,vs,q3,hvl,hgr,hcp,hdj⟩
  have hlt:=Wt k js.length
  by_cases hkN:k < js.length
  ·have hx:js[k]?=some js[k]:=Qn hkN
   generalize js[k]=p at hx
   have hpm:=Qr hx
   have hpl:p.2.length<=4000:=QY (mem_sum (Q6.2 ⟨p,hpm,rfl⟩)) ht
   obtain⟨pe,ie,lde⟩:=hj.1.ptr (k:=k) (x:=[p.1]) (by rw[Q5,hx];rfl)
   have hS:Vs F st s:=Vs.of hks hF
   have lde:Vf false 1 s pe=some p.1:=by
    obtain⟨cs,h3,h4⟩:=lde s hS
    simp only[Vf,h3,Qg,h4,Ja,Qq]
   obtain⟨v,s2,c33,k2,hc⟩:=clone33_run (((hj.2 p hpm).1).mono hS fun _ h=>h) hpl q Y
   have c33:((gT (q+1)).cg Y).fn 33 [p.1] s=.ret v s2:=c33
   obtain⟨hvc,hv1⟩:=hc.one
   have fl:=fl1v hvc
   have ct:=cnt1v v s2
   have hml:(vs.map fun v=>[v]).length=k:=by rw[Qu];exact hvl
   obtain⟨s3,ap,n3,o3,hgr3⟩:=hgr.app (bytes:=24) hks.1 (by omega) (by omega) k2 (y:=[v]) ⟨rfl,by simp[hv1]⟩
   rw[hml] at ap hgr3
   have hold:∀ i,i < st.next\/s.next<=i->¬ hO cv i:=fun i hi ⟨_,_,_,_,he⟩=>by
    rcases hgr.2 with⟨h,_⟩|⟨oid,p1,p2,p3,_⟩
    ·rw[h] at he;cases he
    ·rw[p3] at he;injection he with h1;omega
   have hk0:=hks.1
   have hk2:=k2.1
   have k3:Vd st s3:=⟨by omega,fun j hj'=>by rw[o3 j (by omega) (hold j (.inl hj')),k2.2 j (by omega),hks.2 j hj']⟩
   have hnew:∀ i,i < s2.next->¬ hO (.own s2.next 0 (k+1) 1 none (k+1)) i:=fun i hi ⟨_,_,_,_,he⟩=>by injection he with h1;omega
   have hcp':∀(i:Nat) (w:AV) (p':AV × List En),(vs++[v])[i]?=some w->js[i]?=some p'->Cp st.next s3 w p'.2/\∀ x,T5 w=some x->¬ hO (.own s2.next 0 (k+1) 1 none (k+1)) x:=fun i w p' hw hp'=>by
    by_cases hik:i < k
    ·rw[Xk (by omega)] at hw
     obtain⟨h1,h2⟩:=hcp i w p' hw hp'
     have hb:=fun x hx=>(h1.oid (x:=x) hx).2.1
     exact⟨h1.to (Qw _) (by omega) fun x hx=>by have:=hb x hx;rw[o3 x (by omega) (h2 x hx),k2.2 x this],fun x hx=>hnew x (by have:=hb x hx;omega)⟩
    ·by_cases hik2:i=k
     ·subst hik2
      rw[Xg (by omega),hvl,ZJ] at hw
      simp only[Q0,Qa] at hw
      subst hw
      rw[hx] at hp';injection hp' with hp';subst hp'
      have hb:=fun x hx=>(hc.oid (x:=x) hx)
      exact⟨hc.to hk0 (by omega) fun x hx=>o3 x (hb x hx).2.1 (hold x (.inr (hb x hx).1)),fun x hx=>hnew x (hb x hx).2.1⟩
     ·rw[Za (by simp;omega)] at hw;cases hw
   have hdj':∀(i j:Nat) (v' w:AV) (x:Nat),i < j->(vs++[v])[i]?=some v'->(vs++[v])[j]?=some w->T5 v'=some x->T5 w≠some x:=fun i j v' w x hij hv' hw hx'=>by
    by_cases hjk:j < k
    ·rw[Xk (by omega)] at hv' hw
     exact hdj i j v' w x hij hv' hw hx'
    ·by_cases hjk2:j=k
     ·subst hjk2
      rw[Xk (by omega)] at hv'
      rw[Xg (by omega),hvl,ZJ] at hw
      simp only[Q0,Qa] at hw
      subst hw
      intro hx2
      have h1:=(hc.oid hx2).1
      have h3:js[i]?=some js[i]:=Qn (by omega)
      have h2:=((hcp i v' _ hv' h3).1.oid hx').2.1
      omega
     ·rw[Za (by simp;omega)] at hw;cases hw
   have had:=WC (i:=k) (by omega)
   rw[Qs hkN] at hlt
   obtain⟨J9,H9,O9_9⟩:∃ fr',ar (q+1) Y wg13_3 f s=.ok fr' s/\fr'.get 9=some (.bool true):=⟨_,by simp only[amE,rQ,rA,q7,q8,wg13_3,hlt]<;>rfl,gh⟩
   have V9_6:=ag H9 q6
   have V9_8:=ag H9 q8
   obtain⟨J10,H10,O10_5⟩:∃ fr',ar (q+1) Y wg13_4 J9 s=.ok fr' s/\fr'.get 5=some (p.1):=⟨_,by simp only[amE,rQ,rA,V9_6,V9_8,wg13_4,ie,lde]<;>rfl,gh⟩
   have V10_3:=ag H10 (ag H9 q3)
   obtain⟨J11,H11,O11_3⟩:∃ fr',ar (q+1) Y wg13_5 J10 s=.ok fr' s3/\fr'.get 3=some (.own s2.next 0 (k+1) 1 none (k+1)):=⟨_,by simp only[amE,rQ,rA,V10_3,O10_5,wg13_5,c33,fl,ct,ap,tag0]<;>rfl,gh⟩
   have V11_8:=ag H11 (ag H10 V9_8)
   obtain⟨J12,H12,O12_8⟩:∃ fr',ar (q+1) Y wg13_6 J11 s3=.ok fr' s3/\fr'.get 8=some (ZI ((k+1))):=⟨_,by simp only[amE,rQ,rA,V11_8,wg13_6,had]<;>rfl,gh⟩
   have hI12:ac (q+1) Y Ro none f s=.norm J12 s3:=by
    simp only[amE,rQ,rA,Ro,b00,b11,b22,b33,H9,H10,H11,H12,O9_9]
   rw[hI12]
   exact⟨hkN,(ad H12 (ad H11 (ad H10 (ad H9 d0)))),(ag H12 (ag H11 (ag H10 V9_6))),(ag H12 (ag H11 (ag H10 (ag H9 q7)))),O12_8,k3,_,vs++[v],(ag H12 O11_3),by simp[hvl],by rw[QQ];exact hgr3,hcp',hdj'⟩
  ·rw[Qp hkN] at hlt
   obtain⟨J13,H13,O13_9⟩:∃ fr',ar (q+1) Y wg13_3 f s=.ok fr' s/\fr'.get 9=some (.bool false):=⟨_,by simp only[amE,rQ,rA,q7,q8,wg13_3,hlt]<;>rfl,gh⟩
   have hI13:ac (q+1) Y Ro none f s=.exit 0 J13 s:=by
    simp only[amE,rQ,rA,Ro,b00,b11,b22,b33,H13,O13_9]
   rw[hI13]
   exact⟨_,_,cv,vs,rfl,(ad H13 d0),(ag H13 q3),hks,by omega,hgr,hcp,hdj⟩
 obtain⟨fA14,hA14⟩:∃ fA,fA=Vo 0 [jv] Fr.nil:=⟨_,rfl⟩
 have gA14_0:=gAt hA14 0
 have dA14:fA14.ds=[]:=by rw[hA14];rfl
 obtain⟨J15,H15⟩:∃ fr',ar (q+1) Y wg13_0 fA14 st=.ok fr' st:=⟨_,by simp only[amE,rQ,rA,wg13_0]<;>rfl⟩
 obtain⟨J16,H16,O16_3⟩:∃ fr',ar (q+1) Y wg13_1 J15 st=.ok fr' st/\fr'.get 3=some (.nilsl):=⟨_,by simp only[amE,rQ,rA,wg13_1]<;>rfl,gh⟩
 have V16_0:=ag H16 (ag H15 gA14_0)
 obtain⟨J17,H17,O17_6,O17_7,O17_8⟩:∃ fr',ar (q+1) Y wg13_2 J16 st=.ok fr' st/\fr'.get 6=some (jv)/\fr'.get 7=some (ZI js.length)/\fr'.get 8=some Z0:=⟨_,by simp only[amE,rQ,rA,V16_0,wg13_2,hln]<;>rfl,gn (gn gh),gn gh,gh⟩
 obtain⟨FR,s',cv,vs,hL,dF,F3,k3,hvl,hgr,hcp,hdj⟩:=hL J17 (ad H17 (ad H16 (ad H15 dA14))) (ag H17 O16_3) O17_6 O17_7 O17_8
 obtain⟨J19,H19,O19_2⟩:∃ fr',ar (q+1) Y wg13_7 FR s'=.ok fr' s'/\fr'.get 2=some (cv):=⟨_,by simp only[amE,rQ,rA,F3,wg13_7]<;>rfl,gh⟩
 refine⟨_,cv,vs,Ve (mf:=wf13) (fr:=J19) t13 rfl (.inl ?q19) (ad H19 dF) (by simp only[wf13,Vg,Vu,V0,O19_2,Qg,Ql]),k3,hvl,hgr,hcp,hdj⟩
 case q19=>
  rw[<-hA14]
  simp only[amE,rQ,rA,wf13,b00,b11,b22,b33,H15,H16,H17,hL,H19]
end
theorem swap_split{α:Type}:∀{l:List α} {q:Nat} {a b:α},l[q]?=some a->l[q+1]?=some b->∃ l1 l2,l=l1++a::b::l2/\(l.set (q+1) a).set q b=l1++b::a::l2
 | [],_,_,_,h,_=>by simp at h
 | [_],_,_,_,_,h=>by simp at h
 | x::y::l,0,a,b,ha,hb=>by
  simp only[Q0,Qa] at ha
  simp only[Q7,QE,Q0,Qa] at hb
  subst ha hb
  exact⟨[],l,rfl,rfl⟩
 | x::y::l,q+1,a,b,ha,hb=>by
  simp only[QE] at ha hb
  obtain⟨l1,l2,h1,h2⟩:=swap_split (l:=y::l) ha hb
  refine⟨x::l1,l2,by rw[h1];rfl,?_⟩
  rw[List.set_cons_succ,List.set_cons_succ,h2];rfl
theorem map_set_same{α β:Type}{f:α->β}{ll:List α}{i:Nat}{l l':α}(hi:ll[i]?=some l)(h:f l'=f l):(ll.set i l').map f=ll.map f:=by
 rw[List.map_set,h]
 apply Zn
 intro j
 rw[List.getElem?_set]
 split
 ·rename_i e
  subst e
  rw[Q5,hi]
  split
  ·rfl
  ·rename_i h2
   have:=(Qt.1 hi).1
   rw[Qu] at h2;omega
 ·rfl
structure Swp(js js':List (AV × List En))(a b:En):Prop where
 sp:∃ (i:Nat) (l1 l2:List En),(js.map (·.2))[i]?=some (l1++a::b::l2)/\js'.map (·.2)=(js.map (·.2)).set i (l1++b::a::l2)
 hp:a.prop≠b.prop
 hl:a.leaf≠b.leaf
theorem Swp.sum{js js':List (AV × List En)}{a b:En}(h:Swp js js' a b){β:Type}(f:List En->β)(hf:∀ l1 l2,f (l1++b::a::l2)=f (l1++a::b::l2)):(js'.map (·.2)).map f=(js.map (·.2)).map f:=by
 obtain⟨i,l1,l2,h1,h2⟩:=h.sp
 rw[h2];exact map_set_same h1 (hf l1 l2)
theorem Swp.tot{js js':List (AV × List En)}{a b:En}(h:Swp js js' a b):Go.AM.D32.tot js'=Go.AM.D32.tot js:=by
 have:=h.sum List.length fun l1 l2=>by simp
 rw[Xq,Xq] at this
 exact Xn List.sum this
theorem Swp.fzJ{js js':List (AV × List En)}{a b:En}(h:Swp js js' a b):Go.AM.D32.fzJ js'=Go.AM.D32.fzJ js:=by
 have:=h.sum (fun l=>(l.map En.fz).sum+l.length+1) fun l1 l2=>by simp;omega
 rw[Xq,Xq] at this
 exact Xn List.sum this
theorem Swp.len{js js':List (AV × List En)}{a b:En}(h:Swp js js' a b):js'.length=js.length:=by
 obtain⟨i,l1,l2,h1,h2⟩:=h.sp
 have:=Xn List.length h2
 simpa using this
theorem Swp.areB{js js':List (AV × List En)}{a b:En}(h:Swp js js' a b){k:Nat}{N:Int}(hA:Go.AM.D32.areB k N js=true):Go.AM.D32.areB k N js'=true:=by
 unfold Go.AM.D32.areB at hA ⊢
 rw[h.tot,h.len]
 have:=h.sum (fun l=>l.all (En.good k)) fun l1 l2=>by simp only[List.all_append,QN];ac_rfl
 have e:∀ js:List (AV × List En),(js.all fun p=>p.2.all (En.good k))=((js.map (·.2)).map fun l=>l.all (En.good k)).all id:=fun js=>by
  rw[List.all_map,List.all_map];rfl
 rw[e,this,<-e];exact hA
theorem Swp.law{js js':List (AV × List En)}{a b:En}(h:Swp js js' a b):∃ A C,ens (Vq js)=A++a::b::C/\ens (Vq js')=A++b::a::C/\∀(k:Nat) (ps:List Int),okM k ps (Vq js)->okM k ps (Vq js')/\Yb (Vq js')=Yb (Vq js):=by
 obtain⟨i,l1,l2,h1,h2⟩:=h.sp
 obtain⟨A,C,p1,p2⟩:=peJ_set (js.map (·.2)) 0 i _ h1
 have q1:pe (Vq js)=(A++l1.map fun e=>(0+i,e))++(0+i,a)::(0+i,b)::((l2.map fun e=>(0+i,e))++C):=by
  rw[pe_spots,p1];simp
 have q2:pe (Vq js')=(A++l1.map fun e=>(0+i,e))++(0+i,b)::(0+i,a)::((l2.map fun e=>(0+i,e))++C):=by
  rw[pe_spots,h2,p2];simp
 refine⟨(A++l1.map fun e=>(0+i,e)).map (·.2),((l2.map fun e=>(0+i,e))++C).map (·.2),?_,?_,fun k ps hok=>ok_swap h.hp h.hl q1 q2 hok⟩
 ·rw[<-pe_ens,q1,QQ];rfl
 ·rw[<-pe_ens,q2,QQ];rfl
def Res(sp:List Sp)(s:St)(mv:AV):Prop:=∃ (PS:List Pr) (rows:List (List AV)),PS.map (fun x=>x.e.prop)=(Yb sp).2/\SlN 7 (fun i=>i < s.next) s mv rows/\rows.length=PS.length/\(∀(j:Nat) (x:Pr) (ys:List AV),PS[j]?=some x->rows[j]?=some ys->MvR (fun i=>i < s.next) s x ys) ∧
 ∀ x∈PS,(ens sp).find? (fun z=>z.prop==x.e.prop)=some x.e/\x.cl=clE (ens sp) x.e.prop/\s.get x.cid=some (.row (V9 (VY x.cl)))/\x.cid < s.next
theorem Res.mono{sp:List Sp}{s s':St}{mv:AV}(h:Res sp s mv)(k:Vd s s'):Res sp s' mv:=by
 obtain⟨PS,rows,h1,h2,h3,h4,h5⟩:=h
 have hS:Vs (fun i=>i < s.next) s s':=fun i hi=>k.2 i hi
 have hn:=k.1
 refine⟨PS,rows,h1,h2.mono hS fun i hi=>by omega,h3,fun j x ys hj hr=>(h4 j x ys hj hr).mono hS fun i hi=>by omega,fun x hx=>?_⟩
 obtain⟨p1,p2,p3,p4⟩:=h5 x hx
 exact⟨p1,p2,(k.2 _ p4).trans p3,by omega⟩
theorem Res.of{sp:List Sp}{lo:Nat}{s:St}{mv:AV}{PS:List Pr}{rows:List (List AV)}(h1:PS.map (fun x=>x.e.prop)=(Yb sp).2)(h2:SlN 7 (fun i=>lo<=i/\i < s.next) s mv rows)(h3:rows.length=PS.length)(h4:∀(j:Nat) (x:Pr) (ys:List AV),PS[j]?=some x->rows[j]?=some ys->MvR (fun i=>lo<=i/\i < s.next) s x ys)(h5:∀ x∈PS,PrM sp lo s x):Res sp s mv:=by
 refine⟨PS,rows,h1,h2.mono (Vs.refl _ _) fun i hi=>hi.2,h3,fun j x ys hj hr=>(h4 j x ys hj hr).mono (Vs.refl _ _) fun i hi=>hi.2,fun x hx=>?_⟩
 obtain⟨p1,p2,_,p4,_,_,_,p8⟩:=h5 x hx
 refine⟨?_,p2,p4,p8⟩
 unfold ens
 rw[List.find?_map]
 show Option.map _ (sp.find? fun z=>z.2.2.prop==x.e.prop)=_
 rw[p1];rfl
theorem Res.same{sp sp':List Sp}{s:St}{mv mw:AV}(h:Res sp s mv)(h':Res sp' s mw)(hpk:Yb sp'=Yb sp)(hfd:∀ q:Int,(ens sp').find? (fun z=>z.prop==q)=(ens sp).find? (fun z=>z.prop==q))(hcl:∀ q:Int,clE (ens sp') q=clE (ens sp) q)
  {m:Nat} (Y:Vi) (hfz:∀ e∈ens sp,e.fz+8000 < m) (hel:(ens sp).length<=4000) (hm:8000 < m) (hpl:(Yb sp).2.length<=4000):R (m+1) Y 19 [mv,mw] s=.ret (.bool true) s:=by
 obtain⟨PS,rows,h1,h2,h3,h4,h5⟩:=h
 obtain⟨PS',rows',h1',h2',h3',h4',h5'⟩:=h'
 have hll:PS'.length=PS.length:=by
  have e:=Xn List.length (h1'.trans ((Xn (·.2) hpk).trans h1.symm))
  simpa using e
 have hpl2:PS.length<=4000:=by rw[<-h1,Qu] at hpl;exact hpl
 refine sameMoves19_run h2 h2' (by omega) m Y (by omega) fun k ys ys' hy hy'=>?_
 have hk:k < rows.length:=(Qt.1 hy).1
 have hx:PS[k]?=some PS[k]:=Qn (by omega)
 have hx':PS'[k]?=some PS'[k]:=Qn (by omega)
 generalize PS[k]=x at hx
 generalize PS'[k]=x' at hx'
 obtain⟨p1,p2,p3,p4⟩:=h5 x (Qr hx)
 obtain⟨q1,q2,q3,q4⟩:=h5' x' (Qr hx')
 have hpp:x'.e.prop=x.e.prop:=by
  have e:PS'.map (fun x=>x.e.prop)=PS.map (fun x=>x.e.prop):=h1'.trans ((Xn (·.2) hpk).trans h1.symm)
  have e2:=Xn (fun l=>l[k]?) e
  simp only[Q5,hx,hx',Ql,Qa] at e2
  exact e2
 have hee:x'.e=x.e:=by
  rw[hpp,hfd,p1] at q1;injection q1 with q1;exact q1.symm
 have hcc:x'.cl=x.cl:=by rw[p2,q2,hpp,hcl]
 have hem:x.e∈ens sp:=X9 p1
 have hf:=hfz _ hem
 unfold En.fz at hf
 obtain⟨sv,xv,cs,rfl,a2,a3,a4⟩:=h4 k x ys hx hy
 obtain⟨sw,yv,ds,rfl,b2,b3,b4⟩:=h4' k x' ys' hx' hy'
 rw[hee] at b3 b4
 have hcl4:x.cl.length<=4000:=by rw[p2];exact QY (clE_len _ _) hel
 have c1:ClS s x.csl x.cid (VY x.cl):=.inr ⟨by unfold Pr.csl;rw[(Ug x.cl).length_eq],p3⟩
 have c2:ClS s x'.csl x'.cid (VY x.cl):=.inr ⟨by unfold Pr.csl;rw[hcc,(Ug x.cl).length_eq],by rw[q3,hcc]⟩
 have hsl:(VY x.cl).length=x.cl.length:=(Ug x.cl).length_eq
 rw[hee]
 cases hd:x.e.d with
 | mk r nv ev vs nl ex l=>
 rw[hd] at a4 b4 hf
 have a5:=a4
 have b5:=b4
 simp only[VU] at a5 b5
 obtain⟨s1,_,s2,_,rfl,_⟩:=a5
 obtain⟨t1,_,t2,_,rfl,_⟩:=b5
 obtain⟨q,rfl⟩:∃ q,m=q+1:=⟨m - 1,by omega⟩
 exact sameMove36_run a2 b2 a3 b3 x.e.prop x.e.gate r a4 b4 (c1.sl (by omega)) (c2.sl (by omega)) q Y (by omega) (by omega) (by omega)
noncomputable section
open Nat renaming reduceEqDiff -> rQ, reduceAdd -> rA
theorem load_fptr{st:St}{k:Nat}{x:List AV}{a:AV}(hx:x[k]?=some a):Vf false 1 st (.fptr x k)=some a:=by
 simp only[Vf,Wy,Qg]
 have hk:=(Qt.1 hx)
 rw[XO hk.1,hk.2]
 rfl
theorem flat_cell{z:Nat}{xs:List (List AV)}{rest:List AV}{k o:Nat}{x:List AV}{v:AV}(hz:∀ x∈xs,x.length=z)(hx:xs[k]?=some x)(hv:x[o]?=some v):(xs.flatten++rest)[k*z+o]?=some v:=by
 have h:=flatZ (rest:=rest) hz hx
 have ho:o < z:=by rw[<-hz x (Qr hx)];exact(Qt.1 hv).1
 rw[<-h,X6,Qm ho,XV] at hv
 exact hv
theorem SlN.fld{z:Nat}{F:Nat->Prop}{st:St}{sl:AV}{xs:List (List AV)}(h:SlN z F st sl xs){k:Nat}{x:List AV}(hx:xs[k]?=some x):
  ∃ p,VC z sl (ZI k)=some p/\(∀ st',Vs F st st'->Vf true z st' p=some (.agg x))/\∀(o:Nat) (v:AV),x[o]?=some v->∃ r,WG o p=some r/\∀ st',Vs F st st'->Vf false 1 st' r=some v:=by
 obtain⟨p,h1,h2⟩:=h.at hx
 refine⟨p,h1,h2,fun o v hv=>?_⟩
 obtain⟨h0,g1,g2,g3⟩:=h
 have hk:=(Qt.1 hx).1
 have hz:=fun x hx=>(g1 x hx).1
 rcases g3 with⟨rfl,rfl⟩|⟨ex,rfl⟩|⟨id,cap,lo,rest,rfl,hi,hg⟩
 ·simp at hk
 ·have hp:p=.fptr xs.flatten (k*z):=by
   simp only[VC] at h1
   rw[Qo (show k+1<=xs.length from hk)] at h1
   simp only[Qi] at h1
   split at h1
   ·rename_i he
    have hl:=SX hz
    rw[he] at hl
    have:0 < xs.length*z:=Nat.mul_pos (by omega) h0
    simp at hl;omega
   ·injection h1 with h1;exact h1.symm
  subst hp
  refine⟨_,rfl,fun st' _=>load_fptr ?_⟩
  have:=flat_cell (rest:=[]) hz hx hv
  simpa using this
 ·have hp:p=.ptr id (k*z):=by
   rw[iaOwn hk] at h1;injection h1 with h1;exact h1.symm
  subst hp
  exact⟨_,rfl,fun st' hs=>Vk ((hs id hi).trans hg) (flat_cell hz hx hv)⟩
theorem sub1N{j:Nat}(h:j<=9223372036854775807):Vr false .sub (ZI ((j+1))) (ZI 1)=some (ZI j):=by
 show some (AV.int .i64 (wr .i64 (Int.ofNat (j+1) - Int.ofNat 1)))=_
 rw[show Int.ofNat (j+1) - Int.ofNat 1=Int.ofNat j by simp only[Int.ofNat_eq_natCast];omega,wr_nat h]
theorem T3(s s':St):Vs (fun _=>False) s s':=fun _ h=>h.elim
theorem swap_rep{lo:Nat}{s2 s4:St}{cv:AV}{vs:List AV}{js:List (AV × List En)}{i id:Nat}{xv:AV}{l l':List En}(hi:js[i]?=some (xv,l))(hok:∀ p∈js,∀ e∈p.2,e.ok)(hll:l'.length=l.length)(hlb:∀ p∈js,p.2.length<=100000)(hjb:js.length<=4000)(hl':∀ e∈l',e∈l)(hvl:vs.length=js.length)(hgr:GrW 1 lo s2 cv (vs.map fun v=>[v]))
  (hcp:∀(i:Nat) (v:AV) (p:AV × List En),vs[i]?=some v->js[i]?=some p->Cp lo s2 v p.2/\∀ x,T5 v=some x->¬ hO cv x) (hdj:∀(i j:Nat) (v w:AV) (x:Nat),i < j->vs[i]?=some v->vs[j]?=some w->T5 v=some x->T5 w≠some x)
  (hiv:vs[i]?=some (.own id 0 l.length 9 none l.length)) (i1:lo<=id) (i2:id < s2.next) (n4:s4.next=s2.next) (o4:∀ x,x≠id->s4.get x=s2.get x) (g4:s4.get id=some (.row (l'.map En.cells).flatten)):
  YQ (fun x=>lo<=x/\x < s4.next) s4 cv (vs.zip ((js.map (·.2)).set i l')):=by
 have hlen:((js.map (·.2)).set i l').length=vs.length:=by simp[hvl]
 constructor
 ·have e:(vs.zip ((js.map (·.2)).set i l')).map (fun p=>[p.1])=vs.map fun v=>[v]:=by
   have h:=List.map_fst_zip (l₁:=vs) (l₂:=(js.map (·.2)).set i l') (by omega)
   conv=>rhs;rw[<-h]
   rw[Xq];rfl
  rw[e]
  obtain⟨h1,h2⟩:=hgr
  refine⟨by omega,h1,by rw[Qu];omega,?_⟩
  rcases h2 with⟨_,h⟩|⟨oid,p1,p2,p3,p4⟩
  ·rw[List.map_eq_nil_iff.1 h] at hiv
   simp at hiv
  ·have hne:oid≠id:=fun e=>(hcp i _ _ hiv hi).2 id rfl ⟨_,_,_,_,e ▸ p3⟩
   exact .inr (.inr ⟨oid,none,_,[],p3,⟨p1,by omega⟩,by rw[o4 oid hne,p4,QG]⟩)
 ·intro p hp
  obtain⟨t,ht⟩:=List.getElem?_of_mem hp
  obtain⟨q1,q2⟩:=List.getElem?_zip_eq_some.1 ht
  by_cases hti:t=i
  ·subst hti
   have hlt:t < (js.map (·.2)).length:=by rw[Qu];exact(Qt.1 hi).1
   rw[List.getElem?_set_self hlt] at q2
   injection q2 with q2
   rw[hiv] at q1;injection q1 with q1
   have hm:=Qr hi
   rw[<-q1,<-q2]
   refine⟨?_,fun e he=>hok _ hm e (hl' e he)⟩
   have hc:Cp lo s4 (.own id 0 l.length 9 none l.length) l':=.inr ⟨id,by rw[hll],i1,by omega,g4⟩
   exact hc.sln (by have:=hlb _ hm;simp at this;omega)
  ·rw[List.getElem?_set_ne (fun e=>hti e.symm),Q5] at q2
   obtain⟨p0,r1,r2⟩:=Qf.1 q2
   obtain⟨hc,_⟩:=hcp t p.1 p0 q1 r1
   have hm:=Qr r1
   rw[<-r2]
   refine⟨?_,fun e he=>hok _ hm e he⟩
   refine (hc.to (s':=s4) (Qw _) (by omega) fun x hx=>o4 x fun e=>?_).sln (hlb _ hm)
   subst e
   rcases Nat.lt_or_gt_of_ne hti with h | h
   ·exact hdj t i _ _ x h q1 hiv hx rfl
   ·exact hdj i t _ _ x h hiv q1 rfl hx
def wg5_0:List Vc:=[ZO 2 (.box true (.t 0)),ZM 4 (ZB false)]
def wg5_1:List Vc:=[ZX 15 6 [],ZO 16 (.un .not (.t 15))]
def wg5_2:List Vc:=[ZM 4 (ZB false)]
def wg5_3:List Vc:=[ZV 17 1,ZX 18 7 [(.t 17)],ZO 19 (.un .not (.t 18)),ZV 20 19,ZG 21 (.load true 3 (.t 2)) 20 false,ZG 22 (.call (.c (.func (.func 8) [] [])) [(.t 21)]) 20 false,ZG 23 (.un .not (.t 22)) 20 false,ZO 24 (.pick (.t 20) (ZB true) (.t 23)),ZV 25 24,ZG 26 (.load true 3 (.t 2)) 25 false,ZG 27 (.mv (.t 1)) 25 false,ZG 28 (.call (.c (.func (.func 9) [] [])) [(.t 26),(.t 27)]) 25 false,ZG 29 (.un .not (.t 28)) 25 false,ZO 30 (.pick (.t 25) (ZB true) (.t 29))]
def wg5_4:List Vc:=[ZM 4 (ZB true)]
def wg5_5:List Vc:=[ZK 32 3 2,ZV 33 1,ZX 34 10 [(.t 32),(.t 33)],ZV 31 34,ZO 35 (.extract 0 (.t 31)),ZO 36 (.extract 1 (.t 31)),ZO 37 (.extract 2 (.t 31)),ZO 6 (.alloc [Z0,Z0,Z0]),ZV 5 35,ZS 3 6 36,ZV 7 37]
def wg5_6:List Vc:=[ZV 38 7,ZO 39 (.bin false .neq (.t 38) (ZC 0)),ZV 40 39,ZG 41 (.faddr 0 (.t 6)) 40 false,ZG 42 (.load false 1 (.t 41)) 40 false,ZG 43 (.bin false .neq (.t 42) (ZC 0)) 40 false,ZO 44 (.pick (.t 40) (ZB true) (.t 43))]
def wg5_7:List Vc:=[ZV 45 7,ZO 46 (.bin false .eql (.t 45) (ZC 0)),ZV 4 46]
def wg5_8:List Vc:=[ZV 47 1,ZN 48 47,ZM 49 (ZC 0)]
def wg5_9:List Vc:=[ZO 50 (.bin false .lss (.t 49) (.t 48))]
def wg5_10:List Vc:=[ZV 51 49,ZP 52 1 47 49,ZL 53 52,ZV 8 51,ZV 9 53]
def wg5_11:List Vc:=[ZM 10 (ZC 1)]
def wg5_12:List Vc:=[ZV 54 10,ZV 55 9,ZN 56 55,ZO 57 (.bin false .lss (.t 54) (.t 56))]
def wg5_13_0:List Vc:=[ZV 60 9,ZV 61 10,ZP 62 9 60 61,ZA 63 0 62,ZL 64 63,ZV 65 9,ZV 66 10,ZO 67 (.bin false .sub (.t 66) (ZC 1)),ZP 68 9 65 67,ZA 69 0 68,ZL 70 69,ZO 71 (.bin false .eql (.t 64) (.t 70)),ZV 72 71]
def wg5_13_1:List Vc:=[ZG 73 (.mv (.t 9)) 72 false,ZG 74 (.mv (.t 10)) 72 false,ZG 75 (.iaddr 9 (.t 73) (.t 74)) 72 false,ZG 76 (.faddr 2 (.t 75)) 72 false,ZG 77 (.load false 1 (.t 76)) 72 false,ZG 78 (.mv (.t 9)) 72 false,ZG 79 (.mv (.t 10)) 72 false,ZG 80 (.bin false .sub (.t 79) (ZC 1)) 72 false,ZG 81 (.iaddr 9 (.t 78) (.t 80)) 72 false,ZG 82 (.faddr 2 (.t 81)) 72 false,ZG 83 (.load false 1 (.t 82)) 72 false,ZG 84 (.bin false .eql (.t 77) (.t 83)) 72 false,ZO 85 (.pick (.t 72) (ZB true) (.t 84))]
def wg5_13:List (Vc × Nat):=[(ZV 60 9,0),(ZV 61 10,0),(ZP 62 9 60 61,3),(ZA 63 0 62,7),(ZL 64 63,15),(ZV 65 9,0),(ZV 66 10,0),(ZO 67 (.bin false .sub (.t 66) (ZC 1)),64),(ZP 68 9 65 67,224),(ZA 69 0 68,480),(ZL 70 69,992),(ZO 71 (.bin false .eql (.t 64) (.t 70)),2047),(ZV 72 71,4095),(ZG 73 (.mv (.t 9)) 72 false,8191),(ZG 74 (.mv (.t 10)) 72 false,8191),(ZG 75 (.iaddr 9 (.t 73) (.t 74)) 72 false,32767),(ZG 76 (.faddr 2 (.t 75)) 72 false,65535),(ZG 77 (.load false 1 (.t 76)) 72 false,131071),(ZG 78 (.mv (.t 9)) 72 false,8191),(ZG 79 (.mv (.t 10)) 72 false,8191),(ZG 80 (.bin false .sub (.t 79) (ZC 1)) 72 false,532479),(ZG 81 (.iaddr 9 (.t 78) (.t 80)) 72 false,1843199),(ZG 82 (.faddr 2 (.t 81)) 72 false,3940351),(ZG 83 (.load false 1 (.t 82)) 72 false,8134655),(ZG 84 (.bin false .eql (.t 77) (.t 83)) 72 false,16777215),(ZO 85 (.pick (.t 72) (ZB true) (.t 84)),33554431)]
def wg5_14:List Vc:=[ZV 86 1,ZX 87 13 [(.t 86)],ZV 11 87]
def wg5_15_0:List Vc:=[ZV 88 11,ZV 89 8,ZP 90 1 88 89,ZL 91 90,ZV 92 10,ZV 93 11,ZV 94 8,ZP 95 1 93 94,ZL 96 95]
def wg5_15_1:List Vc:=[ZV 97 10,ZO 98 (.bin false .sub (.t 97) (ZC 1)),ZV 99 9,ZV 100 10,ZO 101 (.bin false .sub (.t 100) (ZC 1)),ZP 102 9 99 101,ZK 103 9 102]
def wg5_15_2:List Vc:=[ZV 104 9,ZV 105 10,ZP 106 9 104 105,ZK 107 9 106]
def wg5_15_3:List Vc:=[ZP 108 9 91 92,ZS 9 108 103,ZP 109 9 96 98,ZS 9 109 107]
def wg5_15:List (Vc × Nat):=[(ZV 88 11,0),(ZV 89 8,0),(ZP 90 1 88 89,3),(ZL 91 90,7),(ZV 92 10,0),(ZV 93 11,0),(ZV 94 8,0),(ZP 95 1 93 94,96),(ZL 96 95,224),(ZV 97 10,0),(ZO 98 (.bin false .sub (.t 97) (ZC 1)),512),(ZV 99 9,0),(ZV 100 10,0),(ZO 101 (.bin false .sub (.t 100) (ZC 1)),4096),(ZP 102 9 99 101,14336),(ZK 103 9 102,30720),(ZV 104 9,0),(ZV 105 10,0),(ZP 106 9 104 105,196608),(ZK 107 9 106,458752),(ZP 108 9 91 92,1047039),(ZS 9 108 103,2095615),(ZP 109 9 96 98,4194303),(ZS 9 109 107,8388607)]
def wg5_16:List Vc:=[ZK 111 3 2,ZV 112 11,ZX 113 10 [(.t 111),(.t 112)],ZV 110 113,ZO 114 (.extract 0 (.t 110)),ZO 115 (.extract 1 (.t 110)),ZO 116 (.extract 2 (.t 110)),ZO 13 (.alloc [Z0,Z0,Z0]),ZV 12 114,ZS 3 13 115,ZV 14 116]
def wg5_17:List Vc:=[ZV 117 14,ZO 118 (.bin false .neq (.t 117) (ZC 0)),ZV 119 118,ZG 120 (.faddr 0 (.t 13)) 119 false,ZG 121 (.load false 1 (.t 120)) 119 false,ZG 122 (.bin false .neq (.t 121) (ZC 0)) 119 false,ZO 123 (.pick (.t 119) (ZB true) (.t 122)),ZV 124 123,ZG 125 (.mv (.t 5)) 124 false,ZG 126 (.mv (.t 12)) 124 false,ZG 127 (.call (.c (.func (.func 19) [] [])) [(.t 125),(.t 126)]) 124 false,ZG 128 (.un .not (.t 127)) 124 false,ZO 129 (.pick (.t 124) (ZB true) (.t 128))]
def wg5_18:List Vc:=[ZM 4 (ZB false)]
def wg5_19:List Vc:=[ZV 58 10,ZO 59 (.bin false .add (.t 58) (ZC 1)),ZV 10 59]
def wg5_20:List Vc:=[ZO 130 (.bin false .add (.t 49) (ZC 1)),ZV 49 130]
def wg5_21:List Vc:=[ZM 4 (ZB true)]
def wl5_0:Vn:=(.seq (ZQ wg5_12 (.cond (.t 57) .skip (.exit 2))) (.seq (.block 3 (.seq (.seq (.draw wg5_13 []) (.cond (.t 85) (.exit 3) .skip)) (ZQ wg5_14 (.seq (.draw wg5_15 []) (ZQ wg5_16 (ZQ wg5_17 (.cond (.t 129) (ZR wg5_18) .skip))))))) (.region wg5_19)))
def wl5_1:Vn:=(ZQ wg5_9 (.seq (.cond (.t 50) .skip (.exit 0)) (.seq (.block 1 (ZQ wg5_10 (ZQ wg5_11 (.block 2 (.loop wl5_0))))) (.region wg5_20))))
def wf5:Vm:=⟨131,(ZQ wg5_0 (.seq (ZQ wg5_1 (.cond (.t 16) (ZR wg5_2) .skip)) (.seq (ZQ wg5_3 (.cond (.t 30) (ZR wg5_4) .skip)) (ZQ wg5_5 (.seq (ZQ wg5_6 (.cond (.t 44) (ZR wg5_7) .skip)) (.seq (ZQ wg5_8 (.block 0 (.loop wl5_1))) (ZR wg5_21))))))),[.t 4]⟩
theorem t5:tbl 5=some wf5:=by kernel_rfl
abbrev dl5_0:List Nat:=[54,55,56,57,60,61,62,63,64,65,66,67,68,69,70,71,72,73,74,75,76,77,78,79,80,81,82,83,84,85,86,87,11,88,89,90,91,92,93,94,95,96,97,98,99,100,101,102,103,104,105,106,107,108,109,111,112,113,110,114,115,116,13,12,14,117,118,119,120,121,122,123,124,125,126,127,128,129,4,58,59,10]
abbrev dl5_1:List Nat:=[50,51,52,53,8,9,10,130,49,54,55,56,57,60,61,62,63,64,65,66,67,68,69,70,71,72,73,74,75,76,77,78,79,80,81,82,83,84,85,86,87,11,88,89,90,91,92,93,94,95,96,97,98,99,100,101,102,103,104,105,106,107,108,109,111,112,113,110,114,115,116,13,12,14,117,118,119,120,121,122,123,124,125,126,127,128,129,4,58,59]
set_option maxHeartbeats 2000000 in
theorem inn5_run{Γ:Gam}{m:Nat}(hfn:∀ f args s,f≠6->(Γ.cg Y0).fn f args s=R (m+5) Y0 f args s){s:St}{fr:Fr}{lv pv jv mv:AV}{ls:List (List AV)}{ps:List Int}{N:Int}{js:List (AV × List En)}
  (hl:SlN 1 (fun _=>False) s lv ls) (hp:SlI (fun _=>False) s pv ps) (hj:YQ (fun _=>False) s jv js) (hP:ps.length=ls.length) (hA:areB ls.length N js=true) (hjl:js.length<=4000) (hn:fzJ js+40000 < m) (hk24:ls.length<=24) (hpl:Rb ls.length ps N=true) (hok:okM ls.length ps (Vq js)) (hres:Res (Vq js) s mv) (hpk:(Yb (Vq js)).2.length<=4000) {xv:AV} {l:List En} {i:Nat} (hi:js[i]?=some (xv,l))
  (g1:fr.get 1=some jv) (g2:fr.get 2=some (.fptr [lv,pv,.int .i64 N] 0)) (g5:fr.get 5=some mv) (g8:fr.get 8=some (ZI i)) (g9:fr.get 9=some xv) (g10:fr.get 10=some (ZI 1)):
  ∃ FR s',Vx (Vh Γ Y0 (m+5) wl5_0 none) (m+5) fr s=.exit 2 FR s'/\Kq dl5_0 fr FR/\Vd s s':=by
 have hmem:=Qr hi
 obtain⟨t1,t2,_⟩:=good_of hA
 have hlb:∀ p∈js,p.2.length<=4000:=fun p hp=>QY (mem_sum (Q6.2 ⟨p,hp,rfl⟩)) t1
 have hll:=hlb _ hmem
 simp only at hll
 refine Ws (B:=Vh Γ Y0 (m+5) wl5_0 none) (N:=l.length - 1) (Inv:=fun j f s1=>Kq dl5_0 fr f/\f.get 10=some (ZI ((j+1)))/\Vd s s1)
  (Out:=fun r=>∃ FR s',r=.exit 2 FR s'/\Kq dl5_0 fr FR/\Vd s s') ?_ (l.length - 1) 0 fr s (m+5) (by omega) (by omega) ⟨Kq.refl.to,g10,Vd.refl s⟩
 intro j f s1 hj' ⟨kf,f10,ks⟩
 have f1:=kf.g 1 g1
 have f2:=kf.g 2 g2
 have f5:=kf.g 5 g5
 have f8:=kf.g 8 g8
 have f9:=kf.g 9 g9
 have hlt:=Wt (j+1) l.length
 have hxs:SlN 9 (fun _=>False) s1 xv (l.map En.cells):=((hj.2 _ hmem).1).mono (T3 s s1) fun _ h=>h
 have n9:=hxs.len s1
 rw[Qu] at n9
 by_cases hjN:j < l.length - 1
 ·have ha:l[j]?=some l[j]:=Qn (by omega)
  have hb:l[j+1]?=some l[j+1]:=Qn (by omega)
  generalize l[j]=a at ha
  generalize l[j+1]=b at hb
  obtain⟨pa,ia,lda,fa⟩:=hxs.fld (k:=j) (x:=a.cells) (by rw[Q5,ha];rfl)
  obtain⟨pb,ib,ldb,fb⟩:=hxs.fld (k:=j+1) (x:=b.cells) (by rw[Q5,hb];rfl)
  obtain⟨ra0,fa0,la0⟩:=fa 0 (.int .i64 a.leaf) rfl
  obtain⟨ra2,fa2,la2⟩:=fa 2 (.int .i64 a.prop) rfl
  obtain⟨rb0,fb0,lb0⟩:=fb 0 (.int .i64 b.leaf) rfl
  obtain⟨rb2,fb2,lb2⟩:=fb 2 (.int .i64 b.prop) rfl
  have la0:=la0 s1 (T3 _ _)
  have la2:=la2 s1 (T3 _ _)
  have lb0:=lb0 s1 (T3 _ _)
  have lb2:=lb2 s1 (T3 _ _)
  have sub:=sub1N (j:=j) (by omega)
  have eq0:=eqlI b.leaf a.leaf
  have eq2:=eqlI b.prop a.prop
  have had:=WC (i:=j+1) (by omega)
  rw[Qs (show j+1 < l.length by omega)] at hlt
  obtain⟨B0,hB0⟩:∃ B,(b.leaf==a.leaf)=B:=⟨_,rfl⟩
  obtain⟨B2,hB2⟩:∃ B,(b.prop==a.prop)=B:=⟨_,rfl⟩
  rw[hB0] at eq0
  rw[hB2] at eq2
  obtain⟨J1,H1,O1_57⟩:∃ fr',Vj (Γ.cg Y0) wg5_12 f s1=.ok fr' s1/\fr'.get 57=some (.bool true):=⟨_,by simp only[amE,rQ,rA,f9,f10,wg5_12,n9,hlt]<;>rfl,gh⟩
  have V1_9:=ag H1 f9
  have V1_10:=ag H1 f10
  obtain⟨J2,H2,O2_72⟩:∃ fr',Vj (Γ.cg Y0) wg5_13_0 J1 s1=.ok fr' s1/\fr'.get 72=some (.bool B0):=⟨_,by simp only[amE,rQ,rA,V1_9,V1_10,wg5_13_0,ib,sub,ia,fb0,fa0,lb0,la0,eq0]<;>rfl,gh⟩
  have V2_9:=ag H2 V1_9
  have V2_10:=ag H2 V1_10
  obtain⟨J3,H3,O3_85⟩:∃ fr',Vj (Γ.cg Y0) wg5_13_1 J2 s1=.ok fr' s1/\fr'.get 85=some (.bool (B0||B2)):=by cases B0<;>exact⟨_,by simp only[amE,rQ,rA,V2_9,V2_10,O2_72,wg5_13_1,ib,sub,ia,fb2,fa2,lb2,la2,eq2,Qc,Qb,Qc,Qb]<;>rfl,by simp only[Fr.get_set,rQ,↓reduceIte,amB,Qc,Qb]⟩
  have V3_1:=ag H3 (ag H2 (ag H1 f1))
  have V3_10:=ag H3 V2_10
  have H4:VK (Γ.cg Y0) wg5_13 [] J1 s1=.ok J3 s1:=Wj rfl (by show Vj _ (wg5_13_0++wg5_13_1) _ _=_;rw[Yv H2];exact H3)
  generalize hC5:(B0||B2)=C5 at *
  cases C5 with
  | true=>
   obtain⟨J6,H6,O6_10⟩:∃ fr',Vj (Γ.cg Y0) wg5_19 J3 s1=.ok fr' s1/\fr'.get 10=some (ZI ((j+1+1))):=⟨_,by simp only[amE,rQ,rA,V3_10,wg5_19,had]<;>rfl,gh⟩
   have kk:=(((((kf.t (aq H1)).t (aq H2)).t (aq H3)).t (aq H6))).to (E:=dl5_0)
   have hI6:Vh Γ Y0 (m+5) wl5_0 none f s1=.norm J6 s1:=by
    simp only[amE,rQ,rA,wl5_0,b00,b11,b22,b33,b44,b55,b66,b77,b88,b99,bAA,bA11,H1,H4,H6,O1_57,O3_85]
   rw[hI6]
   exact⟨hjN,kk,O6_10,ks⟩
  | false=>
   obtain⟨hz0,hz2⟩:B0=false/\B2=false:=by simpa using hC5
   subst hz0 hz2
   have hnl:a.leaf≠b.leaf:=fun e=>by rw[e] at hB0;simp at hB0
   have hnp:a.prop≠b.prop:=fun e=>by rw[e] at hB2;simp at hB2
   have hlj:js.length<=fzJ js:=fzJ_len js
   obtain⟨s2,cv,vs,c13,k2,hvl,hgr,hcp,hdj⟩:=copied13_run (hj.mono (T3 s s1) fun _ h=>h) (fun _ h=>h.elim) t1 hjl (m+4) Y0 (by omega)
   have c13:(Γ.cg Y0).fn 13 [jv] s1=.ret cv s2:=by rw[hfn _ _ _ (by decide)];exact c13
   have hil:i < vs.length:=by rw[hvl];exact(Qt.1 hi).1
   have hiv:vs[i]?=some vs[i]:=Qn hil
   generalize vs[i]=v at hiv
   obtain⟨hcpi,_⟩:=hcp i v _ hiv hi
   obtain⟨id,rfl,i1,i2,i3⟩:∃ id,v=.own id 0 l.length 9 none l.length/\s1.next<=id/\id < s2.next/\s2.get id=some (.row (l.map En.cells).flatten):=by
    rcases hcpi with⟨h,_⟩ | h
    ·have h:l=[]:=h
     rw[h] at hb;simp at hb
    ·exact h
   have hcv:SlN 1 (fun x=>s1.next<=x/\x < s2.next) s2 cv (vs.map fun v=>[v]):=hgr.sln (by omega) (by rw[Qu];omega)
   obtain⟨pc,ic,ldc⟩:=hcv.at1 hiv
   have ldc:=ldc s2 (Vs.refl _ _)
   have lda2:=lda s2 (T3 _ _)
   have ldb2:=ldb s2 (T3 _ _)
   have ip1:VC 9 (.own id 0 l.length 9 none l.length) (ZI ((j+1)))=some (.ptr id ((j+1)*9)):=iaOwn (by omega) _ _
   have ip0:VC 9 (.own id 0 l.length 9 none l.length) (ZI j)=some (.ptr id (j*9)):=iaOwn (by omega) _ _
   have hc9:∀ x∈l.map En.cells,x.length=9:=fun x hx=>(cells_all l x hx).1
   have hfl:(l.map En.cells).flatten.length=l.length*9:=by rw[SX hc9,Qu]
   have hc9':∀ x∈(l.map En.cells).set (j+1) a.cells,x.length=9:=fun x hx=>by
    rcases List.mem_or_eq_of_mem_set hx with h | h
    ·exact hc9 x h
    ·rw[h];exact a.cells9.1
   have hfl':((l.map En.cells).set (j+1) a.cells).flatten.length=l.length*9:=by rw[SX hc9',List.length_set,Qu]
   have hm9:(j+1)*9+9<=l.length*9:=by omega
   obtain⟨s3,hs3⟩:∃ s3,s3=s2.put id (.row ((l.map En.cells).set (j+1) a.cells).flatten):=⟨_,rfl⟩
   have sto1:Vt 9 s2 (.ptr id ((j+1)*9)) (.agg a.cells)=some s3:=by
    rw[hs3];exact V4 i3 a.cells9.1 (Rh _ _ _ hc9 a.cells9.1 (by rw[Qu];omega)) (by rw[hfl];exact hm9) a.cells9.2
   have g3:s3.get id=some (.row ((l.map En.cells).set (j+1) a.cells).flatten):=by rw[hs3,St.get_put,Qm rfl]
   obtain⟨l1,l2,e1,e2⟩:=swap_split ha hb
   obtain⟨s4,hs4⟩:∃ s4,s4=s3.put id (.row ((l1++b::a::l2).map En.cells).flatten):=⟨_,rfl⟩
   have sto2:Vt 9 s3 (.ptr id (j*9)) (.agg b.cells)=some s4:=by
    rw[hs4];exact V4 g3 b.cells9.1 (by
     rw[show (AV.agg b.cells).cells=b.cells from rfl,Rh _ _ _ hc9' b.cells9.1 (by rw[List.length_set,Qu];omega),<-List.map_set,<-List.map_set,e2]) (by rw[hfl'];omega) b.cells9.2
   have g4:s4.get id=some (.row ((l1++b::a::l2).map En.cells).flatten):=by rw[hs4,St.get_put,Qm rfl]
   have n4:s4.next=s2.next:=by rw[hs4,hs3];rfl
   have o4:∀ x,x≠id->s4.get x=s2.get x:=fun x hx=>by rw[hs4,St.get_put,Qe hx,hs3,St.get_put,Qe hx]
   have hrj:=swap_rep (s4:=s4) hi (fun p hp=>(hj.2 p hp).2) (l':=l1++b::a::l2) (by rw[e1];simp) (fun p hp=>by have:=hlb p hp;omega) hjl (fun e he=>by rw[e1];simp only[QV,Qx] at he ⊢;rcases he with h | h | h | h<;>simp[h]) hvl hgr hcp hdj hiv i1 i2 n4 o4 g4
   have hsw:Swp js (vs.zip ((js.map (·.2)).set i (l1++b::a::l2))) a b:=⟨⟨i,l1,l2,by rw[Q5,hi,<-e1];rfl,by exact List.map_snd_zip (by simp[hvl])⟩,hnp,hnl⟩
   generalize vs.zip ((js.map (·.2)).set i (l1++b::a::l2))=js' at hrj hsw
   have k14:Vd s1 s4:=⟨by have:=k2.1;omega,fun x hx=>by rw[o4 x (by omega)];exact k2.2 x hx⟩
   obtain⟨A,C,en1,en2,hlaw⟩:=hsw.law
   obtain⟨ok2,pk2⟩:=hlaw ls.length ps hok
   obtain⟨s5,mw,r,c10,k5,hM⟩:=merge10_run (hl.mono (T3 s s4) fun _ h=>h.elim) (hp.mono (T3 s s4) fun _ h=>h.elim) hrj (fun x hx=>hx.2) hP (hsw.areB hA) m Y0 (by rw[hsw.fzJ];exact hn) hk24 hpl
   have c10:(Γ.cg Y0).fn 10 [.agg [lv,pv,.int .i64 N],cv] s4=.ret (.tuple [mw,.agg r,ZI 0]) s5:=by rw[hfn _ _ _ (by decide)];exact c10
   obtain⟨hr,hrw⟩:r=[Z0,Z0,Z0]/\Res (Vq js') s5 mw:=by
    rcases hM with⟨_,hr,PS,rows,m1,m2,m3,m4,m5⟩|⟨hno2,_⟩
    ·exact⟨hr,Res.of m1 m2 m3 m4 m5⟩
    ·exact absurd ok2 hno2
   rw[hr] at c10
   have sto:Vt 3 (s5.new (.row [Z0,Z0,Z0])) (.ptr s5.next 0) (.agg [Z0,Z0,Z0])=some ((s5.new (.row [Z0,Z0,Z0])).put s5.next (.row [Z0,Z0,Z0])):=VQ rfl rfl rfl
   obtain⟨s6,hs6⟩:∃ s6,s6=(s5.new (.row [Z0,Z0,Z0])).put s5.next (.row [Z0,Z0,Z0]):=⟨_,rfl⟩
   rw[<-hs6] at sto
   have k6:Vd s5 s6:=by rw[hs6];exact(Vd.refl s5).newput _ _
   have g6:s6.get s5.next=some (.row [Z0,Z0,Z0]):=by rw[hs6,St.get_put,Qm rfl]
   have l0:Vf false 1 s6 (.ptr s5.next 0)=some Z0:=Vk g6 rfl
   have n00:Vr false .neq Z0 Z0=some (.bool false):=rfl
   have kall:Vd s s6:=((ks.trans k14).trans k5).trans k6
   have c19:(Γ.cg Y0).fn 19 [mv,mw] s6=.ret (.bool true) s6:=by
    rw[hfn _ _ _ (by decide)]
    refine (hres.mono kall).same (hrw.mono k6) pk2 (fun q=>by rw[en1,en2];exact find_swap hnp _ _ q) (fun q=>by rw[en1,en2];exact clE_swap hnp _ _ q) (m:=m+4) Y0 (fun e he=>?_) (by rw[U7,allE_len];exact t1) (by omega) hpk
    rw[U7] at he
    unfold VH at he
    obtain⟨p,hp',he⟩:=QO.1 he
    have:=fzJ_en hp' he
    omega
   obtain⟨J7,H7,O7_11⟩:∃ fr',Vj (Γ.cg Y0) wg5_14 J3 s1=.ok fr' s2/\fr'.get 11=some (cv):=⟨_,by simp only[amE,rQ,rA,V3_1,wg5_14,c13]<;>rfl,gh⟩
   have V7_8:=ag H7 (ag H3 (ag H2 (ag H1 f8)))
   have V7_10:=ag H7 V3_10
   obtain⟨J8,H8,O8_91,O8_92,O8_96⟩:∃ fr',Vj (Γ.cg Y0) wg5_15_0 J7 s2=.ok fr' s2/\fr'.get 91=some (.own id 0 l.length 9 none l.length)/\fr'.get 92=some (ZI ((j+1)))/\fr'.get 96=some (.own id 0 l.length 9 none l.length):=⟨_,by simp only[amE,rQ,rA,V7_8,V7_10,O7_11,wg5_15_0,ic,ldc]<;>rfl,gn (gn (gn (gn (gn gh)))),gn (gn (gn (gn gh))),gh⟩
   have V8_9:=ag H8 (ag H7 (ag H3 V2_9))
   have V8_10:=ag H8 V7_10
   obtain⟨J9,H9,O9_98,O9_103⟩:∃ fr',Vj (Γ.cg Y0) wg5_15_1 J8 s2=.ok fr' s2/\fr'.get 98=some (ZI j)/\fr'.get 103=some (.agg a.cells):=⟨_,by simp only[amE,rQ,rA,V8_9,V8_10,wg5_15_1,sub,ia,lda2]<;>rfl,gn (gn (gn (gn (gn gh)))),gh⟩
   have V9_9:=ag H9 V8_9
   have V9_10:=ag H9 V8_10
   obtain⟨J10,H10,O10_107⟩:∃ fr',Vj (Γ.cg Y0) wg5_15_2 J9 s2=.ok fr' s2/\fr'.get 107=some (.agg b.cells):=⟨_,by simp only[amE,rQ,rA,V9_9,V9_10,wg5_15_2,ib,ldb2]<;>rfl,gh⟩
   have V10_91:=ag H10 (ag H9 O8_91)
   have V10_92:=ag H10 (ag H9 O8_92)
   have V10_96:=ag H10 (ag H9 O8_96)
   have V10_98:=ag H10 O9_98
   have V10_103:=ag H10 O9_103
   obtain⟨J11,H11⟩:∃ fr',Vj (Γ.cg Y0) wg5_15_3 J10 s2=.ok fr' s4:=⟨_,by simp only[amE,rQ,rA,V10_91,V10_92,V10_96,V10_98,V10_103,O10_107,wg5_15_3,ip1,sto1,ip0,sto2]<;>rfl⟩
   have V11_2:=ag H11 (ag H10 (ag H9 (ag H8 (ag H7 (ag H3 (ag H2 (ag H1 f2)))))))
   have V11_11:=ag H11 (ag H10 (ag H9 (ag H8 O7_11)))
   have H12:VK (Γ.cg Y0) wg5_15 [] J7 s2=.ok J11 s4:=Wj rfl (by show Vj _ (wg5_15_0++(wg5_15_1++(wg5_15_2++wg5_15_3))) _ _=_;rw[Yv H8,Yv H9,Yv H10];exact H11)
   obtain⟨J13,H13,O13_12,O13_13,O13_14⟩:∃ fr',Vj (Γ.cg Y0) wg5_16 J11 s4=.ok fr' s6/\fr'.get 12=some (mw)/\fr'.get 13=some (.ptr s5.next 0)/\fr'.get 14=some Z0:=⟨_,by simp only[amE,rQ,rA,V11_2,V11_11,wg5_16,Jh,c10,extr0,extr1,extr2,sto]<;>rfl,gn gh,gn (gn gh),gh⟩
   have V13_5:=ag H13 (ag H11 (ag H10 (ag H9 (ag H8 (ag H7 (ag H3 (ag H2 (ag H1 f5))))))))
   obtain⟨J14,H14,O14_129⟩:∃ fr',Vj (Γ.cg Y0) wg5_17 J13 s6=.ok fr' s6/\fr'.get 129=some (.bool false):=⟨_,by simp only[amE,rQ,rA,V13_5,O13_12,O13_13,O13_14,wg5_17,faP,l0,n00,c19,Qc,Qb,Qc,Qb]<;>rfl,gh⟩
   have V14_10:=ag H14 (ag H13 (ag H11 (ag H10 V9_10)))
   obtain⟨J15,H15,O15_10⟩:∃ fr',Vj (Γ.cg Y0) wg5_19 J14 s6=.ok fr' s6/\fr'.get 10=some (ZI ((j+1+1))):=⟨_,by simp only[amE,rQ,rA,V14_10,wg5_19,had]<;>rfl,gh⟩
   have kk:=((((((((((((kf.t (aq H1)).t (aq H2)).t (aq H3)).t (aq H7)).t (aq H8)).t (aq H9)).t (aq H10)).t (aq H11)).t (aq H13)).t (aq H14)).t (aq H15))).to (E:=dl5_0)
   have hI15:Vh Γ Y0 (m+5) wl5_0 none f s1=.norm J15 s6:=by
    simp only[amE,rQ,rA,wl5_0,b00,b11,b22,b33,b44,b55,b66,b77,b88,b99,bAA,bA11,H1,H4,H7,H12,H13,H14,H15,O1_57,O3_85,O14_129]
   rw[hI15]
   exact⟨hjN,kk,O15_10,kall⟩
 ·rw[Qp (show ¬ j+1 < l.length by omega)] at hlt
  obtain⟨J16,H16,O16_57⟩:∃ fr',Vj (Γ.cg Y0) wg5_12 f s1=.ok fr' s1/\fr'.get 57=some (.bool false):=⟨_,by simp only[amE,rQ,rA,f9,f10,wg5_12,n9,hlt]<;>rfl,gh⟩
  have kk:=((kf.t (aq H16))).to (E:=dl5_0)
  have hI16:Vh Γ Y0 (m+5) wl5_0 none f s1=.exit 2 J16 s1:=by
   simp only[amE,rQ,rA,wl5_0,b00,b11,b22,b33,b44,b55,b66,b77,b88,b99,bAA,bA11,H16,O16_57]
  rw[hI16]
  exact⟨_,_,rfl,kk,ks⟩
set_option maxHeartbeats 1000000 in
theorem out5_run{Γ:Gam}{m:Nat}(hfn:∀ f args s,f≠6->(Γ.cg Y0).fn f args s=R (m+5) Y0 f args s){s:St}{fr:Fr}{lv pv jv mv:AV}{ls:List (List AV)}{ps:List Int}{N:Int}{js:List (AV × List En)}
  (hl:SlN 1 (fun _=>False) s lv ls) (hp:SlI (fun _=>False) s pv ps) (hj:YQ (fun _=>False) s jv js) (hP:ps.length=ls.length) (hA:areB ls.length N js=true) (hjl:js.length<=4000) (hn:fzJ js+40000 < m) (hk24:ls.length<=24) (hpl:Rb ls.length ps N=true) (hok:okM ls.length ps (Vq js)) (hres:Res (Vq js) s mv) (hpk:(Yb (Vq js)).2.length<=4000)
  (g1:fr.get 1=some jv) (g2:fr.get 2=some (.fptr [lv,pv,.int .i64 N] 0)) (g5:fr.get 5=some mv) (g47:fr.get 47=some jv) (g48:fr.get 48=some (ZI js.length)) (g49:fr.get 49=some Z0):
  ∃ FR s',Vx (Vh Γ Y0 (m+5) wl5_1 none) (m+5) fr s=.exit 0 FR s'/\Kq dl5_1 fr FR/\Vd s s':=by
 refine Ws (B:=Vh Γ Y0 (m+5) wl5_1 none) (N:=js.length) (Inv:=fun j f s1=>Kq dl5_1 fr f/\f.get 49=some (ZI j)/\Vd s s1)
  (Out:=fun r=>∃ FR s',r=.exit 0 FR s'/\Kq dl5_1 fr FR/\Vd s s') ?_ js.length 0 fr s (m+5) (by omega) (by omega) ⟨Kq.refl.to,g49,Vd.refl s⟩
 intro j f s1 hj' ⟨kf,f49,ks⟩
 have f1:=kf.g 1 g1
 have f2:=kf.g 2 g2
 have f5:=kf.g 5 g5
 have f47:=kf.g 47 g47
 have f48:=kf.g 48 g48
 have hlt:=Wt j js.length
 by_cases hjN:j < js.length
 ·have hx:js[j]?=some js[j]:=Qn hjN
  generalize js[j]=p at hx
  obtain⟨xv,l⟩:=p
  obtain⟨pe,ie,lde⟩:=hj.1.ptr (k:=j) (x:=[xv]) (by rw[Q5,hx];rfl)
  have lde:Vf false 1 s1 pe=some xv:=by
   obtain⟨cs,h3,h4⟩:=lde s1 (T3 _ _)
   simp only[Vf,h3,Qg,h4,Ja,Qq]
  have had:=WC (i:=j) (by omega)
  rw[Qs hjN] at hlt
  obtain⟨J17,H17,O17_50⟩:∃ fr',Vj (Γ.cg Y0) wg5_9 f s1=.ok fr' s1/\fr'.get 50=some (.bool true):=⟨_,by simp only[amE,rQ,rA,f48,f49,wg5_9,hlt]<;>rfl,gh⟩
  have V17_47:=ag H17 f47
  have V17_49:=ag H17 f49
  obtain⟨J18,H18,O18_8,O18_9⟩:∃ fr',Vj (Γ.cg Y0) wg5_10 J17 s1=.ok fr' s1/\fr'.get 8=some (ZI j)/\fr'.get 9=some (xv):=⟨_,by simp only[amE,rQ,rA,V17_47,V17_49,wg5_10,ie,lde]<;>rfl,gn gh,gh⟩
  obtain⟨J19,H19,O19_10⟩:∃ fr',Vj (Γ.cg Y0) wg5_11 J18 s1=.ok fr' s1/\fr'.get 10=some (ZI 1):=⟨_,by simp only[amE,rQ,rA,wg5_11]<;>rfl,gh⟩
  have V19_1:=ag H19 (ag H18 (ag H17 f1))
  have V19_2:=ag H19 (ag H18 (ag H17 f2))
  have V19_5:=ag H19 (ag H18 (ag H17 f5))
  obtain⟨FR1,s3,hL1,kL1,k3⟩:=inn5_run (Γ:=Γ) hfn (s:=s1) (hl.mono (T3 s s1) fun _ h=>h) (hp.mono (T3 s s1) fun _ h=>h) (hj.mono (T3 s s1) fun _ h=>h) hP hA hjl hn hk24 hpl hok (hres.mono ks) hpk hx (fr:=J19) V19_1 V19_2 V19_5 (ag H19 O18_8) (ag H19 O18_9) O19_10
  have La1:=kL1.g 1 V19_1
  have La2:=kL1.g 2 V19_2
  have La5:=kL1.g 5 V19_5
  have La47:=kL1.g 47 (ag H19 (ag H18 V17_47))
  have La48:=kL1.g 48 (ag H19 (ag H18 (ag H17 f48)))
  have La49:=kL1.g 49 (ag H19 (ag H18 V17_49))
  obtain⟨J21,H21,O21_49⟩:∃ fr',Vj (Γ.cg Y0) wg5_20 FR1 s3=.ok fr' s3/\fr'.get 49=some (ZI ((j+1))):=⟨_,by simp only[amE,rQ,rA,La49,wg5_20,had]<;>rfl,gh⟩
  have kk:=((((((kf.t (aq H17)).t (aq H18)).t (aq H19)).t kL1).t (aq H21))).to (E:=dl5_1)
  have hI21:Vh Γ Y0 (m+5) wl5_1 none f s1=.norm J21 s3:=by
   simp only[amE,rQ,rA,wl5_1,b00,b11,b22,b33,b44,b55,b66,b77,b88,b99,bAA,bA11,H17,H18,H19,hL1,H21,O17_50]
  rw[hI21]
  exact⟨hjN,kk,O21_49,ks.trans k3⟩
 ·rw[Qp hjN] at hlt
  obtain⟨J22,H22,O22_50⟩:∃ fr',Vj (Γ.cg Y0) wg5_9 f s1=.ok fr' s1/\fr'.get 50=some (.bool false):=⟨_,by simp only[amE,rQ,rA,f48,f49,wg5_9,hlt]<;>rfl,gh⟩
  have kk:=((kf.t (aq H22))).to (E:=dl5_1)
  have hI22:Vh Γ Y0 (m+5) wl5_1 none f s1=.exit 0 J22 s1:=by
   simp only[amE,rQ,rA,wl5_1,b00,b11,b22,b33,b44,b55,b66,b77,b88,b99,bAA,bA11,H22,O22_50]
  rw[hI22]
  exact⟨_,_,rfl,kk,ks⟩
set_option maxHeartbeats 1000000 in
theorem come_run{Γ:Gam}{n:Nat}{DF:Nat->List AV->St->DM->Option (DM × St)}{st stS:St}{lv pv jv:AV}{ls:List (List AV)}{ps:List Int}{N:Int}{js:List (AV × List En)}
  (h6:(Γ.cg Y0).fn 6 [] st=.ret (.bool true) stS) (hfn:∀ f args s,f≠6->(Γ.cg Y0).fn f args s=R n Y0 f args s)
  (hl:SlN 1 (fun _=>False) stS lv ls) (hp:SlI (fun _=>False) stS pv ps) (hj:YQ (fun _=>False) stS jv js) (hn:fzJ js+ps.length+50000<=n):
  ∃ st',WK Γ Y0 n DF wf5 [.agg [lv,pv,.int .i64 N],jv] st=.ret (.bool true) st':=by
 obtain⟨m,rfl⟩:∃ m,n=m+5:=⟨n - 5,by omega⟩
 have hF:∀ i,(fun _:Nat=>False) i->i < stS.next:=fun _ h=>h.elim
 obtain⟨b7,c7⟩:=little_run hj (m+4) Y0 (by have:=fzJ_len js;omega)
 have c7:(Γ.cg Y0).fn 7 [jv] stS=.ret (.bool b7) stS:=by rw[hfn _ _ _ (by decide)];exact c7
 have c8:=isPlan_run hl hp (N:=N) (m+4) Y0 (by omega)
 have c8:(Γ.cg Y0).fn 8 [.agg [lv,pv,.int .i64 N]] stS=.ret (.bool (Rb ls.length ps N)) stS:=by rw[hfn _ _ _ (by decide)];exact c8
 obtain⟨P,hpl⟩:∃ P,Rb ls.length ps N=P:=⟨_,rfl⟩
 rw[hpl] at c8
 obtain⟨s9,c9,k9⟩:=areJ_run hl hj (N:=N) hF (m+3) Y0 (by omega)
 have c9:(Γ.cg Y0).fn 9 [.agg [lv,pv,.int .i64 N],jv] stS=.ret (.bool (areB ls.length N js)) s9:=by rw[hfn _ _ _ (by decide)];exact c9
 obtain⟨A,hA⟩:∃ A,areB ls.length N js=A:=⟨_,rfl⟩
 rw[hA] at c9
 obtain⟨fA23,hA23⟩:∃ fA,fA=Vo 0 [.agg [lv,pv,.int .i64 N],jv] Fr.nil:=⟨_,rfl⟩
 have gA23_0:=gAt hA23 0
 have gA23_1:=gAt hA23 1
 have dA23:fA23.ds=[]:=by rw[hA23];rfl
 obtain⟨J24,H24,O24_2,O24_4⟩:∃ fr',Vj (Γ.cg Y0) wg5_0 fA23 st=.ok fr' st/\fr'.get 2=some (.fptr [lv,pv,.int .i64 N] 0)/\fr'.get 4=some (.bool false):=⟨_,by simp only[amE,rQ,rA,gA23_0,wg5_0]<;>rfl,gn gh,gh⟩
 obtain⟨J25,H25,O25_16⟩:∃ fr',Vj (Γ.cg Y0) wg5_1 J24 st=.ok fr' stS/\fr'.get 16=some (.bool false):=⟨_,by simp only[amE,rQ,rA,wg5_1,h6,unN,Qc,Qb,Qc,Qb]<;>rfl,gh⟩
 have V25_1:=ag H25 (ag H24 gA23_1)
 have V25_2:=ag H25 O24_2
 obtain⟨s3,J26,H26,K26,O26_30,h3⟩:∃ s3 fr',Vj (Γ.cg Y0) wg5_3 J25 stS=.ok fr' s3/\Kq [30,29,28,27,26,25,24,23,22,21,20,19,18,17] J25 fr'/\fr'.get 30=some (.bool (!(b7&&P&&A)))/\((b7&&P&&A)=true->s3=s9):=by
  cases b7<;>cases P<;>cases A<;>exact⟨_,_,by simp only[amE,rQ,rA,V25_1,V25_2,wg5_3,c7,Jh,c8,c9,unN,Qc,Qb]<;>rfl,Kq.refl.s.s.s.s.s.s.s.s.s.s.s.s.s.s,gh,by simp⟩
 have W26:=K26.1.trans (ad H25 (ad H24 dA23))
 have V26_1:=K26.g 1 V25_1
 have V26_2:=K26.g 2 V25_2
 generalize hC27:(!(b7&&P&&A))=C27 at *
 cases C27 with
 | true=>
  obtain⟨J28,H28,O28_4⟩:∃ fr',Vj (Γ.cg Y0) wg5_4 J26 s3=.ok fr' s3/\fr'.get 4=some (.bool true):=⟨_,by simp only[amE,rQ,rA,wg5_4]<;>rfl,gh⟩
  refine⟨s3,abody_of (mf:=wf5) (fr:=J28) rfl (.inl ?q28) (ad H28 W26) (by simp only[wf5,Vg,Vu,V0,O28_4,Qg,Ql])⟩
  case q28=>
   rw[<-hA23]
   simp only[amE,rQ,rA,wf5,b00,b11,b22,b33,b44,b55,b66,b77,b88,b99,bAA,bA11,H24,H25,H26,H28,O25_16,O26_30]
 | false=>
  obtain⟨⟨hz1,hz2⟩,hz3⟩:(b7=true/\P=true)/\A=true:=by simpa using hC27
  have h3:=h3 (by rw[hz1,hz2,hz3];rfl)
  subst h3 hz2 hz3
  have hP:ps.length=ls.length/\ls.length<=24:=by
   unfold Rb at hpl
   simp only[Qd,QF] at hpl
   exact⟨hpl.1.2,hpl.1.1.2⟩
  have hjl:js.length<=4000:=by
   have h1:=hA
   have h2:=hpl
   unfold areB at h1
   unfold Rb at h2
   simp only[Qd,QF] at h1 h2
   omega
  have hno:=T3
  obtain⟨s10,mv,r,c10,k10,hM⟩:=merge10_run (hl.mono (hno stS s3) fun _ h=>h) (hp.mono (hno stS s3) fun _ h=>h) (hj.mono (hno stS s3) fun _ h=>h) (fun _ h=>h.elim) hP.1 hA m Y0 (by omega) hP.2 hpl
  have c10:(Γ.cg Y0).fn 10 [.agg [lv,pv,.int .i64 N],jv] s3=.ret (.tuple [mv,.agg r,ZI 0]) s10:=by rw[hfn _ _ _ (by decide)];exact c10
  obtain⟨ra,rb,rc,hr⟩:∃ ra rb rc:Int,r=[.int .i64 ra,.int .i64 rb,.int .i64 rc]:=by
   rcases hM with⟨_,h,_⟩|⟨_,_,_,_,_,_,h⟩<;>exact⟨_,_,_,h⟩
  rw[hr] at c10
  have sto:Vt 3 (s10.new (.row [Z0,Z0,Z0])) (.ptr s10.next 0) (.agg [.int .i64 ra,.int .i64 rb,.int .i64 rc])=some ((s10.new (.row [Z0,Z0,Z0])).put s10.next (.row [.int .i64 ra,.int .i64 rb,.int .i64 rc])):=VQ rfl rfl rfl
  obtain⟨s11,hs11⟩:∃ s11,s11=(s10.new (.row [Z0,Z0,Z0])).put s10.next (.row [.int .i64 ra,.int .i64 rb,.int .i64 rc]):=⟨_,rfl⟩
  rw[<-hs11] at sto
  have k11:Vd s10 s11:=by rw[hs11];exact(Vd.refl s10).newput _ _
  have g11:s11.get s10.next=some (.row [.int .i64 ra,.int .i64 rb,.int .i64 rc]):=by rw[hs11,St.get_put,Qm rfl]
  have l0:Vf false 1 s11 (.ptr s10.next 0)=some (.int .i64 ra):=Vk g11 rfl
  have n00:Vr false .neq Z0 Z0=some (.bool false):=rfl
  have e00:Vr false .eql Z0 Z0=some (.bool true):=rfl
  obtain⟨V,hV⟩:∃ V,(ra != .ofNat 0)=V:=⟨_,rfl⟩
  have hne:Vr false .neq (.int .i64 ra) Z0=some (.bool V):=by rw[Yk,hV]
  obtain⟨J29,H29,O29_5,O29_6,O29_7⟩:∃ fr',Vj (Γ.cg Y0) wg5_5 J26 s3=.ok fr' s11/\fr'.get 5=some (mv)/\fr'.get 6=some (.ptr s10.next 0)/\fr'.get 7=some Z0:=⟨_,by simp only[amE,rQ,rA,V26_1,V26_2,wg5_5,Jh,c10,extr0,extr1,extr2,sto]<;>rfl,gn gh,gn (gn gh),gh⟩
  obtain⟨J30,H30,O30_44⟩:∃ fr',Vj (Γ.cg Y0) wg5_6 J29 s11=.ok fr' s11/\fr'.get 44=some (.bool V):=⟨_,by simp only[amE,rQ,rA,O29_6,O29_7,wg5_6,faP,l0,n00,hne,Qc,Qb,Qc,Qb]<;>rfl,gh⟩
  have V30_1:=ag H30 (ag H29 V26_1)
  have V30_7:=ag H30 O29_7
  have W30:=ad H30 (ad H29 W26)
  cases V with
  | true=>
   obtain⟨J31,H31,O31_4⟩:∃ fr',Vj (Γ.cg Y0) wg5_7 J30 s11=.ok fr' s11/\fr'.get 4=some (.bool true):=⟨_,by simp only[amE,rQ,rA,V30_7,wg5_7,e00]<;>rfl,gh⟩
   refine⟨s11,abody_of (mf:=wf5) (fr:=J31) rfl (.inl ?q31) (ad H31 W30) (by simp only[wf5,Vg,Vu,V0,O31_4,Qg,Ql])⟩
   case q31=>
    rw[<-hA23]
    simp only[amE,rQ,rA,wf5,b00,b11,b22,b33,b44,b55,b66,b77,b88,b99,bAA,bA11,H24,H25,H26,H29,H30,H31,O25_16,O26_30,O30_44]
  | false=>
   obtain⟨hok,PS,rows,m1,m2,m3,m4,m5⟩:okM ls.length ps (Vq js)/\∃ (PS:List Pr) (rows:List (List AV)),PS.map (fun x=>x.e.prop)=(Yb (Vq js)).2/\SlN 7 (fun i=>s3.next<=i/\i < s10.next) s10 mv rows/\rows.length=PS.length/\(∀(j:Nat) (x:Pr) (ys:List AV),PS[j]?=some x->rows[j]?=some ys->MvR (fun i=>s3.next<=i/\i < s10.next) s10 x ys)/\∀ x∈PS,PrM (Vq js) s3.next s10 x:=by
    rcases hM with⟨hok,_,h⟩|⟨_,_,kd,p,i,hkd,hz⟩
    ·exact⟨hok,h⟩
    ·rw[hr] at hz;injection hz with h _;injection h with _ h
     rw[h] at hV;cases kd with
     | zero=>exact absurd rfl hkd
     | succ k=>cases hV
   have hres:=(Res.of m1 m2 m3 m4 m5).mono k11
   have hpk:=(order_of hA hok.1).2
   have hjn:=hj.1.len s11
   rw[Qu] at hjn
   obtain⟨J32,H32,O32_47,O32_48,O32_49⟩:∃ fr',Vj (Γ.cg Y0) wg5_8 J30 s11=.ok fr' s11/\fr'.get 47=some (jv)/\fr'.get 48=some (ZI js.length)/\fr'.get 49=some Z0:=⟨_,by simp only[amE,rQ,rA,V30_1,wg5_8,hjn]<;>rfl,gn (gn gh),gn gh,gh⟩
   obtain⟨FR,s13,hL,kL,_⟩:=out5_run (Γ:=Γ) (m:=m) hfn (s:=s11) (hl.mono (hno stS s11) fun _ h=>h) (hp.mono (hno stS s11) fun _ h=>h) (hj.mono (hno stS s11) fun _ h=>h) hP.1 hA hjl (by omega) hP.2 hpl hok hres hpk (fr:=J32) (ag H32 V30_1) (ag H32 (ag H30 (ag H29 V26_2))) (ag H32 (ag H30 O29_5)) O32_47 O32_48 O32_49
   have dL:=kL.1.trans (ad H32 W30)
   obtain⟨J34,H34,O34_4⟩:∃ fr',Vj (Γ.cg Y0) wg5_21 FR s13=.ok fr' s13/\fr'.get 4=some (.bool true):=⟨_,by simp only[amE,rQ,rA,wg5_21]<;>rfl,gh⟩
   refine⟨s13,abody_of (mf:=wf5) (fr:=J34) rfl (.inl ?q34) (ad H34 dL) (by simp only[wf5,Vg,Vu,V0,O34_4,Qg,Ql])⟩
   case q34=>
    rw[<-hA23]
    simp only[amE,rQ,rA,wf5,b00,b11,b22,b33,b44,b55,b66,b77,b88,b99,bAA,bA11,H24,H25,H26,H29,H30,H32,hL,H34,O25_16,O26_30,O30_44]
end
end Go.AM.D32
