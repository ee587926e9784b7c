import Derived.Test.YtejdliehekjicaaGreatAwWz3
set_option maxRecDepth 100000
set_option linter.unusedSimpArgs false
namespace Go.AM.D32
open Go Go.AM
noncomputable section
open Nat renaming reduceEqDiff -> rQ, reduceAdd -> rA
theorem flat_cell9{z:Nat}{xs:List (List AV)}{rest:List AV}{k o:Nat}{x:List AV}{v:AV}(hz:∀ x∈xs,x.length=z)(hx:xs[k]?=some x)(hv:x[o]?=some v):(xs.flatten++rest)[k*z+o]?=some v:=by
 have h:=flatZ (rest:=rest) hz hx
 have ho:o < z:=by rw[<-hz x (Qr hx)];exact(Qt.1 hv).1
 rw[<-h,X6,Qm ho,XV] at hv
 exact hv
theorem faI(id k o:Nat):WG o (.ptr id k)=some (.ptr id (k+o)):=rfl
theorem T3(s s':St):Vs (fun _=>False) s s':=fun _ h=>h.elim
theorem aw1_ne(g:Int):aw g 1≠g:=by
 unfold aw
 rw[wr_eq,IntKind.wrap_i64]
 omega
theorem set_one{vs:List AV}{i:Nat}(h:i < vs.length)(v:AV):setCells vs i [v]=vs.set i v:=by
 unfold setCells
 rw[List.set_eq_take_append_cons_drop,Qm h];rfl
theorem ints_beq:∀ l:List Int,VG (l.map (AV.int .i64)) (l.map (AV.int .i64))=true
 | []=>rfl
 | a::l=>by simp only[Q4,VG,bint,ints_beq l,Bool.and_self]
theorem En.beq_of{e:En}(s:St)(h:e.ok):VG e.cells e.cells=true:=by
 have hv:V8 e.vsl e.vsl=true:=by
  unfold En.vsl V7
  cases e.vnl with
  | true=>rfl
  | false=>
   have:=Vy.beq (F:=fun _=>False) (st:=s) _ _ (Vy.line (fun _=>False) s e.vals h.2.2.1)
   simp only[Qq,V8,QD,this]
   cases e.vex<;>rfl
 have hs:V8 e.ssl e.ssl=true:=by
  unfold En.ssl slI
  cases e.snl with
  | true=>rfl
  | false=>
   simp only[Qq,V8,QD,ints_beq]
   cases e.sex<;>rfl
 have hd:=VU.beq e.d _ (VU.line (fun _=>False) s e.d h.2.2.2.1)
 unfold En.cells
 refine SJ (SJ ?_ hd) ?_
 ·simp only[VG,bint,hv,Bool.and_self]
 ·simp only[VG,hs,Bool.and_self]
theorem copy_at{lo:Nat}{s:St}{cv:AV}{vs:List AV}{js:List (AV × List En)}{i:Nat}{xv:AV}{l:List En}(hi:js[i]?=some (xv,l))(h0:0 < l.length)(dq:vs.length=js.length)(i6:∀(i:Nat) (v:AV) (p:AV × List En),vs[i]?=some v->js[i]?=some p->Cp lo s v p.2/\∀ x,T5 v=some x->¬ hO cv x):
  ∃ id,vs[i]?=some (.own id 0 l.length 9 none l.length)/\lo<=id/\id < s.next/\s.get id=some (.row (l.map En.cells).flatten)/\¬ hO cv id:=by
 have dp:i < vs.length:=by rw[dq];exact(Qt.1 hi).1
 have m4:vs[i]?=some vs[i]:=Qn dp
 generalize vs[i]=v at m4
 obtain⟨h1,h2⟩:=i6 i v _ m4 hi
 rcases h1 with⟨h,_⟩|⟨id,rfl,h3,h4,h5⟩
 ·have h:l=[]:=h
  rw[h] at h0;simp at h0
 ·exact⟨id,m4,h3,h4,h5,h2 id rfl⟩
theorem flatV(vs:List AV):(vs.map fun v=>[v]).flatten=vs:=by
 induction vs with
 | nil=>rfl
 | cons v vs ih=>rw[Q4,Xc,ih];rfl
theorem copy_row{lo:Nat}{s:St}{cv:AV}{vs:List AV}{n:Nat}(bX:GrW 1 lo s cv (vs.map fun v=>[v]))(dq:vs.length=n)(h0:0 < n):∃ J,cv=.own J 0 n 1 none n/\lo<=J/\J < s.next/\s.get J=some (.row vs):=by
 rcases bX.2 with⟨_,h⟩|⟨J,h1,h2,h3,h4⟩
 ·rw[List.map_eq_nil_iff.1 h] at dq
  simp at dq;omega
 ·rw[Qu,dq] at h3
  rw[flatV] at h4
  exact⟨J,h3,h1,h2,h4⟩
theorem chg_rep{lo:Nat}{s2 s4:St}{J:Nat}{vs:List AV}{js:List (AV × List En)}{i id:Nat}{xv v':AV}{l l':List En}{c:Option Nat}{lw:Nat}(hi:js[i]?=some (xv,l))(bc:∀ p∈js,∀ e∈p.2,e.ok)(gz:∀ p∈js,p.2.length<=4000)(Cc:js.length<=4000)(vA:∀ e∈l',e.ok)(dq:vs.length=js.length)
  (i6:∀(i:Nat) (v:AV) (p:AV × List En),vs[i]?=some v->js[i]?=some p->Cp lo s2 v p.2/\∀ x,T5 v=some x->¬ hO (.own J 0 js.length 1 none js.length) x) (lE:∀(i j:Nat) (v w:AV) (x:Nat),i < j->vs[i]?=some v->vs[j]?=some w->T5 v=some x->T5 w≠some x)
  (m4:vs[i]?=some (.own id 0 l.length 9 c lw)) (j1:lo<=J) (j2:J < s4.next) (n4:s2.next<=s4.next) (o4:∀ x,lo<=x->x < s2.next->x≠id->x≠J->s4.get x=s2.get x) (gq:RB 9 (fun x=>lo<=x/\x < s4.next) s4 v' (l'.map En.cells)) (cW:s4.get J=some (.row (vs.set i v'))):
  YQ (fun x=>lo<=x/\x < s4.next) s4 (.own J 0 js.length 1 none js.length) ((vs.set i v').zip ((js.map (·.2)).set i l'))/\Chg js ((vs.set i v').zip ((js.map (·.2)).set i l')) i l l':=by
 have al:((js.map (·.2)).set i l').length=(vs.set i v').length:=by simp[dq]
 have dp:i < js.length:=(Qt.1 hi).1
 refine⟨⟨?_,?_⟩,by rw[Q5,hi];rfl,List.map_snd_zip (by omega)⟩
 ·have e:((vs.set i v').zip ((js.map (·.2)).set i l')).map (fun p=>[p.1])=(vs.set i v').map fun v=>[v]:=by
   have h:=List.map_fst_zip (l₁:=vs.set i v') (l₂:=(js.map (·.2)).set i l') (by omega)
   conv=>rhs;rw[<-h]
   rw[Xq];rfl
  rw[e]
  have bA:∀ v∈vs.set i v',AV.one v=true:=fun v hv=>by
   rcases List.mem_or_eq_of_mem_set hv with h | h
   ·obtain⟨t,ht⟩:=List.getElem?_of_mem h
    have am:t < js.length:=by rw[<-dq];exact(Qt.1 ht).1
    have AE:js[t]?=some js[t]:=Qn am
    exact(i6 t v _ ht AE).1.one.2
   ·rw[h];exact gq.one
  refine⟨by omega,fun y hy=>?_,by rw[Qu,List.length_set];omega,.inr (.inr ⟨J,none,js.length,[],by rw[Qu,List.length_set,dq],⟨j1,j2⟩,by rw[flatV,QG];exact cW⟩)⟩
  obtain⟨v,hv,rfl⟩:=Q6.1 hy
  exact⟨rfl,by simp[bA v hv]⟩
 ·intro p hp
  obtain⟨t,ht⟩:=List.getElem?_of_mem hp
  obtain⟨q1,q2⟩:=List.getElem?_zip_eq_some.1 ht
  by_cases lO:t=i
  ·subst lO
   rw[List.getElem?_set_self (by rw[Qu];exact dp)] at q2
   rw[List.getElem?_set_self (by rw[dq];exact dp)] at q1
   injection q1 with q1
   injection q2 with q2
   rw[<-q1,<-q2]
   exact⟨gq,vA⟩
  ·rw[List.getElem?_set_ne (fun e=>lO e.symm),Q5] at q2
   rw[List.getElem?_set_ne (fun e=>lO e.symm)] at q1
   obtain⟨p0,r1,r2⟩:=Qf.1 q2
   obtain⟨hc,AF⟩:=i6 t p.1 p0 q1 r1
   have hm:=Qr r1
   rw[<-r2]
   refine⟨?_,fun e he=>bc _ hm e he⟩
   refine (hc.to (s':=s4) (Qw _) n4 fun x hx=>o4 x (hc.oid hx).1 (hc.oid hx).2.1 (fun e=>?_) (fun e=>?_)).sln (by have:=gz _ hm;omega)
   ·subst e
    rcases Nat.lt_or_gt_of_ne lO with h | h
    ·exact lE t i _ _ x h q1 m4 hx rfl
    ·exact lE i t _ _ x h m4 q1 rfl hx
   ·subst e
    exact AF x hx ⟨_,_,_,_,rfl⟩
theorem set_same{vs:List AV}{i:Nat}{v:AV}(h:vs[i]?=some v):vs.set i v=vs:=by
 apply Zn
 intro j
 rw[List.getElem?_set]
 split
 ·rename_i e
  subst e
  have:=(Qt.1 h).1
  rw[Qm this,h]
 ·rfl
theorem good_gate{k:Nat}{e:En}(g:Int)(h:En.good k e=true):En.good k { e with gate:=g }=true:=h
theorem set_cell{l1 l2:List En}{x x':En}{o:Nat}{v:AV}(h:x'.cells=setCells x.cells o [v])(ho:o < 9):setCells ((l1++x::l2).map En.cells).flatten (l1.length*9+o) [v]=((l1++x'::l2).map En.cells).flatten:=by
 have hl:=Ph l1
 have hx:=x.cells9.1
 rw[QQ,Q4,List.flatten_append,Xc,QQ,Q4,List.flatten_append,Xc,h]
 unfold setCells
 rw[<-hl,List.take_length_add_append,X1,List.drop_length_add_append,XG (by omega),List.drop_append_of_le_length (by simp;omega)]
 simp
def wg4_0:List Vc:=[ZO 2 (.box true (.t 0)),ZM 4 (ZB false)]
def wg4_1:List Vc:=[ZX 14 6 [],ZO 15 (.un .not (.t 14))]
def wg4_2:List Vc:=[ZM 4 (ZB false)]
def wg4_3:List Vc:=[ZV 16 1,ZX 17 7 [(.t 16)],ZO 18 (.un .not (.t 17)),ZV 19 18,ZG 20 (.load true 3 (.t 2)) 19 false,ZG 21 (.call (.c (.func (.func 8) [] [])) [(.t 20)]) 19 false,ZG 22 (.un .not (.t 21)) 19 false,ZO 23 (.pick (.t 19) (ZB true) (.t 22)),ZV 24 23,ZG 25 (.load true 3 (.t 2)) 24 false,ZG 26 (.mv (.t 1)) 24 false,ZG 27 (.call (.c (.func (.func 9) [] [])) [(.t 25),(.t 26)]) 24 false,ZG 28 (.un .not (.t 27)) 24 false,ZO 29 (.pick (.t 24) (ZB true) (.t 28)),ZV 30 29,ZG 31 (.load true 3 (.t 2)) 30 false,ZG 32 (.mv (.t 1)) 30 false,ZG 33 (.call (.c (.func (.func 12) [] [])) [(.t 31),(.t 32)]) 30 false,ZG 34 (.un .not (.t 33)) 30 false,ZO 35 (.pick (.t 30) (ZB true) (.t 34))]
def wg4_4:List Vc:=[ZM 4 (ZB true)]
def wg4_5:List Vc:=[ZV 36 1,ZN 37 36,ZM 38 (ZC 0)]
def wg4_6:List Vc:=[ZO 39 (.bin false .lss (.t 38) (.t 37))]
def wg4_7:List Vc:=[ZV 40 38,ZP 41 1 36 38,ZL 42 41,ZV 5 40,ZV 6 42]
def wg4_8:List Vc:=[ZV 43 6,ZN 44 43,ZM 45 (ZC 0)]
def wg4_9:List Vc:=[ZO 46 (.bin false .lss (.t 45) (.t 44))]
def wg4_10:List Vc:=[ZV 47 45,ZP 48 9 43 45,ZK 49 9 48,ZO 8 (.alloc [Z0,Z0,Z0,Z0,.nilsl,Z0,.nilsl,.nilsl,.nilsl]),ZV 7 47,ZS 9 8 49]
def wg4_11:List Vc:=[ZV 50 1,ZX 51 13 [(.t 50)],ZV 9 51]
def wg4_12:List (Vc × Nat):=[(ZV 52 9,0),(ZV 53 5,0),(ZV 54 9,0),(ZV 55 5,0),(ZP 56 1 54 55,12),(ZL 57 56,28),(ZV 58 7,0),(ZK 59 9 8,0),(ZO 60 (.bsliceO 50 1 9 [Z0,Z0,Z0,Z0,.nilsl,Z0,.nilsl,.nilsl,.nilsl] [(0,9,(.t 59))]),128),(ZX 61 14 [(.t 57),(.t 58),(.t 60)],508),(ZP 62 1 52 53,1023),(ZS 1 62 61,2047)]
def wg4_13:List Vc:=[ZK 63 3 2,ZV 64 9,ZX 65 12 [(.t 63),(.t 64)]]
def wg4_14:List Vc:=[ZM 4 (ZB false)]
def wg4_15:List Vc:=[ZV 66 6,ZV 67 7,ZO 68 (.bin false .add (.t 67) (ZC 1)),ZO 69 (.slice 9 (.t 66) (some (.t 68)) none none),ZO 70 (.mkfn 16 [] [(.t 8)]),ZX 71 15 [(.t 69),(.t 70)],ZV 10 71]
def wg4_16:List Vc:=[ZV 72 10,ZO 73 (.bin false .geq (.t 72) (ZC 0))]
def wg4_17:List Vc:=[ZV 74 1,ZX 75 13 [(.t 74)],ZV 76 1,ZX 77 13 [(.t 76)],ZV 11 75,ZV 12 77]
def wg4_18:List (Vc × Nat):=[(ZV 78 11,0),(ZV 79 5,0),(ZP 80 1 78 79,3),(ZL 81 80,7),(ZV 82 7,0),(ZV 83 11,0),(ZV 84 5,0),(ZP 85 1 83 84,96),(ZL 86 85,224),(ZV 87 7,0),(ZO 88 (.bin false .add (.t 87) (ZC 1)),512),(ZV 89 10,0),(ZO 90 (.bin false .add (.t 88) (.t 89)),3584),(ZV 91 6,0),(ZV 92 7,0),(ZO 93 (.bin false .add (.t 92) (ZC 1)),16384),(ZV 94 10,0),(ZO 95 (.bin false .add (.t 93) (.t 94)),114688),(ZP 96 9 91 95,253952),(ZK 97 9 96,516096),(ZK 98 9 8,0),(ZP 99 9 81 82,1040895),(ZS 9 99 97,3138047),(ZP 100 9 86 90,8388607),(ZS 9 100 98,16777215)]
def wg4_19:List Vc:=[ZV 101 12,ZV 102 5,ZV 103 12,ZV 104 5,ZP 105 1 103 104,ZL 106 105,ZV 107 7,ZV 108 7,ZO 109 (.bin false .add (.t 108) (ZC 1)),ZX 110 17 [(.t 106),(.t 107),(.t 109)],ZP 111 1 101 102,ZS 1 111 110]
def wg4_20:List Vc:=[ZK 112 3 2,ZV 113 11,ZX 114 12 [(.t 112),(.t 113)],ZV 115 114,ZG 116 (.load true 3 (.t 2)) 115 false,ZG 117 (.mv (.t 12)) 115 false,ZG 118 (.call (.c (.func (.func 12) [] [])) [(.t 116),(.t 117)]) 115 false,ZO 119 (.pick (.t 115) (ZB true) (.t 118))]
def wg4_21:List Vc:=[ZM 4 (ZB false)]
def wg4_22:List Vc:=[ZV 120 1,ZK 121 9 8,ZX 122 18 [(.t 120),(.t 121)]]
def wg4_23:List Vc:=[ZV 123 1,ZX 124 13 [(.t 123)],ZV 13 124]
def wg4_24:List Vc:=[ZV 125 13,ZV 126 5,ZP 127 1 125 126,ZL 128 127,ZV 129 7,ZP 130 9 128 129,ZA 131 3 130,ZA 132 0 131,ZL 133 132,ZO 134 (.bin false .add (.t 133) (ZC 1)),ZP 135 9 128 129,ZA 136 3 135,ZA 137 0 136,ZS 1 137 134]
def wg4_25:List Vc:=[ZK 138 3 2,ZV 139 13,ZX 140 12 [(.t 138),(.t 139)]]
def wg4_26:List Vc:=[ZM 4 (ZB false)]
def wg4_27:List Vc:=[ZO 141 (.bin false .add (.t 45) (ZC 1)),ZV 45 141]
def wg4_28:List Vc:=[ZO 142 (.bin false .add (.t 38) (ZC 1)),ZV 38 142]
def wg4_29:List Vc:=[ZM 4 (ZB true)]
def wm4_2:Vn:=(ZQ wg4_22 (.cond (.t 122) (ZQ wg4_23 (ZQ wg4_24 (ZQ wg4_25 (.cond (.t 140) (ZR wg4_26) .skip)))) .skip))
def wm4_1:Vn:=(ZQ wg4_16 (.cond (.t 73) (ZQ wg4_17 (.seq (.draw wg4_18 [(20,some 22),(20,some 24)]) (ZQ wg4_19 (ZQ wg4_20 (.cond (.t 119) (ZR wg4_21) .skip))))) .skip))
def wl4_0:Vn:=(ZQ wg4_9 (.seq (.cond (.t 46) .skip (.exit 2)) (.seq (.block 3 (ZQ wg4_10 (ZQ wg4_11 (.seq (.draw wg4_12 [(5,some 8),(5,some 9)]) (.seq (ZQ wg4_13 (.cond (.t 65) (ZR wg4_14) .skip)) (ZQ wg4_15 (.seq wm4_1 wm4_2))))))) (.region wg4_27))))
def wl4_1:Vn:=(ZQ wg4_6 (.seq (.cond (.t 39) .skip (.exit 0)) (.seq (.block 1 (ZQ wg4_7 (ZQ wg4_8 (.block 2 (.loop wl4_0))))) (.region wg4_28))))
def wf4:Vm:=⟨143,(ZQ wg4_0 (.seq (ZQ wg4_1 (.cond (.t 15) (ZR wg4_2) .skip)) (.seq (ZQ wg4_3 (.cond (.t 35) (ZR wg4_4) .skip)) (.seq (ZQ wg4_5 (.block 0 (.loop wl4_1))) (ZR wg4_29))))),[.t 4]⟩
abbrev d4l_0:List Nat:=[46,47,48,49,8,7,50,51,9,52,53,54,55,56,57,58,59,60,61,62,63,64,65,4,66,67,68,69,70,71,10,141,45,72,73,74,75,76,77,11,12,78,79,80,81,82,83,84,85,86,87,88,89,90,91,92,93,94,95,96,97,98,99,100,101,102,103,104,105,106,107,108,109,110,111,112,113,114,115,116,117,118,119,120,121,122,123,124,13,125,126,127,128,129,130,131,132,133,134,135,136,137,138,139,140]
abbrev d4l_1:List Nat:=[39,40,41,42,5,6,43,44,45,142,38,46,47,48,49,8,7,50,51,9,52,53,54,55,56,57,58,59,60,61,62,63,64,65,4,66,67,68,69,70,71,10,141,72,73,74,75,76,77,11,12,78,79,80,81,82,83,84,85,86,87,88,89,90,91,92,93,94,95,96,97,98,99,100,101,102,103,104,105,106,107,108,109,110,111,112,113,114,115,116,117,118,119,120,121,122,123,124,13,125,126,127,128,129,130,131,132,133,134,135,136,137,138,139,140]
abbrev d4m_2:List Nat:=[120,121,122,123,124,13,125,126,127,128,129,130,131,132,133,134,135,136,137,138,139,140,4]
abbrev d4m_1:List Nat:=[72,73,74,75,76,77,11,12,78,79,80,81,82,83,84,85,86,87,88,89,90,91,92,93,94,95,96,97,98,99,100,101,102,103,104,105,106,107,108,109,110,111,112,113,114,115,116,117,118,119,4]
theorem cpy4{Γ:RC}{m:Nat}(cq:∀ f args s,f≠6->(Γ.cg Y0).fn f args s=R (m+6) Y0 f args s){s:St}{jv:AV}{js:List (AV × List En)}(hj:YQ (fun _=>False) s jv js)(ht:tot js<=80)(b9:js.length<=12)(hn:100 < m){xv:AV}{i:Nat}{l:List En}(hi:js[i]?=some (xv,l))(h0:0 < l.length):
  ∃ s' J id,∃ vs:List AV,(Γ.cg Y0).fn 13 [jv] s=.ret (.own J 0 js.length 1 none js.length) s'/\Vd s s'/\vs.length=js.length/\(∀(i:Nat) (v:AV) (p:AV × List En),vs[i]?=some v->js[i]?=some p->Cp s.next s' v p.2/\∀ x,T5 v=some x->¬ hO (.own J 0 js.length 1 none js.length) x)/\(∀(i j:Nat) (v w:AV) (x:Nat),i < j->vs[i]?=some v->vs[j]?=some w->T5 v=some x->T5 w≠some x) ∧
   vs[i]?=some (.own id 0 l.length 9 none l.length)/\s.next<=id/\id < s'.next/\s'.get id=some (.row (l.map En.cells).flatten)/\s.next<=J/\J < s'.next/\s'.get J=some (.row vs)/\id≠J/\VC 1 (.own J 0 js.length 1 none js.length) (ZI i)=some (.ptr J i):=by
 have dp:i < js.length:=(Qt.1 hi).1
 obtain⟨s',cv,vs,AG,k,dq,bX,i6,lE⟩:=copied13_run hj (fun _ h=>h.elim) (by omega) (by omega) (m+5) Y0 (by omega)
 obtain⟨id,m4,ia,ib,ig,iO⟩:=copy_at hi h0 dq i6
 obtain⟨J,rfl,ja,jb,jg⟩:=copy_row bX dq (by omega)
 exact⟨s',J,id,vs,by rw[cq _ _ _ (by decide)];exact AG,k,dq,i6,lE,m4,ia,ib,ig,ja,jb,jg,fun e=>iO ⟨_,_,_,_,by rw[e]⟩,iaN dp none _⟩
theorem fit4{Γ:RC}{m:Nat}(cq:∀ f args s,f≠6->(Γ.cg Y0).fn f args s=R (m+6) Y0 f args s){s sa:St}{lv pv cv:AV}{ls:List (List AV)}{ps:List Int}{N:Int}{js:List (AV × List En)}{lo:Nat}(hl:RB 1 (fun _=>False) s lv ls)(hp:RE (fun _=>False) s pv ps)(hj:YQ (fun x=>lo<=x/\x < sa.next) sa cv js)(hP:ps.length=ls.length)(hA:areB ls.length N js=true)(hn:fzJ js+40000 < m)(bW:ls.length<=24)(bC:Rb ls.length ps N=true)(dU:¬ okM ls.length ps (Vq js)):
  ∃ sb,(Γ.cg Y0).fn 12 [.agg [lv,pv,.int .i64 N],cv] sa=.ret (.bool false) sb/\Vd sa sb:=by
 obtain⟨sb,B,qU,k,hB⟩:=fits12_run (hl.mono (T3 s sa) fun _ h=>h.elim) (hp.mono (T3 s sa) fun _ h=>h.elim) hj (fun y hy=>hy.2) hP hA m Y0 hn bW bC
 cases B with
 | false=>exact⟨sb,by rw[cq _ _ _ (by decide)];exact qU,k⟩
 | true=>exact absurd (hB.1 rfl) dU
set_option maxHeartbeats 1000000 in
theorem named4_run{Γ:RC}{m:Nat}(cq:∀ f args s,f≠6->(Γ.cg Y0).fn f args s=R (m+6) Y0 f args s){s:St}{fr:Fr}{lv pv jv:AV}{ls:List (List AV)}{ps:List Int}{N:Int}{js:List (AV × List En)}
  (hl:RB 1 (fun _=>False) s lv ls) (hp:RE (fun _=>False) s pv ps) (hj:YQ (fun _=>False) s jv js) (hP:ps.length=ls.length) (hA:areB ls.length N js=true) (ht:tot js<=80) (b9:js.length<=12) (hn:2*fzJ js+50000 < m) (bW:ls.length<=24) (bC:Rb ls.length ps N=true) (bc:okM ls.length ps (Vq js))
  {xv:AV} {i:Nat} {l1 l2:List En} {x:En} (hi:js[i]?=some (xv,l1++x::l2)) {X:Nat} (hX:s.get X=some (.row x.cells)) (lX:X < s.next)
  (g1:fr.get 1=some jv) (g2:fr.get 2=some (.fptr [lv,pv,.int .i64 N] 0)) (g5:fr.get 5=some (ZI i)) (g7:fr.get 7=some (ZI l1.length)) (g8:fr.get 8=some (.ptr X 0)):
  ∃ FR s',Vh Γ Y0 (m+6) wm4_2 none fr s=.norm FR s'/\Kq d4m_2 fr FR/\Vd s s':=by
 have dp:i < js.length:=(Qt.1 hi).1
 have aH:=Qr hi
 have qV:(js.map (·.2))[i]?=some (l1++x::l2):=by rw[Q5,hi];rfl
 have gz:∀ p∈js,p.2.length<=80:=fun p hp=>QY (Pl (Q6.2 ⟨p,hp,rfl⟩)) ht
 have d6:(l1++x::l2).length<=80:=gz _ aH
 have qW:l1.length+l2.length+1<=80:=by simpa [X1] using d6
 have dk:=Chg.good qV hA
 have eN:∀ e∈l1++x::l2,e.ok:=(hj.2 _ aH).2
 have rN:x.fz<=fzJ js:=Pq aH (by simp)
 have qd:=Pm aH
 have lx:Vf true 9 s (.ptr X 0)=some (.agg x.cells):=Wk hX x.cells9.1
 obtain⟨sa,rV,ka⟩:=others18_run hj (fun _ h=>h.elim) (by omega) x.cells_at2 (m+5) Y0 (by omega)
 have rV:(Γ.cg Y0).fn 18 [jv,.agg x.cells] s=.ret (.bool (decide (1 < RO (VH js) x.prop))) sa:=by rw[cq _ _ _ (by decide)];exact rV
 obtain⟨B,hB⟩:∃ B,decide (1 < RO (VH js) x.prop)=B:=⟨_,rfl⟩
 rw[hB] at rV
 have nsa:=ka.1
 obtain⟨J1,H1,K1,O1_122⟩:∃ aa,Vj (Γ.cg Y0) wg4_22 fr s=.ok aa sa/\Kq [122,121,120] fr aa/\aa.get 122=some (.bool B):=⟨_,by simp only[Rw,rQ,rA,g1,g8,wg4_22,lx,rV]<;>rfl,Kq.refl.s.s.s,gh⟩
 have V1_1:=K1.g 1 g1
 have V1_2:=K1.g 2 g2
 have V1_5:=K1.g 5 g5
 have V1_7:=K1.g 7 g7
 cases B with
 | true=>
  obtain⟨sb,Jc_,idc,vsc,c13c,ksb,vB,vC,vD,oo,iac,ibc,igc,jac,jbc,jgc,iJc,icc⟩:=cpy4 cq (hj.mono (T3 s sa) fun _ h=>h) ht b9 (by omega) hi (by rw[QJ,QC];omega)
  have nsb:=ksb.1
  have ldc:Vf false 1 sb (.ptr Jc_ i)=some (.own idc 0 (l1++x::l2).length 9 none (l1++x::l2).length):=Vk jgc oo
  have ik:VC 9 (.own idc 0 (l1++x::l2).length 9 none (l1++x::l2).length) (ZI l1.length)=some (.ptr idc (l1.length*9)):=iaOwn (by simp) _ _
  have tR:(((l1++x::l2).map En.cells).flatten)[l1.length*9+3]?=some (.int .i64 x.gate):=by
   have h:=flat_cell9 (rest:=[]) (fun y hy=>(Pg (l1++x::l2) y hy).1) (k:=l1.length) (o:=3) (x:=x.cells) (v:=.int .i64 x.gate) (by rw[Q5];simp) rfl
   simpa using h
  have lg:Vf false 1 sb (.ptr idc (l1.length*9+3))=some (.int .i64 x.gate):=Vk igc tR
  have ad:=addI x.gate (.ofNat 1)
  obtain⟨x',aK⟩:∃ x':En,x'={ x with gate:=aw x.gate (.ofNat 1) }:=⟨_,rfl⟩
  have mY:x'.cells=setCells x.cells 3 [.int .i64 (aw x.gate (.ofNat 1))]:=by rw[aK];rfl
  obtain⟨sc,gW⟩:∃ sc,sc=sb.put idc (.row ((l1++x'::l2).map En.cells).flatten):=⟨_,rfl⟩
  have bj:Vt 1 sb (.ptr idc (l1.length*9+3)) (.int .i64 (aw x.gate (.ofNat 1)))=some sc:=by
   rw[gW];exact V4 igc rfl (set_cell mY (by omega)) (by rw[Ph];simp;omega) rfl
  have nsc:sc.next=sb.next:=by rw[gW];rfl
  have osc:∀ y,y≠idc->sc.get y=sb.get y:=fun y hy=>by rw[gW,St.get_put,Qe hy]
  have gsc:sc.get idc=some (.row ((l1++x'::l2).map En.cells).flatten):=by rw[gW,St.get_put,Qm rfl]
  have qX:(l1++x::l2).length=(l1++x'::l2).length:=by simp
  have vE:Cp sa.next sc (.own idc 0 (l1++x::l2).length 9 none (l1++x::l2).length) (l1++x'::l2):=.inr ⟨idc,by rw[qX],iac,by omega,gsc⟩
  have vF:∀ e∈l1++x'::l2,e.ok:=fun e he=>by
   simp only[QV,Qx] at he
   rcases he with h | h | h
   ·exact eN e (by simp[h])
   ·rw[h,aK];exact eN x (by simp)
   ·exact eN e (by simp[h])
  obtain⟨rj,cg⟩:=chg_rep (s4:=sc) (v':=.own idc 0 (l1++x::l2).length 9 none (l1++x::l2).length) hi (fun p hp=>(hj.2 p hp).2) (fun p hp=>by have:=gz p hp;omega) (by omega) vF vB vC vD oo jac (by omega) (by omega) (fun y _ _ h1 _=>osc y h1) (vE.sln (by rw[<-qX];omega)) (by rw[set_same oo,osc _ iJc.symm];exact jgc)
  generalize (vsc.set i (.own idc 0 (l1++x::l2).length 9 none (l1++x::l2).length)).zip ((js.map (·.2)).set i (l1++x'::l2))=jsc at rj cg
  have AH:(l1++x'::l2).all (En.good ls.length)=true:=by
   rw[QB] at dk ⊢
   intro e he
   simp only[QV,Qx] at he
   rcases he with h | h | h
   ·exact dk e (by simp[h])
   ·rw[h,aK];exact good_gate _ (dk x (by simp))
   ·exact dk e (by simp[h])
  have AI:=cg.tot
  have AJ:=cg.fzJ
  have jP:x'.fz=x.fz:=by rw[aK];rfl
  simp only[QQ,Q4,List.sum_append,Zq,QJ,QC,jP] at AI AJ
  have dU:¬ okM ls.length ps (Vq jsc):=cg.named bc (by rw[aK]) (by rw[aK];exact aw1_ne _) (by simpa using hB)
  obtain⟨sd,c12c,ksd⟩:=fit4 cq hl hp rj hP (cg.areB hA AH (by omega)) (by omega) bW bC dU
  have nsd:=ksd.1
  obtain⟨J2,H2,O2_13⟩:∃ aa,Vj (Γ.cg Y0) wg4_23 J1 sa=.ok aa sb/\aa.get 13=some (.own Jc_ 0 js.length 1 none js.length):=⟨_,by simp only[Rw,rQ,rA,V1_1,wg4_23,c13c]<;>rfl,gh⟩
  obtain⟨J3,H3⟩:∃ aa,Vj (Γ.cg Y0) wg4_24 J2 sb=.ok aa sc:=⟨_,by simp only[Rw,rQ,rA,(ag H2 V1_5),(ag H2 V1_7),O2_13,wg4_24,icc,ldc,ik,faI,lg,ad,bj]<;>rfl⟩
  obtain⟨J4,H4,O4_140⟩:∃ aa,Vj (Γ.cg Y0) wg4_25 J3 sc=.ok aa sd/\aa.get 140=some (.bool false):=⟨_,by simp only[Rw,rQ,rA,(ag H3 (ag H2 V1_2)),(ag H3 O2_13),wg4_25,Jh,c12c]<;>rfl,gh⟩
  have kk:=((((K1.t (aq H2)).t (aq H3)).t (aq H4))).to (E:=d4m_2)
  have dr:Vh Γ Y0 (m+6) wm4_2 none fr s=.norm J4 sd:=by
   simp only[Rw,rQ,rA,wm4_2,Rx,R5,R6,R7,b44,b55,b66,b77,b88,b99,bAA,bA11,H1,H2,H3,H4,O1_122,O4_140]
  exact⟨_,_,dr,kk,(ka.trans ((show Vd sa sc from ⟨by omega,fun y hy=>by rw[osc y (by omega)];exact ksb.2 y hy⟩).trans ksd))⟩
 | false=>
  have kk:=(K1).to (E:=d4m_2)
  have dr:Vh Γ Y0 (m+6) wm4_2 none fr s=.norm J1 sa:=by
   simp only[Rw,rQ,rA,wm4_2,Rx,R5,R6,R7,b44,b55,b66,b77,b88,b99,bAA,bA11,H1,O1_122]
  exact⟨_,_,dr,kk,ka⟩
theorem turn_cells{l1 m c:List En}{x y:En}:setCells (setCells ((l1++x::(m++y::c)).map En.cells).flatten (l1.length*9) y.cells) ((l1.length+1+m.length)*9) x.cells=((l1++y::(m++x::c)).map En.cells).flatten:=by
 have h9:∀ l:List En,∀ z∈l.map En.cells,z.length=9:=fun l z hz=>(Pg l z hz).1
 rw[Rh _ _ _ (h9 _) y.cells9.1 (by simp),<-List.map_set,Rh _ _ _ (h9 _) x.cells9.1 (by simp;omega),<-List.map_set]
 congr 2
 have e1:(l1++x::(m++y::c)).set l1.length y=l1++y::(m++y::c):=by
  rw[List.set_append,Qe (by omega),ZJ];rfl
 rw[e1,List.set_append,Qe (by omega),show l1.length+1+m.length - l1.length=m.length+1 by omega,List.set_cons_succ,List.set_append,Qe (by omega),ZJ];rfl
set_option maxHeartbeats 2000000 in
theorem turned4_run{Γ:RC}{m:Nat}(cq:∀ f args s,f≠6->(Γ.cg Y0).fn f args s=R (m+6) Y0 f args s){s:St}{fr:Fr}{lv pv jv:AV}{ls:List (List AV)}{ps:List Int}{N:Int}{js:List (AV × List En)}
  (hl:RB 1 (fun _=>False) s lv ls) (hp:RE (fun _=>False) s pv ps) (hj:YQ (fun _=>False) s jv js) (hP:ps.length=ls.length) (hA:areB ls.length N js=true) (ht:tot js<=80) (b9:js.length<=12) (hn:2*fzJ js+50000 < m) (bW:ls.length<=24) (bC:Rb ls.length ps N=true) (bc:okM ls.length ps (Vq js))
  {xv:AV} {i:Nat} {l1 l2:List En} {x:En} (hi:js[i]?=some (xv,l1++x::l2)) {X:Nat} (hX:s.get X=some (.row x.cells)) (lX:X < s.next) {r:Int} (hr:r=.negSucc 0\/∃ (j:Nat) (y:En),r=.ofNat j/\l2[j]?=some y/\y.leaf=x.leaf)
  (g1:fr.get 1=some jv) (g2:fr.get 2=some (.fptr [lv,pv,.int .i64 N] 0)) (g5:fr.get 5=some (ZI i)) (g6:fr.get 6=some xv) (g7:fr.get 7=some (ZI l1.length)) (g8:fr.get 8=some (.ptr X 0)) (eK:fr.get 10=some (.int .i64 r)):
  ∃ FR s',Vh Γ Y0 (m+6) wm4_1 none fr s=.norm FR s'/\Kq d4m_1 fr FR/\Vd s s':=by
 have dp:i < js.length:=(Qt.1 hi).1
 have aH:=Qr hi
 have qV:(js.map (·.2))[i]?=some (l1++x::l2):=by rw[Q5,hi];rfl
 have gz:∀ p∈js,p.2.length<=80:=fun p hp=>QY (Pl (Q6.2 ⟨p,hp,rfl⟩)) ht
 have d6:(l1++x::l2).length<=80:=gz _ aH
 have qW:l1.length+l2.length+1<=80:=by simpa [X1] using d6
 have dk:=Chg.good qV hA
 have eN:∀ e∈l1++x::l2,e.ok:=(hj.2 _ aH).2
 have rN:x.fz<=fzJ js:=Pq aH (by simp)
 have qd:=Pm aH
 obtain⟨V,hV⟩:∃ V,decide (r>=.ofNat 0)=V:=⟨_,rfl⟩
 have ni:Vr false .geq (.int .i64 r) Z0=some (.bool V):=by rw[geqI,hV]
 obtain⟨J1,H1,K1,O1_73⟩:∃ aa,Vj (Γ.cg Y0) wg4_16 fr s=.ok aa s/\Kq [73,72] fr aa/\aa.get 73=some (.bool V):=⟨_,by simp only[Rw,rQ,rA,eK,wg4_16,ni]<;>rfl,Kq.refl.s.s,gh⟩
 have V1_1:=K1.g 1 g1
 have V1_2:=K1.g 2 g2
 have V1_5:=K1.g 5 g5
 have V1_6:=K1.g 6 g6
 have V1_7:=K1.g 7 g7
 have V1_8:=K1.g 8 g8
 have V1_10:=K1.g 10 eK
 cases V with
 | true=>
  obtain⟨j,y,rfl,hy,eP⟩:∃ (j:Nat) (y:En),r=.ofNat j/\l2[j]?=some y/\y.leaf=x.leaf:=by
   rcases hr with h | h
   ·rw[h] at hV;cases hV
   ·exact h
  obtain⟨ma,cb,fE,AK⟩:∃ ma cb,l2=ma++y::cb/\ma.length=j:=by
   have b9:=(Qt.1 hy)
   have AL:=b9.1
   refine⟨l2.take j,l2.drop (j+1),?_,by rw[Xl];omega⟩
   conv=>lhs;rw[<-Zb j l2,XO b9.1,b9.2]
  obtain⟨sa,Jt_,idt,vst,c13t,ksa,vG,vH,vI,oq,iat,ibt,igt,jat,jbt,jgt,iJt,ict⟩:=cpy4 cq (hj.mono (T3 s s) fun _ h=>h) ht b9 (by omega) hi (by rw[QJ,QC];omega)
  have nsa:=ksa.1
  obtain⟨sb,Jl_,idl,vsl,c13l,ksb,qY,vJ,vK,qZ,ial,ibl,igl,jal,jbl,jgl,iJl,icl⟩:=cpy4 cq (hj.mono (T3 s sa) fun _ h=>h) ht b9 (by omega) hi (by rw[QJ,QC];omega)
  have nsb:=ksb.1
  obtain⟨J2,H2,O2_11,O2_12⟩:∃ aa,Vj (Γ.cg Y0) wg4_17 J1 s=.ok aa sb/\aa.get 11=some (.own Jt_ 0 js.length 1 none js.length)/\aa.get 12=some (.own Jl_ 0 js.length 1 none js.length):=⟨_,by simp only[Rw,rQ,rA,V1_1,wg4_17,c13t,c13l]<;>rfl,gn gh,gh⟩
  have V2_5:=ag H2 V1_5
  have V2_6:=ag H2 V1_6
  have V2_7:=ag H2 V1_7
  have V2_8:=ag H2 V1_8
  have V2_10:=ag H2 V1_10
  have gJt:sb.get Jt_=some (.row vst):=(ksb.2 _ jbt).trans jgt
  have gIt:sb.get idt=some (.row ((l1++x::l2).map En.cells).flatten):=(ksb.2 _ ibt).trans igt
  have ldt:Vf false 1 sb (.ptr Jt_ i)=some (.own idt 0 (l1++x::l2).length 9 none (l1++x::l2).length):=Vk gJt oq
  have aU:=WC (i:=l1.length) (by omega)
  have AN:j < l2.length:=(Qt.1 hy).1
  have ot:=addN (i:=l1.length+1) (j:=j) (by omega)
  have bn:RB 9 (fun _=>False) sb xv ((l1++x::l2).map En.cells):=((hj.2 _ aH).1).mono (T3 s sb) fun _ h=>h
  obtain⟨py,iy,jZ⟩:=bn.at (k:=l1.length+1+j) (x:=y.cells) (by
   rw[Q5,Xg (by omega),show l1.length+1+j - l1.length=j+1 by omega,QE,hy];rfl)
  have jZ:=jZ sb (T3 _ _)
  have gXb:sb.get X=some (.row x.cells):=by rw[ksb.2 X (by omega),ksa.2 X lX];exact hX
  have lx:Vf true 9 sb (.ptr X 0)=some (.agg x.cells):=Wk gXb x.cells9.1
  have vM:VC 9 (.own idt 0 (l1++x::l2).length 9 none (l1++x::l2).length) (ZI l1.length)=some (.ptr idt (l1.length*9)):=iaOwn (by simp) _ _
  have vN:VC 9 (.own idt 0 (l1++x::l2).length 9 none (l1++x::l2).length) (ZI ((l1.length+1+j)))=some (.ptr idt ((l1.length+1+j)*9)):=iaOwn (by simp;omega) _ _
  obtain⟨ou,jL⟩:∃ ou,ou=sb.put idt (.row (setCells ((l1++x::l2).map En.cells).flatten (l1.length*9) y.cells)):=⟨_,rfl⟩
  obtain⟨sc,gW⟩:∃ sc,sc=ou.put idt (.row ((l1++y::(ma++x::cb)).map En.cells).flatten):=⟨_,rfl⟩
  have jM:((l1++x::l2).map En.cells).flatten.length=(l1.length+l2.length+1)*9:=by rw[Ph];simp[X1]
  have ai:Vt 9 sb (.ptr idt (l1.length*9)) (.agg y.cells)=some ou:=by
   rw[jL];exact V4 gIt y.cells9.1 rfl (by rw[jM];omega) y.cells9.2
  have vO:ou.get idt=some (.row (setCells ((l1++x::l2).map En.cells).flatten (l1.length*9) y.cells)):=by rw[jL,St.get_put,Qm rfl]
  have st2:Vt 9 ou (.ptr idt ((l1.length+1+j)*9)) (.agg x.cells)=some sc:=by
   rw[gW];exact V4 vO x.cells9.1 (by rw[show (AV.agg x.cells).cells=x.cells from rfl,fE,<-AK];exact turn_cells) (by rw[TS _ _ _ (by rw[y.cells9.1,jM];omega),jM];omega) x.cells9.2
  have nsc:sc.next=sb.next:=by rw[gW,jL];rfl
  have osc:∀ z,z≠idt->sc.get z=sb.get z:=fun z hz=>by rw[gW,St.get_put,Qe hz,jL,St.get_put,Qe hz]
  have gsc:sc.get idt=some (.row ((l1++y::(ma++x::cb)).map En.cells).flatten):=by rw[gW,St.get_put,Qm rfl]
  have AP:X≠idt:=by omega
  have ow:Vf true 9 ou (.ptr X 0)=some (.agg x.cells):=Wk (by rw[jL,St.get_put,Qe AP];exact gXb) x.cells9.1
  have rD:V8 (.agg x.cells) (.agg x.cells)=true:=by simp only[V8];exact En.beq_of sb (eN x (by simp))
  obtain⟨J3,H3,K3⟩:∃ aa,VK (Γ.cg Y0) wg4_18 [(20,some 22),(20,some 24)] J2 sb=.ok aa sc/\Kq [100,99,98,97,96,95,94,93,92,91,90,89,88,87,86,85,84,83,82,81,80,79,78] J2 aa:=by
   refine⟨?r70,?r71,?r72⟩
   case r71=>
    refine KB (ak:=?r7i) ?r7x ?r7y ?r7z
    case r7x=>
     simp only[Rw,rQ,rA,WH,WU,DR.cons,V5,VJ,VT,V2_5,V2_6,V2_7,V2_8,V2_10,O2_11,wg4_18,ict,ldt,aU,ot,iy,jZ,lx,ow,vM,vN,ai,st2]
     rfl
    case r7y=>rfl
    case r7z=>
     simp only[QN,QW,Qy,Qd]
     refine⟨Wo (i:=20) (k:=22) rfl rfl rfl rfl ?r7k0,Wo (i:=20) (k:=24) rfl rfl rfl rfl ?r7k1⟩
     case r7k0=>
      right
      refine⟨?r7s0,?r7l0,rD⟩
      case r7l0=>
       simp only[Rw,rQ,rA,V5,V2_5,V2_6,V2_7,V2_8,V2_10,O2_11,wg4_18,ict,ldt,aU,ot,iy,jZ,lx,ow,vM,vN,ai,st2]
       rfl
     case r7k1=>
      right
      refine⟨?r7s1,?r7l1,rD⟩
      case r7l1=>
       simp only[Rw,rQ,rA,V5,V2_5,V2_6,V2_7,V2_8,V2_10,O2_11,wg4_18,ict,ldt,aU,ot,iy,jZ,lx,ow,vM,vN,ai,st2]
       rfl
   case r72=>exact Kq.refl.s.s.s.s.s.s.s.s.s.s.s.s.s.s.s.s.s.s.s.s.s.s.s
  have V3_2:=K3.g 2 (ag H2 V1_2)
  have V3_5:=K3.g 5 V2_5
  have V3_7:=K3.g 7 V2_7
  have V3_11:=K3.g 11 O2_11
  have V3_12:=K3.g 12 O2_12
  have ldl:Vf false 1 sc (.ptr Jl_ i)=some (.own idl 0 (l1++x::l2).length 9 none (l1++x::l2).length):=Vk (by rw[osc _ (by omega)];exact jgl) qZ
  have gIl:sc.get idl=some (.row ((l1++x::l2).map En.cells).flatten):=by rw[osc _ (by omega)];exact igl
  have m5:(l1++x::l2).length=l1.length+l2.length+1:=by simp[X1]
  obtain⟨sd,rest,vP,gsd,nsd,osd⟩:=delete17_run (n:=l1.length+l2.length) rfl (by omega) gIl (m+5) Y0
  have vP:(Γ.cg Y0).fn 17 [.own idl 0 (l1++x::l2).length 9 none (l1++x::l2).length,ZI l1.length,ZI ((l1.length+1))] sc=.ret (.own idl 0 (l1.length+l2.length) 9 none (l1.length+l2.length+1)) sd:=by rw[cq _ _ _ (by decide),m5];exact vP
  obtain⟨se,jY⟩:∃ se,se=sd.put Jl_ (.row (vsl.set i (.own idl 0 (l1.length+l2.length) 9 none (l1.length+l2.length+1)))):=⟨_,rfl⟩
  have gJd:sd.get Jl_=some (.row vsl):=by rw[osd _ iJl.symm,osc _ (by omega)];exact jgl
  have vQ:i < vsl.length:=by rw[qY];exact dp
  have RM:Vt 1 sd (.ptr Jl_ i) (.own idl 0 (l1.length+l2.length) 9 none (l1.length+l2.length+1))=some se:=by
   rw[jY];exact V4 gJd rfl (set_one vQ _) (by omega) rfl
  have nse:se.next=sd.next:=by rw[jY];rfl
  have ose:∀ z,z≠Jl_->se.get z=sd.get z:=fun z hz=>by rw[jY,St.get_put,Qe hz]
  have gJe:se.get Jl_=some (.row (vsl.set i (.own idl 0 (l1.length+l2.length) 9 none (l1.length+l2.length+1)))):=by rw[jY,St.get_put,Qm rfl]
  -- the copy that was turned
  have o0:∀ z,z < sa.next->z≠idt->se.get z=sa.get z:=fun z hz h=>by rw[ose z (by omega),osd z (by omega),osc z h];exact ksb.2 z hz
  have gte:se.get idt=some (.row ((l1++y::(ma++x::cb)).map En.cells).flatten):=by rw[ose _ (by omega),osd _ (by omega)];exact gsc
  have re:(l1++x::l2).length=(l1++y::(ma++x::cb)).length:=by rw[fE];simp
  have rf:Cp s.next se (.own idt 0 (l1++x::l2).length 9 none (l1++x::l2).length) (l1++y::(ma++x::cb)):=.inr ⟨idt,by rw[re],iat,by omega,gte⟩
  have dY:∀ e,e∈l1++y::(ma++x::cb)->e∈l1++x::l2:=fun e he=>by
   rw[fE];simp only[QV,Qx] at he ⊢
   rcases he with h | h | h | h | h<;>simp[h]
  have m7:∀ e,e∈l1++l2->e∈l1++x::l2:=fun e he=>by
   simp only[QV,Qx] at he ⊢
   rcases he with h | h<;>simp[h]
  obtain⟨rjt,cgt⟩:=chg_rep (s4:=se) (v':=.own idt 0 (l1++x::l2).length 9 none (l1++x::l2).length) hi (fun p hp=>(hj.2 p hp).2) (fun p hp=>by have:=gz p hp;omega) (by omega) (fun e he=>eN e (dY e he)) vG vH vI oq jat (by omega) (by omega) (fun z _ h0 h1 _=>o0 z h0 h1) (rf.sln (by rw[<-re];omega)) (by rw[set_same oq,o0 _ jbt iJt.symm];exact jgt)
  have gle:se.get idl=some (.row (((l1++l2).map En.cells).flatten++rest)):=by rw[ose _ iJl];exact gsd
  have slL:RB 9 (fun z=>sa.next<=z/\z < se.next) se (.own idl 0 (l1.length+l2.length) 9 none (l1.length+l2.length+1)) ((l1++l2).map En.cells):=⟨by omega,Pg _,by rw[Qu];simp;omega,.inr (.inr ⟨idl,none,l1.length+l2.length+1,rest,by simp,⟨ial,by omega⟩,gle⟩)⟩
  obtain⟨rjl,cgl⟩:=chg_rep (s4:=se) (v':=.own idl 0 (l1.length+l2.length) 9 none (l1.length+l2.length+1)) hi (fun p hp=>(hj.2 p hp).2) (fun p hp=>by have:=gz p hp;omega) (by omega) (fun e he=>eN e (m7 e he)) qY vJ vK qZ jal (by omega) (by omega) (fun z hz h0 h1 h2=>by rw[ose z h2,osd z h1,osc z (by omega)]) slL gJe
  generalize (vst.set i (.own idt 0 (l1++x::l2).length 9 none (l1++x::l2).length)).zip ((js.map (·.2)).set i (l1++y::(ma++x::cb)))=jst at rjt cgt
  generalize (vsl.set i (.own idl 0 (l1.length+l2.length) 9 none (l1.length+l2.length+1))).zip ((js.map (·.2)).set i (l1++l2))=jsl at rjl cgl
  have en:(l1++y::(ma++x::cb)).all (En.good ls.length)=true:=by
   rw[QB] at dk ⊢
   exact fun e he=>dk e (dY e he)
  have oP:(l1++l2).all (En.good ls.length)=true:=by
   rw[QB] at dk ⊢
   exact fun e he=>dk e (m7 e he)
  have nz:=cgt.tot
  have AQ:=cgt.fzJ
  have rH:=cgl.tot
  have me:=cgl.fzJ
  simp only[fE,QQ,Q4,List.sum_append,Zq,QJ,QC] at nz AQ rH me
  have AR:¬ okM ls.length ps (Vq jst):=cgt.not bc fun P hP=>by
   rw[fE] at hP
   have:=caught_turned (m:=ma) (c:=cb) (a:=l1) eP.symm (by simpa using hP)
   simpa using this
  have lU:¬ okM ls.length ps (Vq jsl):=cgl.not bc fun P hP=>by
   rw[fE] at hP ⊢
   have:=caught_less (m:=ma) (c:=cb) (a:=l1) eP.symm (by simpa using hP)
   simpa using this
  obtain⟨J4,H4⟩:∃ aa,Vj (Γ.cg Y0) wg4_19 J3 sc=.ok aa se:=⟨_,by simp only[Rw,rQ,rA,V3_5,V3_7,V3_12,wg4_19,icl,ldl,aU,vP,RM]<;>rfl⟩
  obtain⟨sf,c12t,ksf⟩:=fit4 cq hl hp rjt hP (cgt.areB hA en (by omega)) (by omega) bW bC AR
  have nsf:=ksf.1
  obtain⟨sg,c12l,ksg⟩:=fit4 cq hl hp (rjl.mono (G:=fun z=>sa.next<=z/\z < sf.next) (Vs.of ksf fun z hz=>hz.2) fun z hz=>⟨hz.1,by have:=hz.2;omega⟩) hP (cgl.areB hA oP (by omega)) (by omega) bW bC lU
  have nsg:=ksg.1
  obtain⟨J5,H5,O5_119⟩:∃ aa,Vj (Γ.cg Y0) wg4_20 J4 se=.ok aa sg/\aa.get 119=some (.bool false):=⟨_,by simp only[Rw,rQ,rA,(ag H4 V3_2),(ag H4 V3_11),(ag H4 V3_12),wg4_20,Jh,c12t,c12l,Qc,Qb,Qc,Qb]<;>rfl,gh⟩
  have kk:=(((((K1.t (aq H2)).t K3).t (aq H4)).t (aq H5))).to (E:=d4m_1)
  have bV:Vh Γ Y0 (m+6) wm4_1 none fr s=.norm J5 sg:=by
   simp only[Rw,rQ,rA,wm4_1,Rx,R5,R6,R7,b44,b55,b66,b77,b88,b99,bAA,bA11,H1,H2,H3,H4,H5,O1_73,O5_119]
  exact⟨_,_,bV,kk,(⟨by omega,fun z hz=>by rw[ksg.2 z (by omega),ksf.2 z (by omega),o0 z (by omega) (by omega),ksa.2 z hz]⟩)⟩
 | false=>
  have kk:=(K1).to (E:=d4m_1)
  have bV:Vh Γ Y0 (m+6) wm4_1 none fr s=.norm J1 s:=by
   simp only[Rw,rQ,rA,wm4_1,Rx,R5,R6,R7,b44,b55,b66,b77,b88,b99,bAA,bA11,H1,O1_73]
  exact⟨_,_,bV,kk,(Vd.refl s)⟩
end
open Nat renaming reduceEqDiff -> rQ, reduceAdd -> rA
def Ins14(m:Nat):Prop:=∀(s:St) (id v n k:Nat) (cs xs:List AV),s.get id=some (.row cs)->s.get v=some (.row xs)->s.bt.get v=some 50->id≠v->cs.length=n*9->xs.length=9->cs.all AV.one=true->xs.all AV.one=true->k < n->n<=1000 ->
 R (m+6) Y0 14 [.own id 0 n 9 none n,ZI k,.own v 0 1 9 (some 1) 0] s=.ret (.own s.next 0 (n+1) 9 none (n+1)) ((s.del id).new (.row (cs.take (k*9)++(xs++cs.drop (k*9)))))
theorem ins_cells{l1 l2:List En}{x:En}:((l1++x::l2).map En.cells).flatten.take (l1.length*9)++(x.cells++((l1++x::l2).map En.cells).flatten.drop (l1.length*9))=((l1++x::x::l2).map En.cells).flatten:=by
 have hl:=Ph l1
 rw[QQ,Q4,List.flatten_append,Xc,List.take_left' hl,List.drop_left' hl]
 simp
theorem bt_tag(s:St)(id e:Nat):(s.tag id e).bt.get id=some e:=by
 show (s.bt.set id (some e)).get id=_
 rw[Tr.get_set,Qm rfl]
theorem fl9g{zs y:List AV}(hz:zs.length=9)(h:y.length=9):VN zs [(0,9,.agg y)]=some y:=by
 have e:(AV.agg y).cells=y:=rfl
 have e2:setCells zs 0 y=y:=by
  unfold setCells
  rw[Xe,QR,Q7,h,XX (by omega),QG]
 simp[VN,e,h,hz,e2,Nat.ble]
theorem fl9{y:List AV}(h:y.length=9):VN [Z0,Z0,Z0,Z0,.nilsl,Z0,.nilsl,.nilsl,.nilsl] [(0,9,.agg y)]=some y:=fl9g rfl h
set_option maxHeartbeats 2000000 in
theorem inn4_run{Γ:RC}{m:Nat}(cq:∀ f args s,f≠6->(Γ.cg Y0).fn f args s=R (m+6) Y0 f args s){s:St}{fr:Fr}{lv pv jv:AV}{ls:List (List AV)}{ps:List Int}{N:Int}{js:List (AV × List En)}
  (hl:RB 1 (fun _=>False) s lv ls) (hp:RE (fun _=>False) s pv ps) (hj:YQ (fun _=>False) s jv js) (hP:ps.length=ls.length) (hA:areB ls.length N js=true) (ht:tot js<=80) (b9:js.length<=12) (hn:2*fzJ js+50000 < m) (bW:ls.length<=24) (bC:Rb ls.length ps N=true) (bc:okM ls.length ps (Vq js)) (jC:Ins14 m) {xv:AV} {l:List En} {i:Nat} (hi:js[i]?=some (xv,l))
  (g1:fr.get 1=some jv) (g2:fr.get 2=some (.fptr [lv,pv,.int .i64 N] 0)) (g5:fr.get 5=some (ZI i)) (g6:fr.get 6=some xv) (AS:fr.get 43=some xv) (uA:fr.get 44=some (ZI l.length)) (AT:fr.get 45=some Z0):
  ∃ FR s',Vx (Vh Γ Y0 (m+6) wl4_0 none) (m+6) fr s=.exit 2 FR s'/\Kq d4l_0 fr FR/\Vd s s':=by
 have AU:l.length<=80:=QY (Pl (Q6.2 ⟨_,Qr hi,rfl⟩)) ht
 refine Ws (B:=Vh Γ Y0 (m+6) wl4_0 none) (N:=l.length) (R3:=fun j f s1=>Kq d4l_0 fr f/\f.get 45=some (ZI j)/\Vd s s1)
  (Out:=fun r=>∃ FR s',r=.exit 2 FR s'/\Kq d4l_0 fr FR/\Vd s s') ?_ l.length 0 fr s (m+6) (by omega) (by omega) ⟨Kq.refl.to,AT,Vd.refl s⟩
 intro j f s1 fN ⟨kf,vR,ks⟩
 have f1:=kf.g 1 g1
 have f2:=kf.g 2 g2
 have f5:=kf.g 5 g5
 have f6:=kf.g 6 g6
 have AW:=kf.g 43 AS
 have vS:=kf.g 44 uA
 have am:=Wt j l.length
 by_cases br:j < l.length
 ·rw[Qs br] at am
  obtain⟨x,l1,l2,rF,rC⟩:∃ (x:En) (l1 l2:List En),l=l1++x::l2/\l1.length=j:=⟨l[j],l.take j,l.drop (j+1),map_split l j _ (Qn br),by rw[Xl];omega⟩
  subst rF
  subst rC
  have dp:i < js.length:=(Qt.1 hi).1
  have aH:=Qr hi
  have qV:(js.map (·.2))[i]?=some (l1++x::l2):=by rw[Q5,hi];rfl
  have gz:∀ p∈js,p.2.length<=80:=fun p hp=>QY (Pl (Q6.2 ⟨p,hp,rfl⟩)) ht
  have d6:(l1++x::l2).length<=80:=gz _ aH
  have qW:l1.length+l2.length+1<=80:=by simpa [X1] using d6
  have dk:=Chg.good qV hA
  have eN:∀ e∈l1++x::l2,e.ok:=(hj.2 _ aH).2
  have rN:x.fz<=fzJ js:=Pq aH (by simp)
  have qd:=Pm aH
  have bn:RB 9 (fun _=>False) s1 xv ((l1++x::l2).map En.cells):=((hj.2 _ aH).1).mono (T3 s s1) fun _ h=>h
  obtain⟨pe,ie,bk⟩:=bn.at (k:=l1.length) (x:=x.cells) (by rw[Q5,Xg (by omega),ZJ];rfl)
  have bk:=bk s1 (T3 _ _)
  have aU:=WC (i:=l1.length) (by omega)
  obtain⟨s2,bD⟩:∃ s2,s2=(s1.new (.row [Z0,Z0,Z0,Z0,.nilsl,Z0,.nilsl,.nilsl,.nilsl])).put s1.next (.row x.cells):=⟨_,rfl⟩
  have vU:Vt 9 (s1.new (.row [Z0,Z0,Z0,Z0,.nilsl,Z0,.nilsl,.nilsl,.nilsl])) (.ptr s1.next 0) (.agg x.cells)=some s2:=by rw[bD];exact VQ rfl x.cells9.1 x.cells9.2
  have k2:Vd s1 s2:=by rw[bD];exact(Vd.refl s1).newput _ _
  have n2:s2.next=s1.next+1:=by rw[bD];rfl
  have gX2:s2.get s1.next=some (.row x.cells):=by rw[bD,St.get_put,Qm rfl]
  have nks:=ks.1
  obtain⟨J1,H1,O1_46⟩:∃ aa,Vj (Γ.cg Y0) wg4_9 f s1=.ok aa s1/\aa.get 46=some (.bool true):=⟨_,by simp only[Rw,rQ,rA,vS,vR,wg4_9,am]<;>rfl,gh⟩
  have V1_43:=ag H1 AW
  have V1_45:=ag H1 vR
  obtain⟨J2,H2,O2_7,O2_8⟩:∃ aa,Vj (Γ.cg Y0) wg4_10 J1 s1=.ok aa s2/\aa.get 7=some (ZI l1.length)/\aa.get 8=some (.ptr s1.next 0):=⟨_,by simp only[Rw,rQ,rA,V1_43,V1_45,wg4_10,ie,bk,vU]<;>rfl,gh,gn gh⟩
  have V2_1:=ag H2 (ag H1 f1)
  obtain⟨s3,Jw_,idw,vsw,c13w,vV,rh,vW,vX,oA,iaw,ibw,igw,jaw,jbw,jgw,iJw,icw⟩:=cpy4 cq (hj.mono (T3 s s2) fun _ h=>h) ht b9 (by omega) hi (by rw[QJ,QC];omega)
  have Cd:=vV.1
  have ldw:Vf false 1 s3 (.ptr Jw_ i)=some (.own idw 0 (l1++x::l2).length 9 none (l1++x::l2).length):=Vk jgw oA
  have gX3:s3.get s1.next=some (.row x.cells):=(vV.2 _ (by omega)).trans gX2
  have vY:Vf true 9 s3 (.ptr s1.next 0)=some (.agg x.cells):=Wk gX3 x.cells9.1
  have fl:=fl9 x.cells9.1
  have vZ:Nat.beq x.cells.length (1*9)=true:=by rw[x.cells9.1];rfl
  obtain⟨s4,dW⟩:∃ s4,s4=(s3.new (.row x.cells)).tag s3.next 50:=⟨_,rfl⟩
  have n4:s4.next=s3.next+1:=by rw[dW];rfl
  have o4:∀ y,y≠s3.next->s4.get y=s3.get y:=fun y hy=>by rw[dW];show (s3.new _).get y=_;rw[St.get_new,Qe hy]
  have gN4:s4.get s3.next=some (.row x.cells):=by rw[dW];show (s3.new _).get _=_;rw[St.get_new,Qm rfl]
  have oB:Vf false 1 s4 (.ptr Jw_ i)=some (.own idw 0 (l1++x::l2).length 9 none (l1++x::l2).length):=Vk ((o4 _ (by omega)).trans jgw) oA
  have xH:V8 (.own idw 0 (l1++x::l2).length 9 none (l1++x::l2).length) (.own idw 0 (l1++x::l2).length 9 none (l1++x::l2).length)=true:=by simp only[V8,QD,onBeq,Bool.and_self]
  have AX:s4.bt.get s3.next=some 50:=by rw[dW];exact bt_tag _ _ _
  have gI4:s4.get idw=some (.row ((l1++x::l2).map En.cells).flatten):=by rw[o4 _ (by omega)];exact igw
  have m5:(l1++x::l2).length=l1.length+l2.length+1:=by simp[X1]
  have oC:=jC s4 idw s3.next (l1++x::l2).length l1.length _ _ gI4 gN4 AX (by omega) (by rw[Ph]) x.cells9.1 (cells_one _) x.cells9.2 (by omega) (by omega)
  rw[ins_cells] at oC
  obtain⟨s5,mq⟩:∃ s5,s5=(s4.del idw).new (.row ((l1++x::x::l2).map En.cells).flatten):=⟨_,rfl⟩
  rw[<-mq] at oC
  have oC:(Γ.cg Y0).fn 14 [.own idw 0 (l1++x::l2).length 9 none (l1++x::l2).length,ZI l1.length,.own s3.next 0 1 9 (some 1) 0] s4=.ret (.own s4.next 0 ((l1++x::l2).length+1) 9 none ((l1++x::l2).length+1)) s5:=by rw[cq _ _ _ (by decide)];exact oC
  have n5:s5.next=s4.next+1:=by rw[mq];rfl
  have o5:∀ y,y < s4.next->y≠idw->s5.get y=s4.get y:=fun y h1 h2=>by rw[mq,St.get_new,Qe (by show y≠s4.next;omega),St.get_del,Qe h2]
  have uh:s5.get s4.next=some (.row ((l1++x::x::l2).map En.cells).flatten):=by
   rw[mq];show ((s4.del idw).new _).get (s4.del idw).next=_
   rw[St.get_new,Qm rfl]
  obtain⟨s6,gN⟩:∃ s6,s6=s5.put Jw_ (.row (vsw.set i (.own s4.next 0 ((l1++x::l2).length+1) 9 none ((l1++x::l2).length+1)))):=⟨_,rfl⟩
  have gJ5:s5.get Jw_=some (.row vsw):=by rw[o5 _ (by omega) iJw.symm,o4 _ (by omega)];exact jgw
  have vQ:i < vsw.length:=by rw[rh];exact dp
  have stoW:Vt 1 s5 (.ptr Jw_ i) (.own s4.next 0 ((l1++x::l2).length+1) 9 none ((l1++x::l2).length+1))=some s6:=by
   rw[gN];exact V4 gJ5 rfl (set_one vQ _) (by omega) rfl
  have n6:s6.next=s5.next:=by rw[gN];rfl
  have o6:∀ y,y≠Jw_->s6.get y=s5.get y:=fun y hy=>by rw[gN,St.get_put,Qe hy]
  have gJ6:s6.get Jw_=some (.row (vsw.set i (.own s4.next 0 ((l1++x::l2).length+1) 9 none ((l1++x::l2).length+1)))):=by rw[gN,St.get_put,Qm rfl]
  have wa:∀ y,y < s3.next->y≠idw->y≠Jw_->s6.get y=s3.get y:=fun y h0 h1 h2=>by rw[o6 y h2,o5 y (by omega) h1,o4 y (by omega)]
  have ri:(l1++x::x::l2).length=(l1++x::l2).length+1:=by simp;omega
  have slW:RB 9 (fun y=>s2.next<=y/\y < s6.next) s6 (.own s4.next 0 ((l1++x::l2).length+1) 9 none ((l1++x::l2).length+1)) ((l1++x::x::l2).map En.cells):=⟨by omega,Pg _,by rw[Qu];omega,.inr (.inr ⟨s4.next,none,(l1++x::l2).length+1,[],by rw[Qu,ri],⟨by omega,by omega⟩,by rw[o6 _ (by omega),uh,QG]⟩)⟩
  have m8:∀ e,e∈l1++x::x::l2->e∈l1++x::l2:=fun e he=>by
   simp only[QV,Qx] at he ⊢
   rcases he with h | h | h | h<;>simp[h]
  obtain⟨rjw,cgw⟩:=chg_rep (s4:=s6) (v':=.own s4.next 0 ((l1++x::l2).length+1) 9 none ((l1++x::l2).length+1)) hi (fun p hp=>(hj.2 p hp).2) (fun p hp=>by have:=gz p hp;omega) (by omega) (fun e he=>eN e (m8 e he)) rh vW vX oA jaw (by omega) (by omega) (fun y _ h0 h1 h2=>wa y h0 h1 h2) slW gJ6
  generalize (vsw.set i (.own s4.next 0 ((l1++x::l2).length+1) 9 none ((l1++x::l2).length+1))).zip ((js.map (·.2)).set i (l1++x::x::l2))=jsw at rjw cgw
  have AY:(l1++x::x::l2).all (En.good ls.length)=true:=by
   rw[QB] at dk ⊢
   exact fun e he=>dk e (m8 e he)
  have AZ:=cgw.tot
  have Ba:=cgw.fzJ
  simp only[QQ,Q4,List.sum_append,Zq,QJ,QC] at AZ Ba
  have Bb:¬ okM ls.length ps (Vq jsw):=cgw.not bc fun P _=>caught_twice
  obtain⟨s7,c12w,wb⟩:=fit4 cq hl hp rjw hP (cgw.areB hA AY (by omega)) (by omega) bW bC Bb
  have Ce:=wb.1
  have Bc:Vd s1 s7:=⟨by omega,fun y hy=>by rw[wb.2 y (by omega),wa y (by omega) (by omega) (by omega),vV.2 y (by omega)];exact k2.2 y hy⟩
  have gX7:s7.get s1.next=some (.row x.cells):=by rw[wb.2 _ (by omega),wa _ (by omega) (by omega) (by omega)];exact gX3
  have Be:=ks.trans Bc
  obtain⟨ep,wc,jo⟩:=(bn.mono (T3 s1 s7) fun _ h=>h).from (k:=l1.length+1) (by rw[Qu];omega) (by rw[Qu];omega)
  have bH:((l1++x::l2).map En.cells).drop (l1.length+1)=l2.map En.cells:=by
   rw[<-List.map_drop,show l1++x::l2=(l1++[x])++l2 by simp,List.drop_left' (by simp)]
  rw[bH] at jo
  obtain⟨r,Bf,hr⟩:∃ r:Int,(Γ.cg Y0).fn 15 [ep,.func (.func 16) [] [.ptr s1.next 0]] s7=.ret (.int .i64 r) s7/\(r=.negSucc 0\/∃ (j:Nat) (y:En),r=.ofNat j/\l2[j]?=some y/\y.leaf=x.leaf):=by
   rcases index15_run jo x.leaf (r:=x.cells.tail) (by rw[gX7];rfl) (m+5) Y0 (by omega) with h|⟨j,e,h,h1,h2⟩
   ·exact⟨_,by rw[cq _ _ _ (by decide)];exact h,.inl rfl⟩
   ·exact⟨_,by rw[cq _ _ _ (by decide)];exact h,.inr ⟨j,e,rfl,h1,h2⟩⟩
  obtain⟨J3,H3,O3_9⟩:∃ aa,Vj (Γ.cg Y0) wg4_11 J2 s2=.ok aa s3/\aa.get 9=some (.own Jw_ 0 js.length 1 none js.length):=⟨_,by simp only[Rw,rQ,rA,V2_1,wg4_11,c13w]<;>rfl,gh⟩
  have V3_5:=ag H3 (ag H2 (ag H1 f5))
  have V3_7:=ag H3 O2_7
  have V3_8:=ag H3 O2_8
  obtain⟨J4,H4,K4⟩:∃ aa,VK (Γ.cg Y0) wg4_12 [(5,some 8),(5,some 9)] J3 s3=.ok aa s6/\Kq [62,61,60,59,58,57,56,55,54,53,52] J3 aa:=by
   refine⟨?r130,?r131,?r132⟩
   case r131=>
    refine KB (ak:=?r13i) ?r13x ?r13y ?r13z
    case r13x=>
     simp only[Rw,rQ,rA,WH,WU,DR.cons,V5,VJ,VT,V3_5,V3_7,V3_8,O3_9,wg4_12,icw,ldw,oB,vY,fl,vZ,R4.of2,<-dW,oC,stoW]
     rfl
    case r13y=>rfl
    case r13z=>
     simp only[QN,QW,Qy,Qd]
     refine⟨Wo (i:=5) (k:=8) rfl rfl rfl rfl ?r13k0,Wo (i:=5) (k:=9) rfl rfl rfl rfl ?r13k1⟩
     case r13k0=>
      right
      refine⟨?r13s0,?r13l0,xH⟩
      case r13l0=>
       simp only[Rw,rQ,rA,V5,V3_5,V3_7,V3_8,O3_9,wg4_12,icw,ldw,oB,vY,fl,vZ,R4.of2,<-dW,oC,stoW]
       rfl
     case r13k1=>
      right
      refine⟨?r13s1,?r13l1,xH⟩
      case r13l1=>
       simp only[Rw,rQ,rA,V5,V3_5,V3_7,V3_8,O3_9,wg4_12,icw,ldw,oB,vY,fl,vZ,R4.of2,<-dW,oC,stoW]
       rfl
   case r132=>exact Kq.refl.s.s.s.s.s.s.s.s.s.s.s
  have V4_1:=K4.g 1 (ag H3 V2_1)
  have V4_2:=K4.g 2 (ag H3 (ag H2 (ag H1 f2)))
  have V4_5:=K4.g 5 V3_5
  have V4_6:=K4.g 6 (ag H3 (ag H2 (ag H1 f6)))
  have V4_43:=K4.g 43 (ag H3 (ag H2 V1_43))
  have V4_44:=K4.g 44 (ag H3 (ag H2 (ag H1 vS)))
  have V4_45:=K4.g 45 (ag H3 (ag H2 V1_45))
  have V4_7:=K4.g 7 V3_7
  have V4_8:=K4.g 8 V3_8
  have V4_9:=K4.g 9 O3_9
  obtain⟨J5,H5,O5_65⟩:∃ aa,Vj (Γ.cg Y0) wg4_13 J4 s6=.ok aa s7/\aa.get 65=some (.bool false):=⟨_,by simp only[Rw,rQ,rA,V4_2,V4_9,wg4_13,Jh,c12w]<;>rfl,gh⟩
  have V5_6:=ag H5 V4_6
  have V5_7:=ag H5 V4_7
  have V5_8:=ag H5 V4_8
  obtain⟨J6,H6,O6_10⟩:∃ aa,Vj (Γ.cg Y0) wg4_15 J5 s7=.ok aa s7/\aa.get 10=some (.int .i64 r):=⟨_,by simp only[Rw,rQ,rA,V5_6,V5_7,V5_8,wg4_15,aU,wc,Bf,Option.map_none,QZ,Q4,Kx,Jy,Qc,Qb]<;>rfl,gh⟩
  have V6_1:=ag H6 (ag H5 V4_1)
  have V6_2:=ag H6 (ag H5 V4_2)
  have V6_5:=ag H6 (ag H5 V4_5)
  have V6_6:=ag H6 V5_6
  have V6_7:=ag H6 V5_7
  have V6_8:=ag H6 V5_8
  obtain⟨FR1,s8,Bg,kM1,k8⟩:=turned4_run cq (s:=s7) (hl.mono (T3 s s7) fun _ h=>h) (hp.mono (T3 s s7) fun _ h=>h) (hj.mono (T3 s s7) fun _ h=>h) hP hA ht b9 hn bW bC bc hi gX7 (by omega) hr (fr:=J6) V6_1 V6_2 V6_5 V6_6 V6_7 V6_8 O6_10
  have La1:=kM1.g 1 V6_1
  have La2:=kM1.g 2 V6_2
  have La5:=kM1.g 5 V6_5
  have La6:=kM1.g 6 V6_6
  have La7:=kM1.g 7 V6_7
  have La8:=kM1.g 8 V6_8
  have La43:=kM1.g 43 (ag H6 (ag H5 V4_43))
  have La44:=kM1.g 44 (ag H6 (ag H5 V4_44))
  have La45:=kM1.g 45 (ag H6 (ag H5 V4_45))
  have gX8:s8.get s1.next=some (.row x.cells):=(k8.2 _ (by omega)).trans gX7
  have n8:=k8.1
  obtain⟨FR2,s9,Bh,kM2,k9⟩:=named4_run cq (s:=s8) (hl.mono (T3 s s8) fun _ h=>h) (hp.mono (T3 s s8) fun _ h=>h) (hj.mono (T3 s s8) fun _ h=>h) hP hA ht b9 hn bW bC bc hi gX8 (by omega) (fr:=FR1) La1 La2 La5 La7 La8
  have Lb1:=kM2.g 1 La1
  have Lb2:=kM2.g 2 La2
  have Lb5:=kM2.g 5 La5
  have Lb6:=kM2.g 6 La6
  have Lb7:=kM2.g 7 La7
  have Lb8:=kM2.g 8 La8
  have Lb43:=kM2.g 43 La43
  have Lb44:=kM2.g 44 La44
  have Lb45:=kM2.g 45 La45
  obtain⟨J7,H7,O7_45⟩:∃ aa,Vj (Γ.cg Y0) wg4_27 FR2 s9=.ok aa s9/\aa.get 45=some (ZI ((l1.length+1))):=⟨_,by simp only[Rw,rQ,rA,Lb45,wg4_27,aU]<;>rfl,gh⟩
  have kk:=((((((((((kf.t (aq H1)).t (aq H2)).t (aq H3)).t K4).t (aq H5)).t (aq H6)).t kM1).t kM2).t (aq H7))).to (E:=d4l_0)
  have kV:Vh Γ Y0 (m+6) wl4_0 none f s1=.norm J7 s9:=by
   simp only[Rw,rQ,rA,wl4_0,Rx,R5,R6,R7,b44,b55,b66,b77,b88,b99,bAA,bA11,H1,H2,H3,H4,H5,H6,Bg,Bh,H7,O1_46,O5_65]
  rw[kV]
  exact⟨br,kk,O7_45,(Be.trans k8).trans k9⟩
 ·rw[Qp br] at am
  obtain⟨J8,H8,O8_46⟩:∃ aa,Vj (Γ.cg Y0) wg4_9 f s1=.ok aa s1/\aa.get 46=some (.bool false):=⟨_,by simp only[Rw,rQ,rA,vS,vR,wg4_9,am]<;>rfl,gh⟩
  have kk:=((kf.t (aq H8))).to (E:=d4l_0)
  have jy:Vh Γ Y0 (m+6) wl4_0 none f s1=.exit 2 J8 s1:=by
   simp only[Rw,rQ,rA,wl4_0,Rx,R5,R6,R7,b44,b55,b66,b77,b88,b99,bAA,bA11,H8,O8_46]
  rw[jy]
  exact⟨_,_,rfl,kk,ks⟩
set_option maxHeartbeats 1000000 in
theorem out4_run{Γ:RC}{m:Nat}(cq:∀ f args s,f≠6->(Γ.cg Y0).fn f args s=R (m+6) Y0 f args s){s:St}{fr:Fr}{lv pv jv:AV}{ls:List (List AV)}{ps:List Int}{N:Int}{js:List (AV × List En)}
  (hl:RB 1 (fun _=>False) s lv ls) (hp:RE (fun _=>False) s pv ps) (hj:YQ (fun _=>False) s jv js) (hP:ps.length=ls.length) (hA:areB ls.length N js=true) (ht:tot js<=80) (b9:js.length<=12) (hn:2*fzJ js+50000 < m) (bW:ls.length<=24) (bC:Rb ls.length ps N=true) (bc:okM ls.length ps (Vq js)) (jC:Ins14 m)
  (g1:fr.get 1=some jv) (g2:fr.get 2=some (.fptr [lv,pv,.int .i64 N] 0)) (Bi:fr.get 36=some jv) (Bj:fr.get 37=some (ZI js.length)) (Bk:fr.get 38=some Z0):
  ∃ FR s',Vx (Vh Γ Y0 (m+6) wl4_1 none) (m+6) fr s=.exit 0 FR s'/\Kq d4l_1 fr FR/\Vd s s':=by
 refine Ws (B:=Vh Γ Y0 (m+6) wl4_1 none) (N:=js.length) (R3:=fun j f s1=>Kq d4l_1 fr f/\f.get 38=some (ZI j)/\Vd s s1)
  (Out:=fun r=>∃ FR s',r=.exit 0 FR s'/\Kq d4l_1 fr FR/\Vd s s') ?_ js.length 0 fr s (m+6) (by omega) (by omega) ⟨Kq.refl.to,Bk,Vd.refl s⟩
 intro j f s1 fN ⟨kf,wd,ks⟩
 have f1:=kf.g 1 g1
 have f2:=kf.g 2 g2
 have Bl:=kf.g 36 Bi
 have we:=kf.g 37 Bj
 have am:=Wt j js.length
 by_cases br:j < js.length
 ·have hx:js[j]?=some js[j]:=Qn br
  generalize js[j]=p at hx
  obtain⟨xv,l⟩:=p
  obtain⟨pe,ie,bk⟩:=hj.1.ptr (k:=j) (x:=[xv]) (by rw[Q5,hx];rfl)
  have bk:Vf false 1 s1 pe=some xv:=by
   obtain⟨cs,h3,h4⟩:=bk s1 (T3 _ _)
   simp only[Vf,h3,Qg,h4,Ja,Qq]
  have bJ:=((hj.2 _ (Qr hx)).1).len s1
  rw[Qu] at bJ
  have aU:=WC (i:=j) (by omega)
  rw[Qs br] at am
  obtain⟨J1,H1,O1_39⟩:∃ aa,Vj (Γ.cg Y0) wg4_6 f s1=.ok aa s1/\aa.get 39=some (.bool true):=⟨_,by simp only[Rw,rQ,rA,we,wd,wg4_6,am]<;>rfl,gh⟩
  have V1_36:=ag H1 Bl
  have V1_38:=ag H1 wd
  obtain⟨J2,H2,O2_5,O2_6⟩:∃ aa,Vj (Γ.cg Y0) wg4_7 J1 s1=.ok aa s1/\aa.get 5=some (ZI j)/\aa.get 6=some (xv):=⟨_,by simp only[Rw,rQ,rA,V1_36,V1_38,wg4_7,ie,bk]<;>rfl,gn gh,gh⟩
  obtain⟨J3,H3,O3_43,O3_44,O3_45⟩:∃ aa,Vj (Γ.cg Y0) wg4_8 J2 s1=.ok aa s1/\aa.get 43=some (xv)/\aa.get 44=some (ZI l.length)/\aa.get 45=some Z0:=⟨_,by simp only[Rw,rQ,rA,O2_6,wg4_8,bJ]<;>rfl,gn (gn gh),gn gh,gh⟩
  have V3_1:=ag H3 (ag H2 (ag H1 f1))
  have V3_2:=ag H3 (ag H2 (ag H1 f2))
  obtain⟨FR1,s3,nD,kL1,k3⟩:=inn4_run (Γ:=Γ) cq (s:=s1) (hl.mono (T3 s s1) fun _ h=>h) (hp.mono (T3 s s1) fun _ h=>h) (hj.mono (T3 s s1) fun _ h=>h) hP hA ht b9 hn bW bC bc jC hx (fr:=J3) V3_1 V3_2 (ag H3 O2_5) (ag H3 O2_6) O3_43 O3_44 O3_45
  have La1:=kL1.g 1 V3_1
  have La2:=kL1.g 2 V3_2
  have La36:=kL1.g 36 (ag H3 (ag H2 V1_36))
  have La37:=kL1.g 37 (ag H3 (ag H2 (ag H1 we)))
  have La38:=kL1.g 38 (ag H3 (ag H2 V1_38))
  obtain⟨J4,H4,O4_38⟩:∃ aa,Vj (Γ.cg Y0) wg4_28 FR1 s3=.ok aa s3/\aa.get 38=some (ZI ((j+1))):=⟨_,by simp only[Rw,rQ,rA,La38,wg4_28,aU]<;>rfl,gh⟩
  have kk:=((((((kf.t (aq H1)).t (aq H2)).t (aq H3)).t kL1).t (aq H4))).to (E:=d4l_1)
  have dr:Vh Γ Y0 (m+6) wl4_1 none f s1=.norm J4 s3:=by
   simp only[Rw,rQ,rA,wl4_1,Rx,R5,R6,R7,b44,b55,b66,b77,b88,b99,bAA,bA11,H1,H2,H3,nD,H4,O1_39]
  rw[dr]
  exact⟨br,kk,O4_38,ks.trans k3⟩
 ·rw[Qp br] at am
  obtain⟨J5,H5,O5_39⟩:∃ aa,Vj (Γ.cg Y0) wg4_6 f s1=.ok aa s1/\aa.get 39=some (.bool false):=⟨_,by simp only[Rw,rQ,rA,we,wd,wg4_6,am]<;>rfl,gh⟩
  have kk:=((kf.t (aq H5))).to (E:=d4l_1)
  have bV:Vh Γ Y0 (m+6) wl4_1 none f s1=.exit 0 J5 s1:=by
   simp only[Rw,rQ,rA,wl4_1,Rx,R5,R6,R7,b44,b55,b66,b77,b88,b99,bAA,bA11,H5,O5_39]
  rw[bV]
  exact⟨_,_,rfl,kk,ks⟩
theorem t4:Ry 4=some wf4:=by kernel_rfl
set_option maxHeartbeats 1000000 in
theorem caught_run{Γ:RC}{n:Nat}{DF:Nat->List AV->St->DM->Option (DM × St)}{st stS:St}{lv pv jv:AV}{ls:List (List AV)}{ps:List Int}{N:Int}{js:List (AV × List En)}
  (h6:(Γ.cg Y0).fn 6 [] st=.ret (.bool true) stS) (cq:∀ f args s,f≠6->(Γ.cg Y0).fn f args s=R n Y0 f args s) (jC:∀ m,n=m+6->Ins14 m)
  (hl:RB 1 (fun _=>False) stS lv ls) (hp:RE (fun _=>False) stS pv ps) (hj:YQ (fun _=>False) stS jv js) (hn:2*fzJ js+ps.length+60000<=n):
  ∃ af,WK Γ Y0 n DF wf4 [.agg [lv,pv,.int .i64 N],jv] st=.ret (.bool true) af:=by
 obtain⟨m,rfl⟩:∃ m,n=m+6:=⟨n - 6,by omega⟩
 have jC:=jC m rfl
 have hF:∀ i,(fun _:Nat=>False) i->i < stS.next:=fun _ h=>h.elim
 have me:=fzJ_len js
 obtain⟨b7,c7,Bn⟩:=little4_run hj (m+5) Y0 (by omega)
 have c7:(Γ.cg Y0).fn 7 [jv] stS=.ret (.bool b7) stS:=by rw[cq _ _ _ (by decide)];exact c7
 have c8:=isPlan_run hl hp (N:=N) (m+5) Y0 (by omega)
 have c8:(Γ.cg Y0).fn 8 [.agg [lv,pv,.int .i64 N]] stS=.ret (.bool (Rb ls.length ps N)) stS:=by rw[cq _ _ _ (by decide)];exact c8
 obtain⟨P,bC⟩:∃ P,Rb ls.length ps N=P:=⟨_,rfl⟩
 rw[bC] at c8
 obtain⟨s9,c9,k9⟩:=areJ_run hl hj (N:=N) hF (m+4) Y0 (by omega)
 have c9:(Γ.cg Y0).fn 9 [.agg [lv,pv,.int .i64 N],jv] stS=.ret (.bool (areB ls.length N js)) s9:=by rw[cq _ _ _ (by decide)];exact c9
 obtain⟨A,hA⟩:∃ A,areB ls.length N js=A:=⟨_,rfl⟩
 rw[hA] at c9
 have hP:P=true->ps.length=ls.length/\ls.length<=24:=fun h=>by
  rw[h] at bC
  unfold Rb at bC
  simp only[Qd,QF] at bC
  exact⟨bC.1.2,bC.1.1.2⟩
 obtain⟨rk,F,ry⟩:∃ rk F,P=true->A=true->(Γ.cg Y0).fn 12 [.agg [lv,pv,.int .i64 N],jv] s9=.ret (.bool F) rk/\(F=true ↔ okM ls.length ps (Vq js)):=by
  by_cases h:P=true/\A=true
  ·obtain⟨rk,F,qU,_,nt⟩:=fits12_run (hl.mono (T3 stS s9) fun _ h=>h) (hp.mono (T3 stS s9) fun _ h=>h) (hj.mono (T3 stS s9) fun _ h=>h) (fun _ h=>h.elim) (hP h.1).1 (hA.trans h.2) m Y0 (by omega) (hP h.1).2 (bC.trans h.1)
   exact⟨rk,F,fun _ _=>⟨by rw[cq _ _ _ (by decide)];exact qU,nt⟩⟩
  ·exact⟨s9,false,fun h1 h2=>absurd ⟨h1,h2⟩ h⟩
 obtain⟨fA1,au⟩:∃ fA,fA=Vo 0 [.agg [lv,pv,.int .i64 N],jv] Fr.nil:=⟨_,rfl⟩
 have gA1_0:=R9 au 0
 have gA1_1:=R9 au 1
 have dA1:fA1.ds=[]:=by rw[au];rfl
 obtain⟨J2,H2,O2_2,O2_4⟩:∃ aa,Vj (Γ.cg Y0) wg4_0 fA1 st=.ok aa st/\aa.get 2=some (.fptr [lv,pv,.int .i64 N] 0)/\aa.get 4=some (.bool false):=⟨_,by simp only[Rw,rQ,rA,gA1_0,wg4_0]<;>rfl,gn gh,gh⟩
 obtain⟨J3,H3,O3_15⟩:∃ aa,Vj (Γ.cg Y0) wg4_1 J2 st=.ok aa stS/\aa.get 15=some (.bool false):=⟨_,by simp only[Rw,rQ,rA,wg4_1,h6,unN,Qc,Qb,Qc,Qb]<;>rfl,gh⟩
 have V3_1:=ag H3 (ag H2 gA1_1)
 have V3_2:=ag H3 O2_2
 obtain⟨s3,J4,H4,K4,O4_35,h3⟩:∃ s3 aa,Vj (Γ.cg Y0) wg4_3 J3 stS=.ok aa s3/\Kq [35,34,33,32,31,30,29,28,27,26,25,24,23,22,21,20,19,18,17,16] J3 aa/\aa.get 35=some (.bool (!(b7&&P&&A&&F)))/\((b7&&P&&A&&F)=true->s3=rk):=by
  cases P with
  | false=>cases b7<;>exact⟨_,_,by simp only[Rw,rQ,rA,V3_1,V3_2,wg4_3,c7,Jh,c8,c9,unN,Qc,Qb]<;>rfl,Kq.refl.s.s.s.s.s.s.s.s.s.s.s.s.s.s.s.s.s.s.s.s,gh,by simp⟩
  | true=>
   cases A with
   | false=>cases b7<;>exact⟨_,_,by simp only[Rw,rQ,rA,V3_1,V3_2,wg4_3,c7,Jh,c8,c9,unN,Qc,Qb]<;>rfl,Kq.refl.s.s.s.s.s.s.s.s.s.s.s.s.s.s.s.s.s.s.s.s,gh,by simp⟩
   | true=>
    obtain⟨qU,_⟩:=ry rfl rfl
    cases b7<;>cases F<;>exact⟨_,_,by simp only[Rw,rQ,rA,V3_1,V3_2,wg4_3,c7,Jh,c8,c9,qU,unN,Qc,Qb]<;>rfl,Kq.refl.s.s.s.s.s.s.s.s.s.s.s.s.s.s.s.s.s.s.s.s,gh,by simp⟩
 have W4:=K4.1.trans (ad H3 (ad H2 dA1))
 have V4_1:=K4.g 1 V3_1
 have V4_2:=K4.g 2 V3_2
 generalize ua:(!(b7&&P&&A&&F))=C5 at *
 cases C5 with
 | true=>
  obtain⟨J6,H6,O6_4⟩:∃ aa,Vj (Γ.cg Y0) wg4_4 J4 s3=.ok aa s3/\aa.get 4=some (.bool true):=⟨_,by simp only[Rw,rQ,rA,wg4_4]<;>rfl,gh⟩
  refine⟨s3,abody_of (mf:=wf4) (fr:=J6) rfl (.inl ?q6) (ad H6 W4) (by simp only[wf4,Vg,Vu,V0,O6_4,Qg,Ql])⟩
  case q6=>
   rw[<-au]
   simp only[Rw,rQ,rA,wf4,Rx,R5,R6,R7,b44,b55,b66,b77,b88,b99,bAA,bA11,H2,H3,H4,H6,O3_15,O4_35]
 | false=>
  obtain⟨⟨⟨gX,mp⟩,wg⟩,Bo⟩:((b7=true/\P=true)/\A=true)/\F=true:=by simpa using ua
  have wh:=(ry mp wg).2.1 Bo
  have Bp:=(good_of (hA.trans wg)).1
  obtain⟨ht,b9⟩:=Bn Bp gX
  obtain⟨Bq,Br⟩:=hP mp
  have xI:=hj.1.len s3
  rw[Qu] at xI
  obtain⟨J7,H7,O7_36,O7_37,O7_38⟩:∃ aa,Vj (Γ.cg Y0) wg4_5 J4 s3=.ok aa s3/\aa.get 36=some (jv)/\aa.get 37=some (ZI js.length)/\aa.get 38=some Z0:=⟨_,by simp only[Rw,rQ,rA,V4_1,wg4_5,xI]<;>rfl,gn (gn gh),gn gh,gh⟩
  obtain⟨FR,wi,hL,kL,_⟩:=out4_run (Γ:=Γ) (m:=m) cq (s:=s3) (hl.mono (T3 stS s3) fun _ h=>h) (hp.mono (T3 stS s3) fun _ h=>h) (hj.mono (T3 stS s3) fun _ h=>h) Bq (hA.trans wg) ht b9 (by omega) Br (bC.trans mp) wh jC (fr:=J7) (ag H7 V4_1) (ag H7 V4_2) O7_36 O7_37 O7_38
  have dL:=kL.1.trans (ad H7 W4)
  obtain⟨J8,H8,O8_4⟩:∃ aa,Vj (Γ.cg Y0) wg4_29 FR wi=.ok aa wi/\aa.get 4=some (.bool true):=⟨_,by simp only[Rw,rQ,rA,wg4_29]<;>rfl,gh⟩
  refine⟨wi,abody_of (mf:=wf4) (fr:=J8) rfl (.inl ?q8) (ad H8 dL) (by simp only[wf4,Vg,Vu,V0,O8_4,Qg,Ql])⟩
  case q8=>
   rw[<-au]
   simp only[Rw,rQ,rA,wf4,Rx,R5,R6,R7,b44,b55,b66,b77,b88,b99,bAA,bA11,H2,H3,H4,H7,hL,H8,O3_15,O4_35]
end Go.AM.D32
