import Derived.Test.YtejdliehekjicaaGreatAwWa20
set_option maxRecDepth 100000
set_option linter.unusedSimpArgs false
namespace Go.AM.D32
open Go Go.AM
open Nat renaming reduceEqDiff -> rQ, reduceAdd -> rA
theorem t77:tbl 77=none:=by kernel_rfl
theorem insP_fst(x:Int × Int):∀ l:List (Int × Int),(insP x l).map Prod.fst=insI x.1 (l.map Prod.fst)
 | []=>rfl
 | y::ys=>by
  unfold insP
  simp only[Q4,insI]
  cases decide (x.1<=y.1)
  ·simp only[Qq,Q4,insP_fst x ys]
  ·rfl
theorem sortP_fst:∀ l:List (Int × Int),(VY l).map Prod.fst=Wn (l.map Prod.fst)
 | []=>rfl
 | x::l=>by
  unfold VY
  rw[insP_fst,sortP_fst l];rfl
theorem sort77_run{s:St}{cid:Nat}{cl:List (Int × Int)}(h:s.get cid=some (.row (V9 cl)))(hn:(cl.map Prod.fst).Nodup)(hl:cl.length<=4000)(m:Nat)(Y:Vi):
  R (m+1) Y 77 [.own cid 0 cl.length 2 none cl.length,.func (.func 78) [] []] s=.ret (.tuple []) (s.put cid (.row (V9 (VY cl)))):=by
 have hR:R (m+1) Y 77 [.own cid 0 cl.length 2 none cl.length,.func (.func 78) [] []] s=KJ 78 [.own cid 0 cl.length 2 none cl.length,.func (.func 78) [] []] s:=by
  unfold R
  simp only[Ji,t77]
  rfl
 have hb:Nat.ble cl.length 1000000000=true:=Qo (by omega)
 have h78:Nat.beq 78 78=true:=rfl
 rw[hR]
 unfold KJ
 simp only[h78,Qi,h,SB,QD,hb,sortP_fst,sortI_asc hn,Qy]
theorem YP.pre{d r:List En}(H:YP (d++r)):YP d:=fun a x b h=>H a x (b++r) (by rw[h];simp)
theorem leaf_nodup{l:List En}(H:YP l)(q:Int):((clE l q).map Prod.fst).Nodup:=by
 induction l using JS with
 | nil=>simp[clE]
 | snoc d x ih=>
  have h1:=ih H.pre
  rw[Tl,QQ]
  by_cases hx:x.prop=q
  ·rw[Qm hx]
   refine QS.2 ⟨h1,by simp,fun a ha b hb hab=>?_⟩
   obtain rfl:b=x.leaf:=by simpa using hb
   obtain⟨c,hc,hca⟩:=Q6.1 ha
   obtain⟨z,hz,z1,z2,z3⟩:=Tg.1 hc
   exact((H d x [] rfl).2.2.2 z hz (z1.trans hx.symm)).1 (by rw[z2,hca,hab])
  ·rw[Qe hx];simpa using h1
theorem b99:Nat.beq 9 9=true:=rfl
theorem Jb:Nat.beq 11 11=true:=rfl
set_option maxHeartbeats 1000000 in
theorem sorts31_run{m:Nat}{Y:Vi}{ro:Option Nat}{fr0:Fr}{s0:St}{A lim hi b:Nat}{d:List Sp}{PL PS:List Pr}{ov:AV}(hP:PrSt A lim hi d s0 PL)(hov:JU b s0 ov PS)(hbh:hi<=b)(hPS:∀ x∈PS,x∈PL)(hdup:(PS.map fun x=>x.e.prop).Nodup)(hcl:∀ x∈PL,(x.cl.map Prod.fst).Nodup/\x.cl.length<=4000)(hm:PS.length+10 < m)(hPl:PS.length<=4000)
  (g1:fr0.get 122=some ov) (g2:fr0.get 123=some (ZI PS.length)) (g3:fr0.get 124=some Z0):
  ∃ FR S,Vx (ac m Y TE ro) m fr0 s0=.exit 10 FR S/\Kq [122,123,124,125,126,127,24,128,129,130,131,132,133,134] fr0 FR/\S.next=s0.next/\(∀ j,(∀ x∈PS,j≠x.cid)->S.get j=s0.get j)/\∀ x∈PS,S.get x.cid=some (.row (V9 (VY x.cl))):=by
 obtain⟨q,rfl⟩:∃ q,m=q+1:=⟨m - 1,by omega⟩
 have hcids:∀ x∈PL,∀ y∈PL,x.e.prop≠y.e.prop->x.cid≠y.cid/\x.id≠y.cid:=fun x hx y hy hne=>by
  have hdp:(PL.map fun x=>x.e.prop).Nodup:=by rw[hP.prs];exact Wu _
  have key:∀ l:List Pr,(l.flatMap fun x=>[x.id,x.cid]).Nodup->x∈l->y∈l->x.cid≠y.cid/\x.id≠y.cid:=by
   intro l
   induction l with
   | nil=>intro _ hx;simp at hx
   | cons z l ih=>
    intro hn hx hy
    rw[Xa,QS] at hn
    obtain⟨_,n2,n3⟩:=hn
    rcases Qx.1 hx with hx1 | hx1
    ·rcases Qx.1 hy with hy1 | hy1
     ·exact absurd (by rw[hx1,hy1]) hne
     ·rw[hx1];exact⟨n3 _ (by simp) _ (QO.2 ⟨y,hy1,by simp⟩),n3 _ (by simp) _ (QO.2 ⟨y,hy1,by simp⟩)⟩
    ·rcases Qx.1 hy with hy1 | hy1
     ·rw[hy1];exact⟨fun h=>n3 _ (by simp) _ (QO.2 ⟨x,hx1,by simp⟩) h.symm,fun h=>n3 _ (by simp) _ (QO.2 ⟨x,hx1,by simp⟩) h.symm⟩
     ·exact ih n2 hx1 hy1
  exact key PL hP.ids hx hy
 have hself:∀ x∈PL,x.id≠x.cid:=fun x hx=>by
  have key:∀ l:List Pr,(l.flatMap fun x=>[x.id,x.cid]).Nodup->x∈l->x.id≠x.cid:=by
   intro l
   induction l with
   | nil=>intro _ h;simp at h
   | cons z l ih=>
    intro hn hx
    rw[Xa,QS] at hn
    rcases Qx.1 hx with h | h
    ·rw[h];simpa using hn.1
    ·exact ih hn.2.1 h
  exact key PL hP.ids hx
 -- the slice,by its elements
 have hat:∀(j:Nat) (x:Pr) (s:St),PS[j]?=some x->(∀ j',b<=j'->s.get j'=s0.get j')->∃ p,VC 1 ov (ZI j)=some p/\Vf false 1 s p=some (.ptr x.id 0):=fun j x s hx hs=>by
  rcases hov with⟨_,h⟩|⟨oid,h1,h2,h3,h4⟩
  ·rw[h] at hx;simp at hx
  ·have hj:=(Qt.1 hx).1
   refine⟨.ptr oid j,by rw[h3];exact iaN hj none _,Vk ((hs oid h1).trans h4) ?_⟩
   rw[Q5,hx];rfl
 refine Ws (B:=ac (q+1) Y TE ro) (N:=PS.length) (Inv:=fun j f s=>Kq [122,123,124,125,126,127,24,128,129,130,131,132,133,134] fr0 f/\f.get 122=some ov/\f.get 123=some (ZI PS.length)/\f.get 124=some (ZI j)/\s.next=s0.next/\(∀ i,(∀ x∈PS.take j,i≠x.cid)->s.get i=s0.get i)/\∀ x∈PS.take j,s.get x.cid=some (.row (V9 (VY x.cl))))
  (Out:=fun r=>∃ FR S,r=.exit 10 FR S/\Kq [122,123,124,125,126,127,24,128,129,130,131,132,133,134] fr0 FR/\S.next=s0.next/\(∀ j,(∀ x∈PS,j≠x.cid)->S.get j=s0.get j)/\∀ x∈PS,S.get x.cid=some (.row (V9 (VY x.cl)))) ?_ PS.length 0 fr0 s0 (q+1) (by omega) (by omega) ⟨Kq.refl.to,g1,g2,g3,rfl,fun _ _=>rfl,fun x hx=>by simp at hx⟩
 intro j f s hj ⟨kf,f1,f2,f3,hn,ho,hdone⟩
 have hlt:=Wt j PS.length
 by_cases hjN:j < PS.length
 ·have hx:PS[j]?=some PS[j]:=Qn hjN
  generalize PS[j]=x at hx
  have hxm:=Qr hx
  have hxP:=hPS x hxm
  obtain⟨xa,xb,xc,xd,xf,xg,xu,xv⟩:=hP.one x hxP
  have hnew:∀ y∈PS.take j,x.e.prop≠y.e.prop:=fun y hy he=>by
   obtain⟨i,hi,hie⟩:=List.mem_take_iff_getElem.1 hy
   have h1:(PS.map fun x=>x.e.prop)[i]?=some y.e.prop:=by rw[Q5,Qn (by omega),hie];rfl
   have h2:(PS.map fun x=>x.e.prop)[j]?=some x.e.prop:=by rw[Q5,hx];rfl
   have hij:i < j:=by omega
   rw[Qn (by rw[Qu];omega)] at h1 h2
   injection h1 with h1
   injection h2 with h2
   have:=List.pairwise_iff_getElem.1 hdup i j (by rw[Qu];omega) (by rw[Qu];omega) hij
   exact this (by rw[h1,h2,he])
  obtain⟨pe,ie,lde⟩:=hat j x s hx (fun j' hj'=>ho j' fun y hy=>by
   have:=(hP.one y (hPS y (XE hy))).2.2.2.2.2.2.2
   omega)
  have sx:s.get x.id=some (.row x.row):=(ho x.id fun y hy=>(hcids x hxP y (hPS y (XE hy)) (hnew y hy)).2).trans xc
  have sc:s.get x.cid=some (.row (V9 x.cl)):=(ho x.cid fun y hy=>(hcids x hxP y (hPS y (XE hy)) (hnew y hy)).1).trans xd
  have lx6:Vf false 1 s (.ptr x.id 6)=some (.own x.cid 0 x.cl.length 2 none x.cl.length):=by
   obtain⟨a,b',c',hda,_⟩:=x.e.d.cells_abc
   refine Vk sx ?_
   unfold Pr.row YX;rw[hda];rfl
  have c77:((gT (q+1)).cg Y).fn 77 [.own x.cid 0 x.cl.length 2 none x.cl.length,.func (.func 78) [] []] s=.ret (.tuple []) (s.put x.cid (.row (V9 (VY x.cl)))):=sort77_run sc (hcl x hxP).1 (hcl x hxP).2 q Y
  have had:=WC (i:=j) (by omega)
  rw[Qs hjN] at hlt
  obtain⟨J1,H1,O1_125⟩:∃ fr',ar (q+1) Y wg31_32 f s=.ok fr' s/\fr'.get 125=some (.bool true):=⟨_,by simp only[amE,rQ,↓reduceIte,rA,f2,f3,wg31_32,hlt]<;>rfl,gh⟩
  have V1_122:=ag H1 f1
  have V1_123:=ag H1 f2
  have V1_124:=ag H1 f3
  obtain⟨J2,H2,O2_24⟩:∃ fr',ar (q+1) Y wg31_33 J1 s=.ok fr' s/\fr'.get 24=some (.ptr x.id 0):=⟨_,by simp only[amE,rQ,↓reduceIte,rA,V1_122,V1_124,wg31_33,ie,lde]<;>rfl,gh⟩
  have V2_122:=ag H2 V1_122
  have V2_123:=ag H2 V1_123
  have V2_124:=ag H2 V1_124
  obtain⟨J3,H3⟩:∃ fr',ar (q+1) Y wg31_34 J2 s=.ok fr' (s.put x.cid (.row (V9 (VY x.cl)))):=⟨_,by simp only[amE,rQ,↓reduceIte,rA,O2_24,wg31_34,Yq,faP,lx6,c77]<;>rfl⟩
  have V3_122:=ag H3 V2_122
  have V3_123:=ag H3 V2_123
  have V3_124:=ag H3 V2_124
  obtain⟨J4,H4,O4_124⟩:∃ fr',ar (q+1) Y wg31_35 J3 (s.put x.cid (.row (V9 (VY x.cl))))=.ok fr' (s.put x.cid (.row (V9 (VY x.cl))))/\fr'.get 124=some (ZI ((j+1))):=⟨_,by simp only[amE,rQ,↓reduceIte,rA,V3_124,wg31_35,had]<;>rfl,gh⟩
  have V4_122:=ag H4 V3_122
  have V4_123:=ag H4 V3_123
  have kk:=(((((kf.t (aq H1)).t (aq H2)).t (aq H3)).t (aq H4))).to (E:=[122,123,124,125,126,127,24,128,129,130,131,132,133,134])
  have htk:PS.take (j+1)=PS.take j++[x]:=by rw[QT,hx];rfl
  have hI4:ac (q+1) Y TE ro f s=.norm J4 (s.put x.cid (.row (V9 (VY x.cl)))):=by
   simp only[amE,rQ,↓reduceIte,rA,TE,b00,b11,b22,b33,bAA,Jb,H1,H2,H3,H4,O1_125]
  rw[hI4]
  exact⟨hjN,kk,V4_122,V4_123,O4_124,hn,fun i hi=>by
    rw[htk] at hi
    rw[St.get_put,Qe (hi x (by simp))]
    exact ho i fun y hy=>hi y (XC _ hy),fun y hy=>by
    rw[htk] at hy
    rcases QV.1 hy with hy | hy
    ·rw[St.get_put,Qe (fun h=>(hcids x hxP y (hPS y (XE hy)) (hnew y hy)).1 h.symm)];exact hdone y hy
    ·rw[Xd.1 hy,St.get_put,Qm rfl]⟩
 ·rw[Qp hjN] at hlt
  have hjl:j=PS.length:=by omega
  rw[hjl,QH] at ho hdone
  obtain⟨J5,H5,O5_125⟩:∃ fr',ar (q+1) Y wg31_32 f s=.ok fr' s/\fr'.get 125=some (.bool false):=⟨_,by simp only[amE,rQ,↓reduceIte,rA,f2,f3,wg31_32,hlt]<;>rfl,gh⟩
  have kk:=((kf.t (aq H5))).to (E:=[122,123,124,125,126,127,24,128,129,130,131,132,133,134])
  have hI5:ac (q+1) Y TE ro f s=.exit 10 J5 s:=by
   simp only[amE,rQ,↓reduceIte,rA,TE,b00,b11,b22,b33,bAA,Jb,H5,O5_125]
  rw[hI5]
  exact⟨_,_,rfl,kk,hn,ho,hdone⟩
set_option maxHeartbeats 1000000 in
theorem circle31_run{F:Nat->Prop}{st:St}{jv:AV}{js:List (AV × List En)}(hj:YQ F st jv js)(m:Nat)(Y:Vi)(hn:fzJ js+5000 < m){fr:Fr}{s:St}{b x14 c lid:Nat}{lv:AV}{left:List Int}(hF:Vs F st s)
  (hb:s.get b=some (.row [.nilsl])) (hb1:s.get (b+1)=some (.row [Z0,Z0,Z0])) (h14:s.get x14=some (.row [lv])) (hc:s.get c=some (.row [jv])) (hlv:LfS s lv lid left) (hll:left.length<=4000) (hl:left≠[]) (hlm:∀ q∈left,q∈V6 (ens (Vq js)))
  (hFl:∀ i,F i->i < s.next) (lt:b+1 < s.next/\x14 < s.next/\c < s.next/\lid < s.next)
  (g4:fr.get 4=some (.ptr b 0)) (g5:fr.get 5=some (.ptr (b+1) 0)) (g14:fr.get 14=some (.ptr x14 0)) (g113:fr.get 113=some (.func (.func 107) [] [.ptr c 0])):
  ∃ s' p i,ac (m+1) Y wr31_0 none fr s=.ret { fr with ds:=.coll::fr.ds } s'/\s'.get b=some (.row [.nilsl])/\s'.get (b+1)=some (.row [ZI 4,ZI p,ZI i])/\s.next<=s'.next/\∀ j,j < s.next->j≠b->j≠b+1->s'.get j=s.get j:=by
 obtain⟨l1,l2,l3,l4⟩:=lt
 obtain⟨s',hh⟩:=SI (ps:=[114,115]) (asg:=wa31_0) (body:=wy31_0) (fr:=fr) (s:=s) hj m Y (by omega) (x:=.t 113) (c:=c) (by show (fr.get 113).getD .undef=_;rw[g113];rfl) rfl (Inv:=fun d s1=>Vd s s1/\∀ z∈d,z.2.2.prop∉left)
  (Fin:=fun s1=>∃ p i:Nat,s1.get b=some (.row [.nilsl])/\s1.get (b+1)=some (.row [ZI 4,ZI p,ZI i])/\s.next<=s1.next/\∀ j,j < s.next->j≠b->j≠b+1->s1.get j=s.get j)
  (fun d s1 h=>⟨hF.trans fun i hi=>h.1.2 i (hFl i hi),by rw[h.1.2 c l3];exact hc⟩) (fun d s1 s2 h k=>⟨h.1.trans k,h.2⟩)
  (fun d s1 l h=>⟨h.1.put _ _ (Qw _),h.2⟩) (fun s1 l h=>by
   obtain⟨p,i,y1,y2,y3,y4⟩:=h
   exact⟨p,i,by rw[St.get_put,Qe (by omega)];exact y1,by rw[St.get_put,Qe (by omega)];exact y2,y3,fun j h1 h2 h3=>by rw[St.get_put,Qe (by omega)];exact y4 j h1 h2 h3⟩) ⟨Vd.new s _,fun z hz=>by simp at hz⟩ (fun p q i e s1 hp hi ⟨k0,hno⟩ hL0 hL1=>by
   have c9:=e.cells9
   obtain⟨fB,hfB⟩:∃ fB,fB=VL [114,115] [atV p i,.agg e.cells] { fr with ds:=[] }:=⟨_,rfl⟩
   rw[<-hfB]
   have gB114:fB.get 114=some (atV p i):=by rw[hfB];simp only[VL,Fr.get_set,rQ,↓reduceIte]
   have gB115:fB.get 115=some (.agg e.cells):=by rw[hfB];simp only[VL,Fr.get_set,rQ,↓reduceIte]
   have gB4:fB.get 4=some (.ptr b 0):=by rw[hfB];simp only[VL,Fr.get_set,rQ,↓reduceIte];exact g4
   have gB5:fB.get 5=some (.ptr (b+1) 0):=by rw[hfB];simp only[VL,Fr.get_set,rQ,↓reduceIte];exact g5
   have gB14:fB.get 14=some (.ptr x14 0):=by rw[hfB];simp only[VL,Fr.get_set,rQ,↓reduceIte];exact g14
   have sto1:Vt 2 (s1.new (.row [Z0,Z0])) (.ptr s1.next 0) (atV p i)=some ((s1.new (.row [Z0,Z0])).put s1.next (.row [ZI p,ZI i])):=VQ rfl rfl rfl
   have k1a:Vd s1 ((s1.new (.row [Z0,Z0])).put s1.next (.row [ZI p,ZI i])):=(Vd.refl s1).newput _ _
   have g1a:((s1.new (.row [Z0,Z0])).put s1.next (.row [ZI p,ZI i])).get s1.next=some (.row [ZI p,ZI i]):=by rw[St.get_put,Qm rfl]
   have n1a:((s1.new (.row [Z0,Z0])).put s1.next (.row [ZI p,ZI i])).next=s1.next+1:=rfl
   generalize hs1a:(s1.new (.row [Z0,Z0])).put s1.next (.row [ZI p,ZI i])=s1a at sto1 k1a g1a n1a
   have sto2:Vt 9 (s1a.new (.row ze9)) (.ptr s1a.next 0) (.agg e.cells)=some ((s1a.new (.row ze9)).put s1a.next (.row e.cells)):=VQ rfl c9.1 c9.2
   have k2:Vd s1a ((s1a.new (.row ze9)).put s1a.next (.row e.cells)):=(Vd.refl s1a).newput _ _
   have g2b:((s1a.new (.row ze9)).put s1a.next (.row e.cells)).get s1a.next=some (.row e.cells):=by rw[St.get_put,Qm rfl]
   have n2b:((s1a.new (.row ze9)).put s1a.next (.row e.cells)).next=s1a.next+1:=rfl
   unfold ze9 at sto2 k2 g2b n2b
   generalize hs2:(s1a.new (.row _)).put s1a.next (.row e.cells)=s2 at sto2 k2 g2b n2b
   rw[n1a] at sto2 g2b n2b
   obtain⟨J6,H6,O6_21⟩:∃ fr',ar (m+1) Y wg31_27 fB s1=.ok fr' s1a/\fr'.get 21=some (.ptr s1.next 0):=⟨_,by simp only[amE,rQ,↓reduceIte,rA,gB114,wg31_27,sto1]<;>rfl,gh⟩
   have V6_4:=ag H6 gB4
   have V6_5:=ag H6 gB5
   have V6_14:=ag H6 gB14
   have V6_115:=ag H6 gB115
   obtain⟨J7,H7,O7_22⟩:∃ fr',ar (m+1) Y wg31_28 J6 s1a=.ok fr' s2/\fr'.get 22=some (.ptr (s1.next+1) 0):=⟨_,by simp only[amE,rQ,↓reduceIte,rA,V6_115,wg31_28,sto2,n1a]<;>rfl,gh⟩
   have V7_4:=ag H7 V6_4
   have V7_5:=ag H7 V6_5
   have V7_14:=ag H7 V6_14
   have V7_21:=ag H7 O6_21
   have hI1:ac (m+1) Y wa31_0 (some s.next) fB s1=.norm J7 s2:=by
    simp only[amE,rQ,↓reduceIte,rA,wa31_0,b00,b11,b22,b33,H6,H7]
   have k12:=k1a.trans k2
   have L1:s2.get s.next=some (.loop .ready):=by rw[k12.2 _ hL1];exact hL0
   refine⟨_,_,hI1,k12,?_⟩
   have g3:∀ k,k≠s.next->(s2.put s.next (.loop .busy)).get k=s2.get k:=fun k hk=>by rw[St.get_put,Qe hk]
   have g3L:(s2.put s.next (.loop .busy)).get s.next=some (.loop .busy):=by rw[St.get_put,Qm rfl]
   have n3:(s2.put s.next (.loop .busy)).next=s1.next+2:=by show s2.next=_;omega
   have k3:Vd s (s2.put s.next (.loop .busy)):=(k0.trans k12).put _ _ (Qw _)
   generalize s2.put s.next (.loop .busy)=s3 at g3 g3L n3 k3
   have a8:s3.get s1.next=some (.row [ZI p,ZI i]):=by rw[g3 _ (by omega),k2.2 _ (by omega)];exact g1a
   have a9:s3.get (s1.next+1)=some (.row e.cells):=by rw[g3 _ (by omega)];exact g2b
   have l8:=ld2r a8
   have e2:Vf false 1 s3 (.ptr (s1.next+1) 2)=some (.int .i64 e.prop):=Vk a9 rfl
   have l14:Vf false 1 s3 (.ptr x14 0)=some lv:=Vk ((k3.2 x14 l2).trans h14) rfl
   obtain⟨q',hq'⟩:∃ q',m+1=q'+2:=⟨m - 1,by omega⟩
   have c75:((gT (m+1)).cg Y).fn 75 [lv,.int .i64 e.prop] s3=.ret (.bool (left.contains e.prop)) s3:=by
    have:=contains75_run ((hlv.keep (k3.2 lid l4)).sl (by omega)) e.prop q' Y (by omega)
    rw[<-hq'] at this;exact this
   have hmem:left.contains e.prop=true ↔ e.prop∈left:=by simp
   generalize left.contains e.prop=B at *
   cases B with
   | true=>
    refine .inr ?_
    obtain⟨sD,c76,k76⟩:=bad_run (.ofNat 4) (.ofNat p) (.ofNat i) m Y s3
    have c76:((gT (m+1)).cg Y).fn 76 [ZI 4,.agg [ZI p,ZI i]] s3=.ret (.agg [ZI 4,ZI p,ZI i]) sD:=c76
    have st1:Vt 1 sD (.ptr b 0) .nilsl=some (sD.put b (.row [.nilsl])):=V4 (((k76.2 _ (by omega)).trans ((k3.2 b (by omega)).trans hb))) rfl rfl (by simp) rfl
    have gD:(sD.put b (.row [.nilsl])).get (b+1)=some (.row [Z0,Z0,Z0]):=by rw[St.get_put,Qe (by omega),k76.2 _ (by omega),k3.2 _ l1];exact hb1
    have st2:Vt 3 (sD.put b (.row [.nilsl])) (.ptr (b+1) 0) (.agg [ZI 4,ZI p,ZI i])=some ((sD.put b (.row [.nilsl])).put (b+1) (.row [ZI 4,ZI p,ZI i])):=V4 gD rfl rfl (by simp) rfl
    obtain⟨J8,H8,O8_119⟩:∃ fr',ar (m+1) Y wg31_29 J7 s3=.ok fr' s3/\fr'.get 119=some (.bool true):=⟨_,by simp only[amE,rQ,↓reduceIte,rA,V7_14,O7_22,wg31_29,faP,l14,e2,c75]<;>rfl,gh⟩
    have V8_4:=ag H8 V7_4
    have V8_5:=ag H8 V7_5
    have V8_21:=ag H8 V7_21
    obtain⟨J9,H9⟩:∃ fr',ar (m+1) Y wg31_30 J8 s3=.ok fr' ((sD.put b (.row [.nilsl])).put (b+1) (.row [ZI 4,ZI p,ZI i])):=⟨_,by simp only[amE,rQ,↓reduceIte,rA,V8_4,V8_5,V8_21,wg31_30,l8,c76,st1,st2]<;>rfl⟩
    have hI2:ac (m+1) Y wy31_0 (some s.next) J7 s3=.ret J9 ((sD.put b (.row [.nilsl])).put (b+1) (.row [ZI 4,ZI p,ZI i])):=by
     simp only[amE,rQ,↓reduceIte,rA,wy31_0,b00,b11,b22,b33,H8,H9,O8_119]
    have n76:=k76.1
    exact⟨_,_,hI2,by rw[St.get_put,Qe (by omega),St.get_put,Qe (by omega),k76.2 _ (by omega)];exact g3L,p,i,by rw[St.get_put,Qe (by omega),St.get_put,Qm rfl],by rw[St.get_put,Qm rfl],by show s.next<=sD.next;omega,fun j h1 h2 h3=>by rw[St.get_put,Qe h3,St.get_put,Qe h2,k76.2 _ (by omega)];exact k3.2 j h1⟩
   | false=>
    refine .inl ?_
    have hne:e.prop∉left:=fun h=>by have:=hmem.2 h;cases this
    obtain⟨J10,H10,O10_119⟩:∃ fr',ar (m+1) Y wg31_29 J7 s3=.ok fr' s3/\fr'.get 119=some (.bool false):=⟨_,by simp only[amE,rQ,↓reduceIte,rA,V7_14,O7_22,wg31_29,faP,l14,e2,c75]<;>rfl,gh⟩
    have hI2:ac (m+1) Y wy31_0 (some s.next) J7 s3=.norm J10 s3:=by
     simp only[amE,rQ,↓reduceIte,rA,wy31_0,b00,b11,b22,b33,b99,H10,O10_119]
    exact⟨_,_,hI2,g3L,by omega,k3,fun z hz=>by
     rcases QV.1 hz with hz | hz
     ·exact hno z hz
     ·rw[Xd.1 hz];exact hne⟩)
 rcases hh with⟨_,⟨_,hno⟩,_⟩|⟨hR,p,i,y1,y2,y3,y4⟩
 ·exfalso
  obtain⟨q,hq⟩:=List.exists_mem_of_ne_nil left hl
  obtain⟨e,he,heq⟩:=(YK _ _).1 (hlm q hq)
  obtain⟨z,hz,rfl⟩:=Q6.1 he
  exact hno z hz (heq ▸ hq)
 ·exact⟨s',p,i,hR,y1,y2,y3,y4⟩
open Nat renaming reduceEqDiff -> rQ, reduceAdd -> rA
theorem intBeq_self(i:Int):TO i i=true:=by cases i<;>exact QD _
theorem avBeq3(a b c:Int):V8 (.agg [.int .i64 a,.int .i64 b,.int .i64 c]) (.agg [.int .i64 a,.int .i64 b,.int .i64 c])=true:=by
 simp only[V8,VG,intBeq_self];rfl
theorem draw31_3{m:Nat}{Y:Vi}{fr:Fr}{s:St}{b x7:Nat}{x:AV}{a p i:Int}(g4:fr.get 4=some (.ptr b 0))(g5:fr.get 5=some (.ptr (b+1) 0))(g7:fr.get 7=some (.ptr x7 0))(hb:s.get b=some (.row [x]))(hb1:s.get (b+1)=some (.row [Z0,Z0,Z0]))(h7:s.get x7=some (.row [.int .i64 a,.int .i64 p,.int .i64 i]))(n1:x7≠b):
  ∃ fr',VK ((gT m).cg Y) wg31_3 [(0,some 1),(0,some 2)] fr s=.ok fr' ((s.put b (.row [.nilsl])).put (b+1) (.row [.int .i64 a,.int .i64 p,.int .i64 i]))/\Kq [34] fr fr':=by
 have l7:Vf true 3 s (.ptr x7 0)=some (.agg [.int .i64 a,.int .i64 p,.int .i64 i]):=Wk h7 rfl
 have l7':Vf true 3 (s.put b (.row [.nilsl])) (.ptr x7 0)=some (.agg [.int .i64 a,.int .i64 p,.int .i64 i]):=Wk (by rw[St.get_put,Qe n1];exact h7) rfl
 have t1:Vt 1 s (.ptr b 0) .nilsl=some (s.put b (.row [.nilsl])):=V4 hb rfl rfl (by simp) rfl
 have t2:Vt 3 (s.put b (.row [.nilsl])) (.ptr (b+1) 0) (.agg [.int .i64 a,.int .i64 p,.int .i64 i])=some ((s.put b (.row [.nilsl])).put (b+1) (.row [.int .i64 a,.int .i64 p,.int .i64 i])):=V4 (by rw[St.get_put,Qe (by omega)];exact hb1) rfl rfl (by simp) rfl
 have hl:lens ((gT m).cg Y) wg31_3 fr s=[]:=rfl
 refine⟨?f,?h1,?h2⟩
 case h1=>
  refine adraw_ok2 (its:=?i) hl ?x ?y ?z
  case x=>
   have hp:VT wg31_3 [] s=s:=rfl
   rw[hp]
   simp only[amE,rQ,↓reduceIte,rA,wg31_3,WH,WU,DR.cons,V5,VJ,g4,g5,g7,l7,t1,t2]
   rfl
  case y=>rfl
  case z=>
   simp only[QN,QW,Qy,Qd]
   refine⟨Wo (i:=0) (k:=1) rfl rfl rfl rfl ?k0,Wo (i:=0) (k:=2) rfl rfl rfl rfl ?k1⟩
   case k0=>
    right;refine⟨?s2,?l2,avBeq3 _ _ _⟩
    case l2=>simp only[amE,rQ,↓reduceIte,rA,V5,g7,l7];try rfl
   case k1=>
    right;refine⟨?s3,?l3,avBeq3 _ _ _⟩
    case l3=>simp only[amE,rQ,↓reduceIte,rA,V5,g7,l7'];try rfl
 case h2=>exact Kq.refl.s
theorem Kq.of{D:List Nat}{a b:Fr}(h:∀ j,j∉D->b.get j=a.get j)(d:b.ds=a.ds):Kq D a b:=⟨d,h⟩
def Yb(l:List Sp):List Int × List Int:=Y4 (ens l) (Wn (V6 (ens l))).length (Wn (V6 (ens l))) []
def okM(k:Nat)(ps:List Int)(l:List Sp):Prop:=KC k ps l/\(Yb l).1=[]
def PrM(sp:List Sp)(lo:Nat)(s:St)(x:Pr):Prop:=sp.find? (fun z=>z.2.2.prop==x.e.prop)=some (x.p,x.i,x.e)/\x.cl=clE (ens sp) x.e.prop/\s.get x.id=some (.row x.row)/\s.get x.cid=some (.row (V9 (VY x.cl)))/\lo<=x.id/\lo<=x.cid/\x.id < s.next/\x.cid < s.next
set_option maxHeartbeats 2000000 in
theorem merge_run{F:Nat->Prop}{st:St}{lv pv jv:AV}{ls:List (List AV)}{ps:List Int}{N:Int}{js:List (AV × List En)}(hl:SlN 1 F st lv ls)(hp:SlI F st pv ps)(hj:YQ F st jv js)(hF:∀ i,F i->i < st.next)(hP:ps.length=ls.length)(hA:JK ls.length N js=true)(m:Nat)(Y:Vi)(hn:fzJ js+40000 < m)(hk24:ls.length<=24):
  ∃ st' v r,R (m+3) Y 31 [.agg [lv,pv,.int .i64 N],jv] st=.ret (.tuple [v,.agg r]) st'/\Vd st st' ∧
   ((okM ls.length ps (Vq js)/\r=[Z0,Z0,Z0]/\∃ PS:List Pr,PS.map (fun x=>x.e.prop)=(Yb (Vq js)).2/\JU st.next st' v PS/\∀ x∈PS,PrM (Vq js) st.next st' x) ∨
    (¬ okM ls.length ps (Vq js)/\v=.nilsl/\∃ kd p i:Nat,kd≠0/\r=[ZI kd,ZI p,ZI i])):=by
 have hone:AV.one jv=true:=hj.1.one
 have hA':=hA
 unfold JK at hA'
 simp only[Qd,QF,QB] at hA'
 obtain⟨⟨hA1,hA2⟩,hA3⟩:=hA'
 have hens:(ens (Vq js)).length<=4000:=by rw[spots_len];exact hA2
 have hgood:∀ z∈Vq js,En.good ls.length z.2.2=true/\z.2.2.ok:=fun z hz=>by
  unfold Vq at hz
  obtain⟨y,hy,hzr⟩:=QO.1 hz
  have hy1:y.1∈js:=by
   have hy':=XF hy
   rw[hy'.2.2];exact Xu _
  unfold row at hzr
  obtain⟨u,hu,rfl⟩:=Q6.1 hzr
  have hu1:u.1∈y.1.2:=by
   have hu':=XF hu
   rw[hu'.2.2];exact Xu _
  exact⟨hA3 y.1 hy1 u.1 hu1,(hj.2 y.1 hy1).2 u.1 hu1⟩
 obtain⟨sA,hsA⟩:∃ sA,sA=(st.new (.row [.nilsl])).new (.row [Z0,Z0,Z0]):=⟨_,rfl⟩
 have kA:Vd st sA:=by rw[hsA];exact(Vd.new st _).trans (Vd.new _ _)
 have nA:sA.next=st.next+2:=by rw[hsA];rfl
 have A0:sA.get st.next=some (.row [.nilsl]):=by rw[hsA];simp[St.get_new]
 have A1:sA.get (st.next+1)=some (.row [Z0,Z0,Z0]):=by rw[hsA];simp[St.get_new]
 have SA:=Vs.of kA hF
 have hFA:∀ i,F i->i < sA.next:=fun i hi=>by have:=hF i hi;omega
 obtain⟨sG,v,r,c69,kG,hG⟩:=gathered_run (hl.mono SA fun _ h=>h) (hp.mono SA fun _ h=>h) (hj.mono SA fun _ h=>h) hFA hP hA m Y (by omega)
 have c69:((gT (m+2)).cg Y).fn 69 [.agg [lv,pv,.int .i64 N],jv] sA=.ret (.tuple [v,.agg r]) sG:=c69
 have nG:=kG.1
 obtain⟨ra,rb,rc,hr⟩:∃ ra rb rc:Int,r=[.int .i64 ra,.int .i64 rb,.int .i64 rc]:=by
  rcases hG with⟨_,_,h,_⟩|⟨_,_,_,_,_,_,_,h⟩<;>exact⟨_,_,_,h⟩
 have hv:v.cells=[v]/\AV.one v=true:=by
  rcases hG with⟨_,h,_,_⟩|⟨h,_⟩<;>rw[h]<;>exact⟨rfl,rfl⟩
 rw[hr] at c69
 -- what was gathered,in variables
 have st1:Vt 1 ((sG.new (.row [.nilmap])).new (.row [Z0,Z0,Z0])) (.ptr sG.next 0) v=some (((sG.new (.row [.nilmap])).new (.row [Z0,Z0,Z0])).put sG.next (.row [v])):=V4 (x:=[.nilmap]) (by simp[St.get_new]) (by rw[hv.1];rfl) (by rw[hv.1];rfl) (by simp) (by rw[hv.1];simp[hv.2])
 have st2:Vt 3 (((sG.new (.row [.nilmap])).new (.row [Z0,Z0,Z0])).put sG.next (.row [v])) (.ptr (sG.new (.row [.nilmap])).next 0) (.agg [.int .i64 ra,.int .i64 rb,.int .i64 rc])=some ((((sG.new (.row [.nilmap])).new (.row [Z0,Z0,Z0])).put sG.next (.row [v])).put (sG.new (.row [.nilmap])).next (.row [.int .i64 ra,.int .i64 rb,.int .i64 rc])):=V4 (x:=[Z0,Z0,Z0]) (by simp[St.get_new,St.get_put]) rfl rfl (by simp) rfl
 obtain⟨s1,hs1⟩:∃ s1,s1=(((sG.new (.row [.nilmap])).new (.row [Z0,Z0,Z0])).put sG.next (.row [v])).put (sG.new (.row [.nilmap])).next (.row [.int .i64 ra,.int .i64 rb,.int .i64 rc]):=⟨_,rfl⟩
 rw[<-hs1] at st2
 have n1:s1.next=sG.next+2:=by rw[hs1];rfl
 have k1:Vd sG s1:=by rw[hs1];exact(((Vd.new sG _).trans (Vd.new _ _)).put _ _ (Qw _)).put _ _ (by simp)
 have B6:s1.get sG.next=some (.row [v]):=by rw[hs1];simp[St.get_put,St.get_new]
 have B7:s1.get (sG.next+1)=some (.row [.int .i64 ra,.int .i64 rb,.int .i64 rc]):=by rw[hs1];simp[St.get_put,St.get_new]
 have B0:s1.get st.next=some (.row [.nilsl]):=by rw[k1.2 _ (by omega),kG.2 _ (by omega)];exact A0
 have B1:s1.get (st.next+1)=some (.row [Z0,Z0,Z0]):=by rw[k1.2 _ (by omega),kG.2 _ (by omega)];exact A1
 have K1:Vd st s1:=(kA.trans kG).trans k1
 have l70:Vf false 1 s1 (.ptr (sG.next+1) 0)=some (.int .i64 ra):=Vk B7 rfl
 have hne:=Yk ra (.ofNat 0)
 obtain⟨fA28,hA28⟩:∃ fA,fA=Vo 0 [.agg [lv,pv,.int .i64 N],jv] Fr.nil:=⟨_,rfl⟩
 have gA28_0:=gAt hA28 0
 have gA28_1:=gAt hA28 1
 have dA28:fA28.ds=[]:=by rw[hA28];rfl
 have un0:∀ j,2<=j->fA28.get j=none:=fun j hj=>by rw[hA28];simp only[Vo,Fr.get_set];rw[Qe (by omega),Qe (by omega),Fr.get_nil]
 obtain⟨J29,hR29,kR29,O29_2,O29_4,O29_5⟩:∃ fr',ar (m+2) Y wg31_0 fA28 st=.ok fr' sA/\Kq [5,4,2] fA28 fr'/\fr'.get 2=some (.fptr [lv,pv,.int .i64 N] 0)/\fr'.get 4=some (.ptr st.next 0)/\fr'.get 5=some (.ptr (st.next+1) 0):=⟨_,by simp only[amE,rQ,↓reduceIte,rA,gA28_0,wg31_0,hsA]<;>rfl,Kq.refl.s.s.s,gn (gn gh),gn gh,gh⟩
 have V29_1:=kR29.g 1 gA28_1
 have W29:=kR29.1.trans dA28
 obtain⟨J30,hR30,O30_6,O30_7⟩:∃ fr',ar (m+2) Y wg31_1 J29 sA=.ok fr' s1/\fr'.get 6=some (.ptr sG.next 0)/\fr'.get 7=some (.ptr (sG.next+1) 0):=⟨_,by simp only[amE,rQ,↓reduceIte,rA,V29_1,O29_2,wg31_1,Jh,c69,extract0,extract1,st1,st2]<;>rfl,gn gh,gh⟩
 have V30_1:=ag hR30 V29_1
 have V30_2:=ag hR30 O29_2
 have V30_4:=ag hR30 O29_4
 have V30_5:=ag hR30 O29_5
 have W30:=ad hR30 W29
 obtain⟨J31,hR31,O31_33⟩:∃ fr',ar (m+2) Y wg31_2 J30 s1=.ok fr' s1/\fr'.get 33=some (.bool (ra != .ofNat 0)):=⟨_,by simp only[amE,rQ,↓reduceIte,rA,O30_7,wg31_2,faP,l70,hne]<;>rfl,gh⟩
 have V31_1:=ag hR31 V30_1
 have V31_2:=ag hR31 V30_2
 have V31_4:=ag hR31 V30_4
 have V31_5:=ag hR31 V30_5
 have V31_6:=ag hR31 O30_6
 have V31_7:=ag hR31 O30_7
 have W31:=ad hR31 W30
 have un1:∀ j∈[45,46,47,48,11,49,50,51,52,53,54,55,56,57,58,13,59,60,61,62,63,64,65,66,55],J31.get j=none:=fun j hj=>by
  rw[(((kR29.t (aq hR30)).t (aq hR31))).2 j (by
   simp only[Qx,QI,Xh] at hj
   rcases hj with rfl | rfl | rfl | rfl | rfl | rfl | rfl | rfl | rfl | rfl | rfl | rfl | rfl | rfl | rfl | rfl | rfl | rfl | rfl | rfl | rfl | rfl | rfl | rfl | rfl<;>decide)]
  exact un0 j (by simp only[Qx,QI,Xh] at hj;omega)
 rcases hG with⟨hfit,rfl,hr0,PL,mm,hg⟩|⟨rfl,d,x,rr,hsp,hfd,hkd,hr0⟩
 case inr=>
  rw[hr0] at hr
  injection hr with hr1 hr2
  injection hr1 with _ hr1
  injection hr2 with hr2 hr3
  injection hr2 with _ hr2
  injection hr3 with hr3 _
  injection hr3 with _ hr3
  subst hr1;subst hr2;subst hr3
  have hb33:(Int.ofNat (Wp ls.length ps d x) != Int.ofNat 0)=true:=by simpa using hkd
  rw[hb33] at O31_33
  obtain⟨fD,hD,kD⟩:=draw31_3 (m:=m+2) (Y:=Y) (fr:=J31) (s:=s1) (b:=st.next) (x7:=sG.next+1) V31_4 V31_5 V31_7 B0 B1 B7 (by omega)
  have dD:=kD.1.trans W31
  have hnot:¬ okM ls.length ps (Vq js):=fun h=>hkd (h.1 d x rr hsp)
  have r1:Vf false 1 ((s1.put st.next (.row [.nilsl])).put (st.next+1) (.row [ZI ((Wp ls.length ps d x)),ZI x.1,ZI x.2.1])) (.ptr st.next 0)=some .nilsl:=Vk (x:=[.nilsl]) (by rw[St.get_put,Qe (by omega),St.get_put,Qm rfl]) rfl
  have r2:Vf true 3 ((s1.put st.next (.row [.nilsl])).put (st.next+1) (.row [ZI ((Wp ls.length ps d x)),ZI x.1,ZI x.2.1])) (.ptr (st.next+1) 0)=some (.agg [ZI ((Wp ls.length ps d x)),ZI x.1,ZI x.2.1]):=Wk (by rw[St.get_put,Qm rfl]) rfl
  have kk:Vd st ((s1.put st.next (.row [.nilsl])).put (st.next+1) (.row [ZI ((Wp ls.length ps d x)),ZI x.1,ZI x.2.1])):=(K1.put _ _ (Qw _)).put _ _ (by omega)
  have D4:=kD.g 4 V31_4
  have D5:=kD.g 5 V31_5
  refine⟨_,.nilsl,[ZI ((Wp ls.length ps d x)),ZI x.1,ZI x.2.1],Ve (mf:=wf31) (fr:=fD) t31 rfl (.inl ?q32) dD (by simp only[wf31,amE,D4,D5,r1,r2]),kk,.inr ⟨hnot,rfl,_,_,_,hkd,rfl⟩⟩
  case q32=>
   rw[<-hA28]
   simp only[amE,rQ,↓reduceIte,rA,wf31,b00,b11,b22,b33,hR29,hR30,hR31,hD,O31_33]
 rw[hr0] at hr
 injection hr with hr1 hr2
 injection hr1 with _ hr1
 injection hr2 with hr2 hr3
 injection hr2 with _ hr2
 injection hr3 with hr3 _
 injection hr3 with _ hr3
 subst hr1;subst hr2;subst hr3
 rw[show (Int.ofNat 0 != Int.ofNat 0)=false from rfl] at O31_33
 have hll:=hl.len
 obtain⟨fD,s2,hD,kD1,kD2,D8,D9,n2,C0,C1,C2,C3,o2⟩:=draw31_4 (m:=m+2) (Y:=Y) (fr:=J31) (st:=s1) (pv:=pv) (N:=N) hk24 hll V31_2
 have kD:Kq [35,36,37,38,39,40,41,42,8,9] J31 fD:=Kq.of kD1 kD2
 have dD:=kD.1.trans W31
 have D1:=kD.g 1 V31_1
 have D2:=kD.g 2 V31_2
 have D4:=kD.g 4 V31_4
 have D5:=kD.g 5 V31_5
 have D6:=kD.g 6 V31_6
 have D7:=kD.g 7 V31_7
 have un2:∀ j∈[45,46,47,48,11,49,50,51,52,53,54,55,56,57,58,13,59,60,61,62,63,64,65,66,55],fD.get j=none:=fun j hj=>by
  rw[kD.2 j (by
   simp only[Qx,QI,Xh] at hj
   rcases hj with rfl | rfl | rfl | rfl | rfl | rfl | rfl | rfl | rfl | rfl | rfl | rfl | rfl | rfl | rfl | rfl | rfl | rfl | rfl | rfl | rfl | rfl | rfl | rfl | rfl<;>decide)]
  exact un1 j hj
 -- the range over the map
 have K2:Vd st s2:=⟨by omega,fun j hj=>(o2 j (by have:=K1.1;omega)).trans (K1.2 j hj)⟩
 have gA2:s2.get (sA.next+2)=some (.map (esP PL)):=by rw[o2 _ (by have:=hg.lim;omega),k1.2 _ (by have:=hg.lim;omega)];exact hg.all
 have l62:Vf false 1 s2 (.ptr sG.next 0)=some (.map (sA.next+2)):=Vk ((o2 _ (by omega)).trans B6) rfl
 have rg:rngA s2 (.map (sA.next+2))=some (.ptr s2.next 0,(s2.put (sA.next+2) (.fmap (esP PL))).new (.iter (sA.next+2) [])):=by unfold rngA;simp only[gA2]
 obtain⟨s3,hs3⟩:∃ s3,s3=(s2.put (sA.next+2) (.fmap (esP PL))).new (.iter (sA.next+2) []):=⟨_,rfl⟩
 rw[<-hs3] at rg
 have n3:s3.next=s2.next+1:=by rw[hs3];rfl
 have o3:∀ j,j < s2.next->j≠sA.next+2->s3.get j=s2.get j:=fun j h1 h2=>by rw[hs3,St.get_new,Qe (by show j≠s2.next;omega),St.get_put,Qe h2]
 have I3:s3.get s2.next=some (.iter (sA.next+2) []):=by rw[hs3,St.get_new];exact Qm rfl
 obtain⟨gl1,gl2,gl3⟩:=hg.lim
 have hP3:PrSt (sA.next+2) (sA.next+8) sG.next (Vq js) s3 PL:=by
  refine⟨by rw[hs3,St.get_new,Qe (by show _≠s2.next;omega),St.get_put,Qm rfl],hg.prs,fun x hx=>?_,hg.ids,by omega⟩
  obtain⟨xa,xb,xc,xd,xf,xg,xu,xv⟩:=hg.one x hx
  exact⟨xa,xb,by rw[o3 _ (by omega) (by omega),o2 _ (by omega),k1.2 _ xu];exact xc,by rw[o3 _ (by omega) (by omega),o2 _ (by omega),k1.2 _ xv];exact xd,xf,xg,xu,xv⟩
 have hfitE:YP (ens (Vq js)):=hfit.fitE fun z hz=>by
  obtain⟨g1,_⟩:=hgood z hz
  unfold En.good at g1
  simp only[Qd,QF] at g1
  exact⟨((Tb _).1 g1.1.1.1.1.1.1).1,g1.1.2⟩
 have hPLm:∀ x∈PL,(x.p,x.i,x.e)∈Vq js:=fun x hx=>X9 (hg.one x hx).1
 have hleaf:∀ x∈PL,∀ c∈x.cl,0<=c.1/\c.1 < (ls.length:Int):=fun x hx c hc=>by
  rw[(hg.one x hx).2.1] at hc
  obtain⟨e,he,e1,e2,e3⟩:=Tg.1 hc
  obtain⟨z,hz,rfl⟩:=Q6.1 he
  obtain⟨a,bb,hab⟩:=Z7 hz
  have h1:=Ut (hfit a z bb hab)
  obtain⟨g1,_⟩:=hgood z hz
  unfold En.good at g1
  simp only[Qd,QF] at g1
  rw[<-e2]
  exact⟨((Tb _).1 g1.1.1.1.1.1.1).1,h1.1⟩
 have hclb:∀ x∈PL,x.cl.length<=4000:=fun x hx=>by rw[(hg.one x hx).2.1];exact QY (clE_le _ _) hens
 have hclne:∀ x∈PL,x.cl≠[]:=fun x hx=>by
  rw[(hg.one x hx).2.1]
  exact clE_ne ((YK _ _).2 ⟨x.e,Q6.2 ⟨_,hPLm x hx,rfl⟩,rfl⟩)
 have hpl:∀ l:List En,(V6 l).length<=l.length:=fun l=>by
  induction l using JS with
  | nil=>simp[V6]
  | snoc l x ih=>
   rw[Yp]
   split
   ·simp;omega
   ·simp;omega
 have hPLn:PL.length<=4000:=by
  have h1:=Xn List.length hg.prs
  rw[Qu] at h1
  have:=hpl (ens (Vq js))
  omega
 obtain⟨J33,hR33,kR33,O33_44⟩:∃ fr',ar (m+2) Y wg31_5 fD s2=.ok fr' s3/\Kq [44,43] fD fr'/\fr'.get 44=some (.ptr s2.next 0):=⟨_,by simp only[amE,rQ,↓reduceIte,rA,D6,wg31_5,l62,rg,OpR.of2,nd_rng]<;>rfl,Kq.refl.s.s,gh⟩
 have V33_1:=kR33.g 1 D1
 have V33_2:=kR33.g 2 D2
 have V33_4:=kR33.g 4 D4
 have V33_5:=kR33.g 5 D5
 have V33_6:=kR33.g 6 D6
 have V33_7:=kR33.g 7 D7
 have V33_8:=kR33.g 8 D8
 have V33_9:=kR33.g 9 D9
 have W33:=kR33.1.trans dD
 have un3:∀ j∈[45,46,47,48,11,49,50,51,52,53,54,55,56,57,58,13,59,60,61,62,63,64,65,66,55],J33.get j=none:=fun j hj=>by
  rw[kR33.2 j (by
   simp only[Qx,QI,Xh] at hj
   rcases hj with rfl | rfl | rfl | rfl | rfl | rfl | rfl | rfl | rfl | rfl | rfl | rfl | rfl | rfl | rfl | rfl | rfl | rfl | rfl | rfl | rfl | rfl | rfl | rfl | rfl<;>decide)]
  exact un2 j hj
 obtain⟨fM,s4,hM,kM1,kM2,hP4,T4,n4,o4⟩:=total31 (m:=m+2) (Y:=Y) (ro:=none) (fr:=J33) (s:=s3) (tp:=s1.next+3) (T:=s1.next+1) (id0:=s2.next) (k:=ls.length) hP3 I3 ((o3 _ (by omega) (by omega)).trans C3) ((o3 _ (by omega) (by omega)).trans C1)
  (by omega) (by omega) (by omega) (by omega) (by omega) (by omega) ⟨by omega,by omega,by omega⟩ (by omega) hleaf hclb hclne hPLn (by omega) O33_44 V33_9 (fun j hj=>un3 j (by
   simp only[Qx,QI,Xh] at hj ⊢
   omega))
 have kM:Kq [44,45,46,47,48,11,49,50,51,52,53,54,55,56,57,58,13,59,60,61,62,63,64,65,66,55] J33 fM:=Kq.of kM1 kM2
 have dM:=kM.1.trans W33
 have M1:=kM.g 1 V33_1
 have M2:=kM.g 2 V33_2
 have M4:=kM.g 4 V33_4
 have M5:=kM.g 5 V33_5
 have M6:=kM.g 6 V33_6
 have M7:=kM.g 7 V33_7
 have M8:=kM.g 8 V33_8
 have M9:=kM.g 9 V33_9
 have T4':s4.get (s1.next+1)=some (.row (Vw ls.length fun i=>VF (ens (Vq js)) i)):=by
  rw[T4]
  congr 2
  refine Xn (Vw ls.length) (funext fun i=>?_)
  have h1:PL.flatMap (·.cl)=(V6 (ens (Vq js))).flatMap (clE (ens (Vq js))):=by
   rw[<-hg.prs,List.flatMap_map,Zf,Zf]
   exact Xn List.flatten (QX fun x hx=>(hg.one x hx).2.1)
  rw[h1]
  exact(all_claims _ _ (Wu _) (fun e he=>(YK _ _).2 ⟨e,he,rfl⟩)).2 i
 have E6:s4.get sG.next=some (.row [.map (sA.next+2)]):=by rw[o4 _ (by omega) (by omega) (by omega),o3 _ (by omega) (by omega),o2 _ (by omega)];exact B6
 have l64:Vf false 1 s4 (.ptr sG.next 0)=some (.map (sA.next+2)):=Vk E6 rfl
 have c71:((gT (m+2)).cg Y).fn 71 [.map (sA.next+2)] s4=.ret (.func (.func 118) [] [.ptr s4.next 0]) (s4.new (.row [.map (sA.next+2)])):=keys71_run (sA.next+2) (m+1) Y s4
 have hdupP:(PL.map fun x=>x.e.prop).Nodup:=by rw[hg.prs];exact Wu _
 have hokp:∀ x∈PL,okN x.e.prop=true:=fun x hx=>by
  obtain⟨g1,_⟩:=hgood _ (hPLm x hx)
  unfold En.good at g1
  simp only[Qd,QF] at g1
  exact g1.1.1.1.1.2
 obtain⟨lv0,s5,c70,hlf5,n5,o5,hx5,hz5⟩:=sorted70_run (PL:=PL) (A:=sA.next+2) (c:=s4.next) (st:=s4.new (.row [.map (sA.next+2)])) (by rw[St.get_new,Qm rfl]) (by rw[St.get_new,Qe (by omega)];exact hP4.all) hokp hdupP hPLn (m+1) Y
 have c70:((gT (m+2)).cg Y).fn 70 [.func (.func 118) [] [.ptr s4.next 0]] (s4.new (.row [.map (sA.next+2)]))=.ret lv0 s5:=c70
 rw[hg.prs] at hlf5 hx5 hz5
 have n5':s4.next+1<=s5.next:=n5
 have o5':∀ j,j < s4.next->s5.get j=s4.get j:=fun j hj=>by rw[o5 j (by show j < s4.next+1;omega),St.get_new,Qe (by omega)]
 have hlv0:lv0.cells=[lv0]/\AV.one lv0=true:=by
  rcases hlf5 with⟨h,_⟩|⟨_,_,h,_,_⟩<;>rw[h]<;>exact⟨rfl,rfl⟩
 have st5:Vt 1 (s5.new (.row [.nilsl])) (.ptr s5.next 0) lv0=some ((s5.new (.row [.nilsl])).put s5.next (.row [lv0])):=V4 (x:=[.nilsl]) (by rw[St.get_new,Qm rfl]) (by rw[hlv0.1];rfl) (by rw[hlv0.1];rfl) (by simp) (by rw[hlv0.1];simp[hlv0.2])
 obtain⟨s6,hs6⟩:∃ s6,s6=(s5.new (.row [.nilsl])).put s5.next (.row [lv0]):=⟨_,rfl⟩
 rw[<-hs6] at st5
 have n6:s6.next=s5.next+1:=by rw[hs6];rfl
 have G14:s6.get s5.next=some (.row [lv0]):=by rw[hs6,St.get_put,Qm rfl]
 have o6:∀ j,j < s5.next->s6.get j=s5.get j:=fun j hj=>by rw[hs6,St.get_put,Qe (by omega),St.get_new,Qe (by omega)]
 have o46:∀ j,j < s4.next->s6.get j=s4.get j:=fun j hj=>(o6 j (by omega)).trans (o5' j hj)
 obtain⟨lid,hlf6,li1,li2,li3⟩:∃ lid,LfS s6 lv0 lid (Wn (V6 (ens (Vq js))))/\s4.next<=lid/\lid≠s5.next/\lid < s6.next:=by
  by_cases h0:Wn (V6 (ens (Vq js)))=[]
  ·exact⟨s4.next,.inl ⟨hz5 h0,h0⟩,Qw _,by omega,by omega⟩
  ·have:=hx5 h0
   exact⟨s4.next+1,hlf5.keep (o6 _ this),by omega,by show s4.next+1≠s5.next;exact Nat.ne_of_lt this,by have h:s4.next+1 < s5.next:=this;omega⟩
 obtain⟨J34,hR34,O34_14⟩:∃ fr',ar (m+2) Y wg31_12 fM s4=.ok fr' s6/\fr'.get 14=some (.ptr s5.next 0):=⟨_,by simp only[amE,rQ,↓reduceIte,rA,M6,wg31_12,l64,c71,c70,st5]<;>rfl,gh⟩
 have V34_1:=ag hR34 M1
 have V34_2:=ag hR34 M2
 have V34_4:=ag hR34 M4
 have V34_5:=ag hR34 M5
 have V34_6:=ag hR34 M6
 have V34_8:=ag hR34 M8
 have V34_9:=ag hR34 M9
 have W34:=ad hR34 dM
 obtain⟨J35,hR35,O35_15⟩:∃ fr',ar (m+2) Y wg31_13 J34 s6=.ok fr' s6/\fr'.get 15=some (.func (.func 72) [] [.ptr sG.next 0,.ptr (s1.next+2) 0,.ptr (s1.next+3) 0]):=⟨_,by simp only[amE,rQ,↓reduceIte,rA,V34_6,V34_8,V34_9,wg31_13,Q4,QZ,Jy]<;>rfl,gh⟩
 have V35_1:=ag hR35 V34_1
 have V35_2:=ag hR35 V34_2
 have V35_4:=ag hR35 V34_4
 have V35_5:=ag hR35 V34_5
 have V35_6:=ag hR35 V34_6
 have V35_8:=ag hR35 V34_8
 have V35_9:=ag hR35 V34_9
 have V35_14:=ag hR35 O34_14
 have W35:=ad hR35 W34
 obtain⟨J36,hR36,O36_16⟩:∃ fr',ar (m+2) Y wg31_14 J35 s6=.ok fr' s6/\fr'.get 16=some (.nilsl):=⟨_,by simp only[amE,rQ,↓reduceIte,rA,wg31_14]<;>rfl,gh⟩
 have V36_1:=ag hR36 V35_1
 have V36_2:=ag hR36 V35_2
 have V36_4:=ag hR36 V35_4
 have V36_5:=ag hR36 V35_5
 have V36_6:=ag hR36 V35_6
 have V36_8:=ag hR36 V35_8
 have V36_9:=ag hR36 V35_9
 have V36_14:=ag hR36 V35_14
 have V36_15:=ag hR36 O35_15
 have W36:=ad hR36 W35
 have hP6:PrSt (sA.next+2) (sA.next+8) sG.next (Vq js) s6 PL:=hP4.keep fun j hj=>o46 j (by omega)
 have q36:∀ j,j < s2.next->j≠sA.next+2->j≠s1.next+1->s6.get j=s2.get j:=fun j h1 h2 h3=>by rw[o46 j (by omega),o4 j (by omega) (by omega) h3,o3 j h1 h2]
 obtain⟨fL,s7,ov,PS,lv7,hL,kL,L16,hov,hPSp,hPSm,G147,hlf7,n7,o7⟩:=loop31_run (m:=m+2) (Y:=Y) (ro:=none) (fr0:=J36) (s0:=s6) (A:=sA.next+2) (lim:=sA.next+8) (hi:=sG.next) (d:=Vq js) (PL:=PL) (x6:=sG.next) (x8:=s1.next+2) (x9:=s1.next+3) (x14:=s5.next) (Th:=s1.next) (Tt:=s1.next+1) (lid:=lid) (k:=ls.length) (lv0:=lv0) (L0:=Wn (V6 (ens (Vq js)))) hP6
  ((o46 _ (by omega)).trans E6) ((q36 _ (by omega) (by omega) (by omega)).trans C2) ((q36 _ (by omega) (by omega) (by omega)).trans C3) ((q36 _ (by omega) (by omega) (by omega)).trans C0) ((o46 _ (by omega)).trans T4') G14 hlf6 (WA _)
  (fun x hx=>by
   obtain⟨g1,g2⟩:=hgood _ (hPLm x hx)
   unfold En.good at g1
   simp only[Qd,QF] at g1
   exact⟨g2,g1.1.2⟩) hleaf hens (by omega) ⟨by omega,by omega,by omega,by omega,by omega,by omega,fun _=>li3,by omega⟩ ⟨by omega,by omega,by omega,by omega,by omega,by omega,by omega,by omega⟩ ⟨by omega,by omega,by omega,by omega,by omega,by omega⟩ ⟨by omega,by omega,by omega,by omega,by omega⟩ ⟨by omega,by omega,by omega,by omega⟩
  V36_6 V36_8 V36_9 V36_14 V36_15 O36_16
 have dL:=kL.1.trans W36
 have L1:=kL.g 1 V36_1
 have L2:=kL.g 2 V36_2
 have L4:=kL.g 4 V36_4
 have L5:=kL.g 5 V36_5
 have L14:=kL.g 14 V36_14
 change PS.map (fun x=>x.e.prop)=(Yb (Vq js)).2 at hPSp
 change LfS s7 lv7 lid (Yb (Vq js)).1 at hlf7
 have hpo:=UL hfitE (Wn (V6 (ens (Vq js)))).length (Wn (V6 (ens (Vq js)))) [] (by rw[QG];exact(WA _).nodup_iff.2 (Wu _)) (Y9.nil _) (YB.nil _)
 have hpm:((Yb (Vq js)).1++(Yb (Vq js)).2).Perm (V6 (ens (Vq js))):=hpo.2.2.trans (by rw[QG];exact WA _)
 have hlen7:((Yb (Vq js)).1).length<=4000:=by
  have h1:=hpm.length_eq
  rw[QJ] at h1
  have:=hpl (ens (Vq js))
  omega
 have hPS4:PS.length<=4000:=by
  have h1:=hpm.length_eq
  rw[QJ,<-hPSp,Qu] at h1
  have:=hpl (ens (Vq js))
  omega
 have l147:Vf false 1 s7 (.ptr s5.next 0)=some lv7:=Vk G147 rfl
 have len7:(bif VD 0 lv7 then Wm s7 lv7 else none)=some (ZI (((Yb (Vq js)).1).length)):=SlI.len (hlf7.sl (by omega)) s7
 have hgt:=gtrN ((Yb (Vq js)).1).length 0
 have F0:s7.get st.next=some (.row [.nilsl]):=by rw[o7 _ (by omega) (by omega) (by omega) (by omega),q36 _ (by omega) (by omega) (by omega),o2 _ (by omega)];exact B0
 have F1:s7.get (st.next+1)=some (.row [Z0,Z0,Z0]):=by rw[o7 _ (by omega) (by omega) (by omega) (by omega),q36 _ (by omega) (by omega) (by omega),o2 _ (by omega)];exact B1
 have K7:Vd st s7:=⟨by omega,fun j hj=>by rw[o7 _ (by omega) (by omega) (by omega) (by omega),q36 _ (by omega) (by omega) (by omega)];exact K2.2 j hj⟩
 by_cases hle:(Yb (Vq js)).1=[]
 case neg=>
  have hpos:0 < ((Yb (Vq js)).1).length:=Z2.2 hle
  rw[Qs hpos] at hgt
  have hnot:¬ okM ls.length ps (Vq js):=fun h=>hle h.2
  have e65:((gT (m+2)).cg Y).fn 65 [jv] s7=.ret (.func (.func 107) [] [.ptr s7.next 0]) (s7.new (.row [jv])):=S6 jv hone (m+1) Y _
  have S7:Vs F st (s7.new (.row [jv])):=Vs.of (K7.trans (Vd.new _ _)) hF
  obtain⟨J37,hR37,O37_111⟩:∃ fr',ar (m+2) Y wg31_25 fL s7=.ok fr' s7/\fr'.get 111=some (.bool true):=⟨_,by simp only[amE,rQ,↓reduceIte,rA,L14,wg31_25,l147,len7,hgt]<;>rfl,gh⟩
  have V37_1:=ag hR37 L1
  have V37_4:=ag hR37 L4
  have V37_5:=ag hR37 L5
  have V37_14:=ag hR37 L14
  have W37:=ad hR37 dL
  obtain⟨J38,hR38,O38_113⟩:∃ fr',ar (m+2) Y wg31_26 J37 s7=.ok fr' (s7.new (.row [jv]))/\fr'.get 113=some (.func (.func 107) [] [.ptr s7.next 0]):=⟨_,by simp only[amE,rQ,↓reduceIte,rA,V37_1,wg31_26,e65]<;>rfl,gh⟩
  have V38_4:=ag hR38 V37_4
  have V38_5:=ag hR38 V37_5
  have V38_14:=ag hR38 V37_14
  have W38:=ad hR38 W37
  have hlid7:lid < s7.next:=by omega
  obtain⟨s8,pp,ii,hR,R0,R1,n8,o8⟩:=circle31_run (left:=(Yb (Vq js)).1) (lid:=lid) (lv:=lv7) (b:=st.next) (x14:=s5.next) (c:=s7.next) (fr:=J38) (s:=s7.new (.row [jv])) hj (m+1) Y (by omega) S7 (by rw[St.get_new,Qe (by omega)];exact F0) (by rw[St.get_new,Qe (by omega)];exact F1) (by rw[St.get_new,Qe (by omega)];exact G147) (by rw[St.get_new,Qm rfl]) (hlf7.keep (by rw[St.get_new,Qe (by omega)])) hlen7 hle
   (fun q hq=>hpm.mem_iff.1 (XC _ hq)) (fun i hi=>by have:=hF i hi;show i < s7.next+1;omega) ⟨by show _ < s7.next+1;omega,by show _ < s7.next+1;omega,by show _ < s7.next+1;omega,by show _ < s7.next+1;omega⟩ V38_4 V38_5 V38_14 O38_113
  obtain⟨FS,hFS⟩:∃ FS:Fr,FS={ J38 with ds:=.coll::J38.ds }:=⟨_,rfl⟩
  rw[<-hFS] at hR
  have F4:FS.get 4=some (.ptr st.next 0):=by rw[hFS];exact V38_4
  have F5:FS.get 5=some (.ptr (st.next+1) 0):=by rw[hFS];exact V38_5
  have dS:FS.ds=[.coll]:=by rw[hFS,W38]
  have r1:Vf false 1 s8 (.ptr st.next 0)=some .nilsl:=Vk R0 rfl
  have r2:Vf true 3 s8 (.ptr (st.next+1) 0)=some (.agg [ZI 4,ZI pp,ZI ii]):=Wk R1 rfl
  have kk:Vd st s8:=⟨by have h:s7.next+1<=s8.next:=n8;omega,fun j hj=>by rw[o8 j (by show j < s7.next+1;omega) (by omega) (by omega),St.get_new,Qe (by omega)];exact K7.2 j hj⟩
  refine⟨_,.nilsl,[ZI 4,ZI pp,ZI ii],fun_of2 (mf:=wf31) (fr:=FS) t31 rfl (.inl ?q39) (coll_one dS) (by simp only[wf31,amE,F4,F5,r1,r2]),kk,.inr ⟨hnot,rfl,4,pp,ii,by omega,rfl⟩⟩
  case q39=>
   rw[<-hA28]
   simp only[amE,rQ,↓reduceIte,rA,wf31,b00,b11,b22,b33,b44,b88,hR29,hR30,hR31,hD,hR33,hM,hR34,hR35,hR36,hL,hR37,hR38,hR,O31_33,O37_111]
 rw[hle] at hgt len7
 rw[Qp (by simp)] at hgt
 have hP7:PrSt (sA.next+2) (sA.next+8) sG.next (Vq js) s7 PL:=hP6.keep fun j hj=>o7 j (by omega) (by omega) (by omega) (by omega)
 have hdupS:(PS.map fun x=>x.e.prop).Nodup:=by
  rw[hPSp]
  exact(QS.1 (hpm.nodup_iff.2 (Wu _))).2.1
 have lenO:(bif VD 0 ov then Wm s7 ov else none)=some (ZI PS.length):=by
  rcases hov with⟨h1,h2⟩|⟨oid,_,_,h3,_⟩
  ·rw[h1,h2];rfl
  ·rw[h3];rfl
 obtain⟨J40,hR40,O40_111⟩:∃ fr',ar (m+2) Y wg31_25 fL s7=.ok fr' s7/\fr'.get 111=some (.bool false):=⟨_,by simp only[amE,rQ,↓reduceIte,rA,L14,wg31_25,l147,len7,hgt,X2]<;>rfl,gh⟩
 have V40_4:=ag hR40 L4
 have V40_5:=ag hR40 L5
 have V40_16:=ag hR40 L16
 have W40:=ad hR40 dL
 obtain⟨J41,hR41,O41_122,O41_123,O41_124⟩:∃ fr',ar (m+2) Y wg31_31 J40 s7=.ok fr' s7/\fr'.get 122=some (ov)/\fr'.get 123=some (ZI PS.length)/\fr'.get 124=some Z0:=⟨_,by simp only[amE,rQ,↓reduceIte,rA,V40_16,wg31_31,lenO]<;>rfl,gn (gn gh),gn gh,gh⟩
 have V41_4:=ag hR41 V40_4
 have V41_5:=ag hR41 V40_5
 have V41_16:=ag hR41 V40_16
 have W41:=ad hR41 W40
 obtain⟨fS,s8,hS,kS,n8,o8,hS8⟩:=sorts31_run (m:=m+2) (Y:=Y) (ro:=none) (fr0:=J41) (s0:=s7) hP7 hov (by omega) hPSm hdupS (fun x hx=>⟨by rw[(hg.one x hx).2.1];exact leaf_nodup hfitE _,hclb x hx⟩) (by omega) hPS4 O41_122 O41_123 O41_124
 have dS:=kS.1.trans W41
 have S4:=kS.g 4 V41_4
 have S5:=kS.g 5 V41_5
 have S16:=kS.g 16 V41_16
 have hcid:∀ x∈PS,sA.next+8<=x.cid/\x.cid < sG.next:=fun x hx=>by
  obtain⟨_,_,_,_,_,xg,_,xv⟩:=hP7.one x (hPSm x hx)
  exact⟨xg,xv⟩
 have H0:s8.get st.next=some (.row [.nilsl]):=by rw[o8 _ fun x hx=>by have:=hcid x hx;omega];exact F0
 have H1:s8.get (st.next+1)=some (.row [Z0,Z0,Z0]):=by rw[o8 _ fun x hx=>by have:=hcid x hx;omega];exact F1
 have hovc:ov.cells=[ov]/\AV.one ov=true:=by
  rcases hov with⟨h,_⟩|⟨_,_,_,h,_⟩<;>rw[h]<;>exact⟨rfl,rfl⟩
 have t1:Vt 1 s8 (.ptr st.next 0) ov=some (s8.put st.next (.row [ov])):=V4 H0 (by rw[hovc.1];rfl) (by rw[hovc.1];rfl) (by simp) (by rw[hovc.1];simp[hovc.2])
 have t2:Vt 3 (s8.put st.next (.row [ov])) (.ptr (st.next+1) 0) (.agg [Z0,Z0,Z0])=some ((s8.put st.next (.row [ov])).put (st.next+1) (.row [Z0,Z0,Z0])):=V4 (by rw[St.get_put,Qe (by omega)];exact H1) rfl rfl (by simp) rfl
 have r1:Vf false 1 ((s8.put st.next (.row [ov])).put (st.next+1) (.row [Z0,Z0,Z0])) (.ptr st.next 0)=some ov:=Vk (x:=[ov]) (by rw[St.get_put,Qe (by omega),St.get_put,Qm rfl]) rfl
 have r2:Vf true 3 ((s8.put st.next (.row [ov])).put (st.next+1) (.row [Z0,Z0,Z0])) (.ptr (st.next+1) 0)=some (.agg [Z0,Z0,Z0]):=Wk (by rw[St.get_put,Qm rfl]) rfl
 have o9:∀ j,j≠st.next->j≠st.next+1->((s8.put st.next (.row [ov])).put (st.next+1) (.row [Z0,Z0,Z0])).get j=s8.get j:=fun j h1 h2=>by rw[St.get_put,Qe h2,St.get_put,Qe h1]
 have n9:((s8.put st.next (.row [ov])).put (st.next+1) (.row [Z0,Z0,Z0])).next=s7.next:=n8
 generalize (s8.put st.next (.row [ov])).put (st.next+1) (.row [Z0,Z0,Z0])=s9 at t2 r1 r2 o9 n9
 have kk:Vd st s9:=⟨by omega,fun j hj=>by rw[o9 j (by omega) (by omega),o8 _ fun x hx=>by have:=hcid x hx;omega];exact K7.2 j hj⟩
 have hfin:JU st.next s9 ov PS/\∀ x∈PS,PrM (Vq js) st.next s9 x:=by
  refine⟨?_,fun x hx=>?_⟩
  ·rcases hov with h|⟨oid,p1,p2,p3,p4⟩
   ·exact .inl h
   ·exact .inr ⟨oid,by omega,by omega,p3,by rw[o9 _ (by omega) (by omega),o8 _ fun x hx=>by have:=hcid x hx;omega];exact p4⟩
  ·obtain⟨xa,xb,xc,xd,xf,xg,xu,xv⟩:=hP7.one x (hPSm x hx)
   refine⟨xa,xb,?_,by rw[o9 _ (by omega) (by omega)];exact hS8 x hx,by omega,by omega,by omega,by omega⟩
   rw[o9 _ (by omega) (by omega),o8 _ fun y hy=>?_]
   ·exact xc
   ·by_cases hxy:x=y
    ·subst hxy
     have key:∀ l:List Pr,(l.flatMap fun x=>[x.id,x.cid]).Nodup->x∈l->x.id≠x.cid:=by
      intro l
      induction l with
      | nil=>intro _ h;simp at h
      | cons z l ih=>
       intro hn hx
       rw[Xa,QS] at hn
       rcases Qx.1 hx with h | h
       ·rw[h];simpa using hn.1
       ·exact ih hn.2.1 h
     exact key PL hg.ids (hPSm x hx)
    ·have hne:x.e.prop≠y.e.prop:=fun he=>hxy (by
      have hx1:=Sk hdupP (hPSm x hx)
      have hy1:=Sk hdupP (hPSm y hy)
      rw[he] at hx1
      rw[hx1] at hy1;injection hy1)
     exact(hg.ne (hPSm x hx) (hPSm y hy) hne).2.1
 obtain⟨J42,hR42⟩:∃ fr',ar (m+2) Y wg31_36 fS s8=.ok fr' s9:=⟨_,by simp only[amE,rQ,↓reduceIte,rA,S4,S5,S16,wg31_36,build3z,t1,t2]<;>rfl⟩
 have V42_4:=ag hR42 S4
 have V42_5:=ag hR42 S5
 have W42:=ad hR42 dS
 refine⟨_,ov,[Z0,Z0,Z0],Ve (mf:=wf31) (fr:=J42) t31 rfl (.inl ?q42) W42 (by simp only[wf31,amE,V42_4,V42_5,r1,r2]),kk,.inl ⟨⟨hfit,hle⟩,rfl,PS,hPSp,hfin.1,hfin.2⟩⟩
 case q42=>
  rw[<-hA28]
  simp only[amE,rQ,↓reduceIte,rA,wf31,b00,b11,b22,b33,b44,bAA,b88,hR29,hR30,hR31,hD,hR33,hM,hR34,hR35,hR36,hL,hR40,hR41,hS,hR42,O31_33,O40_111]
end Go.AM.D32
