import Derived.Test.YtejdliehekjicaaGreatAwWl
import Derived.Test.YtejdliehekjicaaGreatAwFast2
set_option maxRecDepth 100000
set_option linter.unusedSimpArgs false
namespace Go.AM.D32
open Go Go.AM
structure Pr where
 e:En
 p:Nat
 i:Nat
 cl:List (Int × Int)
 id:Nat
 cid:Nat
def Pr.csl(x:Pr):AV:=.own x.cid 0 x.cl.length 2 none x.cl.length
def YX(e:En)(c:AV)(p i:Nat):List AV:=[.int .i64 e.prop,.int .i64 e.gate,e.vsl]++e.d.cells++[c,ZI p,ZI i,e.ssl]
def Pr.row(x:Pr):List AV:=YX x.e x.csl x.p x.i
def V6(l:List En):List Int:=l.foldl (fun acc e=>if acc.contains e.prop then acc else acc++[e.prop]) []
theorem Yp(l:List En)(e:En):V6 (l++[e])=if (V6 l).contains e.prop then V6 l else V6 l++[e.prop]:=by
 unfold V6;rw[List.foldl_append];rfl
theorem YK(l:List En)(q:Int):q∈V6 l ↔ ∃ e∈l,e.prop=q:=by
 induction l using JS with
 | nil=>simp[V6]
 | snoc l x ih=>
  rw[Yp]
  by_cases h:(V6 l).contains x.prop=true
  ·rw[Qm h,ih]
   constructor
   ·rintro ⟨e,he,hq⟩;exact⟨e,by simp[he],hq⟩
   ·rintro ⟨e,he,hq⟩
    rcases QV.1 he with he | he
    ·exact⟨e,he,hq⟩
    ·obtain rfl:e=x:=by simpa using he
     rw[hq] at h
     exact ih.1 (by simpa using h)
  ·rw[Qe h]
   simp only[QV,ih,Xd]
   constructor
   ·rintro (⟨e,he,hq⟩ | rfl)
    ·exact⟨e,.inl he,hq⟩
    ·exact⟨x,.inr rfl,rfl⟩
   ·rintro ⟨e,he | rfl,hq⟩
    ·exact .inl ⟨e,he,hq⟩
    ·exact .inr hq.symm
theorem Wu(l:List En):(V6 l).Nodup:=by
 induction l using JS with
 | nil=>simp[V6]
 | snoc l x ih=>
  rw[Yp]
  by_cases h:(V6 l).contains x.prop=true
  ·rw[Qm h];exact ih
  ·rw[Qe h]
   refine QS.2 ⟨ih,by simp,fun a ha b hb e=>?_⟩
   obtain rfl:b=x.prop:=by simpa using hb
   subst e
   exact h (by simpa using ha)
def Yf(m:List (Int × Nat))(q:Int):Nat:=match m.find? (fun x=>x.1==q) with
 | some x=>x.2
 | none=>0
def esM(m:List (Int × Nat)):List (AV × AV):=m.map fun x=>(.int .i64 x.1,ZI x.2)
def esP(l:List Pr):List (AV × AV):=l.map fun x=>(.int .i64 x.e.prop,.ptr x.id 0)
theorem Sh{α:Type}(key:α->Int)(val:α->AV)(q:Int):∀ l:List α,Uz false (.int .i64 q) (l.map fun x=>(AV.int .i64 (key x),val x))=some ((l.find? fun x=>key x==q).map val)
 | []=>rfl
 | x::l=>by
  simp only[Q4,Uz,KO,Qq,Xj,List.find?]
  by_cases h:key x=q
  ·subst h;simp
  ·have h1:(q==key x)=false:=by simpa using fun e=>h e.symm
   have h2:(key x==q)=false:=by simpa using h
   rw[h1,h2];exact Sh key val q l
theorem putA_new{α:Type}(key:α->Int)(val:α->AV)(q:Int)(v:AV):∀ l:List α,(l.find? fun x=>key x==q)=none->putA false (.int .i64 q) v (l.map fun x=>(AV.int .i64 (key x),val x))=some ((l.map fun x=>(AV.int .i64 (key x),val x))++[(.int .i64 q,v)])
 | [],_=>rfl
 | x::l,h=>by
  simp only[List.find?] at h
  split at h
  ·cases h
  ·rename_i h2
   have h1:(q==key x)=false:=by
    have:¬ key x=q:=by simpa using h2
    simpa using fun e=>this e.symm
   simp only[Q4,putA,KO,Qq,Xj,h1,putA_new key val q v l h,Ql,QP]
def YH(q:Int):List (Int × Nat)->List (Int × Nat)
 | []=>[(q,1)]
 | x::m=>if x.1=q then (q,x.2+1)::m else x::YH q m
theorem putA_bump(q:Int):∀(m:List (Int × Nat)),putA false (.int .i64 q) (ZI ((Yf m q+1))) (esM m)=some (esM (YH q m))
 | []=>rfl
 | x::m=>by
  have ih:=putA_bump q m
  unfold esM at ih ⊢
  simp only[Q4,putA,KO,Qq,Xj,YH,Yf,List.find?]
  by_cases h:x.1=q
  ·have h1:(q==x.1)=true:=by simpa using h.symm
   have h2:(x.1==q)=true:=by simpa using h
   rw[h1,h2,Qm h];rfl
  ·have h1:(q==x.1)=false:=by simpa using fun e=>h e.symm
   have h2:(x.1==q)=false:=by simpa using h
   rw[h1,h2,Qe h]
   unfold Yf at ih
   simp only[ih,Ql,Q4]
theorem cntM_bump(q r:Int):∀(m:List (Int × Nat)),Yf (YH q m) r=Yf m r+(if (q==r)=true then 1 else 0)
 | []=>by
  unfold YH Yf
  simp only[List.find?]
  cases h:q==r<;>simp
 | x::m=>by
  have ih:=cntM_bump q r m
  unfold YH
  by_cases h:x.1=q
  ·rw[Qm h]
   unfold Yf
   simp only[List.find?]
   subst h
   cases h2:x.1==r<;>simp
  ·rw[Qe h]
   unfold Yf at ih ⊢
   simp only[List.find?]
   cases h2:x.1==r
   ·exact ih
   ·have:(q==r)=false:=by
     have:x.1=r:=by simpa using h2
     subst this
     simpa using fun e=>h e.symm
    simp[this]
structure Y5(A M lim:Nat)(d:List Sp)(s:St)(PL:List Pr)(m:List (Int × Nat)):Prop where
 all:s.get A=some (.map (esP PL))
 mov:s.get M=some (.map (esM m))
 cnt:∀ q,Yf m q=VF (RA d) q
 prs:PL.map (fun x=>x.e.prop)=V6 (RA d)
 one:∀ x∈PL,d.find? (fun z=>z.2.2.prop==x.e.prop)=some (x.p,x.i,x.e)/\x.cl=RK (RA d) x.e.prop/\s.get x.id=some (.row x.row)/\s.get x.cid=some (.row (V9 x.cl))/\lim<=x.id/\lim<=x.cid/\x.id < s.next/\x.cid < s.next
 ids:(PL.flatMap fun x=>[x.id,x.cid]).Nodup
 lim:A < lim/\M < lim/\lim<=s.next
theorem Y5.keep{A M lim:Nat}{d:List Sp}{s s':St}{PL:List Pr}{m:List (Int × Nat)}(h:Y5 A M lim d s PL m)(k:Vd s s'):Y5 A M lim d s' PL m:=by
 obtain⟨l1,l2,l3⟩:=h.lim
 refine⟨by rw[k.2 _ (by omega)];exact h.all,by rw[k.2 _ (by omega)];exact h.mov,h.cnt,h.prs,fun x hx=>?_,h.ids,l1,l2,QY l3 k.1⟩
 obtain⟨a,b,c,e,f,g,i,j⟩:=h.one x hx
 exact⟨a,b,by rw[k.2 _ i];exact c,by rw[k.2 _ j];exact e,f,g,Qz i k.1,Qz j k.1⟩
theorem Y5.low{A M lim:Nat}{d:List Sp}{s:St}{PL:List Pr}{m:List (Int × Nat)}(h:Y5 A M lim d s PL m){id:Nat}(hi:id < lim)(hA:id≠A)(hM:id≠M)(o:AO):Y5 A M lim d (s.put id o) PL m:=by
 obtain⟨l1,l2,l3⟩:=h.lim
 refine⟨by rw[St.get_put,Qe (fun e=>hA e.symm)];exact h.all,by rw[St.get_put,Qe (fun e=>hM e.symm)];exact h.mov,h.cnt,h.prs,fun x hx=>?_,h.ids,l1,l2,l3⟩
 obtain⟨a,b,c,e,f,g,i,j⟩:=h.one x hx
 exact⟨a,b,by rw[St.get_put,Qe (by omega)];exact c,by rw[St.get_put,Qe (by omega)];exact e,f,g,i,j⟩
theorem Y5.find{A M lim:Nat}{d:List Sp}{s:St}{PL:List Pr}{m:List (Int × Nat)}(h:Y5 A M lim d s PL m)(q:Int):
  (∃ x∈PL,x.e.prop=q/\PL.find? (fun x=>x.e.prop==q)=some x/\d.find? (fun z=>z.2.2.prop==q)=some (x.p,x.i,x.e))\/(PL.find? (fun x=>x.e.prop==q)=none/\d.find? (fun z=>z.2.2.prop==q)=none/\q∉V6 (RA d)):=by
 cases hf:PL.find? (fun x=>x.e.prop==q) with
 | some x=>
  have h1:=X9 hf
  have h2:x.e.prop=q:=by have:=List.find?_some hf;simpa using this
  have h3:=(h.one x h1).1
  rw[h2] at h3
  exact .inl ⟨x,h1,h2,rfl,h3⟩
 | none=>
  have hn:q∉V6 (RA d):=fun hm=>by
   rw[<-h.prs] at hm
   obtain⟨x,hx,he⟩:=Q6.1 hm
   exact XJ.1 hf x hx (by simpa using he)
  refine .inr ⟨rfl,XJ.2 fun z hz he=>?_,hn⟩
  exact hn ((YK _ _).2 ⟨z.2.2,Q6.2 ⟨z,hz,rfl⟩,by simpa using he⟩)
theorem Uk(d:List Sp)(x:Sp):RA (d++[x])=RA d++[x.2.2]:=by simp[RA]
theorem Tl(l:List En)(e:En)(q:Int):RK (l++[e]) q=RK l q++(if e.prop=q then [(e.leaf,e.ver)] else []):=by
 unfold RK
 rw[List.filter_append,QQ]
 congr 1
 by_cases h:e.prop=q<;>simp[h]
theorem clE_none{l:List En}{q:Int}(h:q∉V6 l):RK l q=[]:=by
 unfold RK
 rw[List.map_eq_nil_iff,List.filter_eq_nil_iff]
 intro e he hq
 exact h ((YK _ _).2 ⟨e,he,by simpa using hq⟩)
theorem find_snoc{d:List Sp}{x y:Sp}{q:Int}(h:d.find? (fun z=>z.2.2.prop==q)=some y):(d++[x]).find? (fun z=>z.2.2.prop==q)=some y:=by
 rw[ZH,h];rfl
theorem Y5.new{A M lim:Nat}{d:List Sp}{s:St}{PL:List Pr}{m:List (Int × Nat)}(h:Y5 A M lim d s PL m){e:En}{p i n1 n2:Nat}{s':St}
  (hq:e.prop∉V6 (RA d)) (gA:s'.get A=some (.map (esP PL++[(.int .i64 e.prop,.ptr n1 0)]))) (gM:s'.get M=some (.map (esM (YH e.leaf m))))
  (g1:s'.get n1=some (.row (YX e (.own n2 0 1 2 none 1) p i))) (g2:s'.get n2=some (.row (V9 [(e.leaf,e.ver)]))) (dg:s.next<=n1) (eo:s.next<=n2) (az:n1≠n2) (h1:n1 < s'.next) (h2:n2 < s'.next)
  (hk:∀ k,k < s.next->k≠A->k≠M->s'.get k=s.get k):Y5 A M lim (d++[(p,i,e)]) s' (PL++[⟨e,p,i,[(e.leaf,e.ver)],n1,n2⟩]) (YH e.leaf m):=by
 obtain⟨l1,l2,l3⟩:=h.lim
 have bB:=clE_none hq
 have cq:d.find? (fun z=>z.2.2.prop==e.prop)=none:=XJ.2 fun z hz he=>hq ((YK _ _).2 ⟨z.2.2,Q6.2 ⟨z,hz,rfl⟩,by simpa using he⟩)
 refine⟨?_,gM,fun q=>?_,?_,fun x hx=>?_,?_,l1,l2,by omega⟩
 ·rw[gA];unfold esP;simp
 ·rw[Uk,cntM_bump,h.cnt,cntE_snoc]
 ·rw[Uk,Yp,Qe (by simpa using hq)];simp[h.prs]
 ·rw[Uk]
  rcases QV.1 hx with hx | hx
  ·obtain⟨a,b,c,d',f,g,u,v⟩:=h.one x hx
   have gI:e.prop≠x.e.prop:=fun he=>hq (by rw[he,<-h.prs];exact Q6.2 ⟨x,hx,rfl⟩)
   refine⟨find_snoc a,?_,by rw[hk _ u (by omega) (by omega)];exact c,by rw[hk _ v (by omega) (by omega)];exact d',f,g,by omega,by omega⟩
   rw[Tl,Qe gI,QG];exact b
  ·obtain rfl:x=⟨e,p,i,[(e.leaf,e.ver)],n1,n2⟩:=by simpa using hx
   refine⟨?_,?_,g1,g2,by show lim<=n1;omega,by show lim<=n2;omega,h1,h2⟩
   ·rw[ZH,cq];simp
   ·show _=RK (RA d++[e]) e.prop
    rw[Tl,Qm rfl,bB];rfl
 ·rw[X0]
  refine QS.2 ⟨h.ids,by simp[az],fun a ha b hb ek=>?_⟩
  obtain⟨x,hx,rK⟩:=QO.1 ha
  obtain⟨_,_,_,_,_,_,u,v⟩:=h.one x hx
  simp only[Qx,QI,Xh] at rK
  simp only[Xa,List.flatMap_nil,QG,Qx,QI,Xh] at hb
  rcases rK with rfl | rfl<;>rcases hb with rfl | rfl<;>omega
def Pr.more(q:Int)(c:Int × Int)(n:Nat)(y:Pr):Pr:=if y.e.prop=q then { y with cl:=y.cl++[c],cid:=n } else y
theorem Pr.more_e(q:Int)(c:Int × Int)(n:Nat)(y:Pr):(y.more q c n).e=y.e/\(y.more q c n).id=y.id/\(y.more q c n).p=y.p/\(y.more q c n).i=y.i:=by
 unfold Pr.more;split<;>exact⟨rfl,rfl,rfl,rfl⟩
theorem Y5.ne{A M lim:Nat}{d:List Sp}{s:St}{PL:List Pr}{m:List (Int × Nat)}(h:Y5 A M lim d s PL m){x y:Pr}(hx:x∈PL)(hy:y∈PL)(az:x.e.prop≠y.e.prop):x.id≠y.id/\x.id≠y.cid/\x.cid≠y.id/\x.cid≠y.cid:=by
 have key:∀ l:List Pr,(l.flatMap fun x=>[x.id,x.cid]).Nodup->x∈l->y∈l->x.id≠y.id/\x.id≠y.cid/\x.cid≠y.id/\x.cid≠y.cid:=by
  intro l
  induction l with
  | nil=>intro _ hx;simp at hx
  | cons z l ih=>
   intro hn hx hy
   rw[Xa,QS] at hn
   obtain⟨_,n2,n3⟩:=hn
   have far:∀ u∈l,z.id≠u.id/\z.id≠u.cid/\z.cid≠u.id/\z.cid≠u.cid:=fun u hu=>
    ⟨n3 _ (by simp) _ (QO.2 ⟨u,hu,by simp⟩),n3 _ (by simp) _ (QO.2 ⟨u,hu,by simp⟩),n3 _ (by simp) _ (QO.2 ⟨u,hu,by simp⟩),n3 _ (by simp) _ (QO.2 ⟨u,hu,by simp⟩)⟩
   rcases Qx.1 hx with aL | aL
   ·rcases Qx.1 hy with bd | bd
    ·exact absurd (by rw[aL,bd]) az
    ·rw[aL];exact far y bd
   ·rcases Qx.1 hy with bd | bd
    ·obtain⟨a,b,c,d⟩:=far x aL
     rw[bd]
     exact⟨a.symm,c.symm,b.symm,d.symm⟩
    ·exact ih n2 aL bd
 exact key PL h.ids hx hy
theorem Y5.more{A M lim:Nat}{d:List Sp}{s:St}{PL:List Pr}{m:List (Int × Nat)}(h:Y5 A M lim d s PL m){e:En}{p i n2:Nat}{s':St}{x:Pr}(hx:x∈PL)(hq:x.e.prop=e.prop)
  (gA:s'.get A=some (.map (esP PL))) (gM:s'.get M=some (.map (esM (YH e.leaf m))))
  (g1:s'.get x.id=some (.row (YX x.e (.own n2 0 (x.cl.length+1) 2 none (x.cl.length+1)) x.p x.i))) (g2:s'.get n2=some (.row (V9 (x.cl++[(e.leaf,e.ver)])))) (eo:s.next<=n2) (h2:n2 < s'.next)
  (hk:∀ k,k < s.next->k≠A->k≠M->k≠x.id->k≠x.cid->s'.get k=s.get k):Y5 A M lim (d++[(p,i,e)]) s' (PL.map (Pr.more e.prop (e.leaf,e.ver) n2)) (YH e.leaf m):=by
 obtain⟨l1,l2,l3⟩:=h.lim
 have ql:e.prop∈V6 (RA d):=by rw[<-h.prs,<-hq];exact Q6.2 ⟨x,hx,rfl⟩
 have ju:∀ y∈PL,y.e.prop=e.prop->y=x:=by
  have key:∀ l:List Pr,(l.map fun x=>x.e.prop).Nodup->∀ a∈l,∀ b∈l,a.e.prop=b.e.prop->a=b:=by
   intro l
   induction l with
   | nil=>intro _ a ha;simp at ha
   | cons z l ih=>
    intro hn a ha b hb ek
    rw[Q4,Zz] at hn
    rcases Qx.1 ha with li | li
    ·rcases Qx.1 hb with cF | cF
     ·rw[li,cF]
     ·exact absurd (Q6.2 ⟨b,cF,by rw[<-ek,li]⟩) hn.1
    ·rcases Qx.1 hb with cF | cF
     ·exact absurd (Q6.2 ⟨a,li,by rw[ek,cF]⟩) hn.1
     ·exact ih hn.2 a li b cF ek
  intro y hy fH
  exact key PL (by rw[h.prs];exact Wu _) y hy x hx (fH.trans hq.symm)
 obtain⟨xa,xb,xc,xd,xf,xg,xu,xv⟩:=h.one x hx
 refine⟨?_,gM,fun q=>?_,?_,fun y' ir=>?_,?_,l1,l2,by omega⟩
 ·rw[gA];unfold esP
  rw[Xq]
  refine Xn some (Xn AO.map (QX fun y _=>?_))
  simp only[Function.comp,(Pr.more_e _ _ _ y).1,(Pr.more_e _ _ _ y).2.1]
 ·rw[Uk,cntM_bump,h.cnt,cntE_snoc]
 ·rw[Uk,Yp,Qm (by simpa using ql),Xq,<-h.prs]
  refine QX fun y _=>?_
  simp only[Function.comp,(Pr.more_e _ _ _ y).1]
 ·obtain⟨y,hy,rfl⟩:=Q6.1 ir
  rw[Uk]
  by_cases fH:y.e.prop=e.prop
  ·obtain rfl:=ju y hy fH
   have hm:y.more e.prop (e.leaf,e.ver) n2={ y with cl:=y.cl++[(e.leaf,e.ver)],cid:=n2 }:=by unfold Pr.more;rw[Qm fH]
   rw[hm]
   refine⟨find_snoc xa,?_,?_,g2,xf,by show lim<=n2;omega,by show y.id < s'.next;omega,h2⟩
   ·show y.cl++_=RK (RA d++[e]) y.e.prop
    rw[Tl,Qm fH.symm,<-xb]
   ·rw[g1];unfold Pr.row Pr.csl;simp
  ·have hm:y.more e.prop (e.leaf,e.ver) n2=y:=by unfold Pr.more;rw[Qe fH]
   rw[hm]
   obtain⟨a,b,c,d',f,g,u,v⟩:=h.one y hy
   obtain⟨z1,z2,z3,z4⟩:=h.ne hy hx (fun z=>fH (z.trans hq))
   refine⟨find_snoc a,?_,by rw[hk _ u (by omega) (by omega) z1 z2];exact c,by rw[hk _ v (by omega) (by omega) z3 z4];exact d',f,g,by omega,by omega⟩
   rw[Tl,Qe (fun z=>fH z.symm),QG];exact b
 ·have key:∀ l:List Pr,(∀ y∈l,y∈PL)->(l.flatMap fun x=>[x.id,x.cid]).Nodup->((l.map (Pr.more e.prop (e.leaf,e.ver) n2)).flatMap fun x=>[x.id,x.cid]).Nodup/\∀ a∈((l.map (Pr.more e.prop (e.leaf,e.ver) n2)).flatMap fun x=>[x.id,x.cid]),a∈(l.flatMap fun x=>[x.id,x.cid])\/a=n2/\∃ y∈l,y.e.prop=e.prop:=by
   intro l
   induction l with
   | nil=>intro _ _;simp
   | cons z l ih=>
    intro hl hn
    rw[Xa,QS] at hn
    obtain⟨n1,n3,n4⟩:=hn
    obtain⟨i1,i2⟩:=ih (fun y hy=>hl y (by simp[hy])) n3
    obtain⟨_,_,_,_,_,_,zu,zv⟩:=h.one z (hl z (by simp))
    have zB:z.id≠z.cid:=by simpa using n1
    have cK:∀ a∈(l.flatMap fun x=>[x.id,x.cid]),a < s.next:=fun a ha=>by
     obtain⟨y,hy,wZ⟩:=QO.1 ha
     obtain⟨_,_,_,_,_,_,yu,yv⟩:=h.one y (hl y (by simp[hy]))
     simp only[Qx,QI,Xh] at wZ
     rcases wZ with rfl | rfl<;>assumption
    rw[Q4,Xa]
    by_cases hz:z.e.prop=e.prop
    ·have hm:z.more e.prop (e.leaf,e.ver) n2={ z with cl:=z.cl++[(e.leaf,e.ver)],cid:=n2 }:=by unfold Pr.more;rw[Qm hz]
     rw[hm]
     have dU:∀ y∈l,y.e.prop≠e.prop:=fun y hy fH=>by
      have e1:=ju y (hl y (by simp[hy])) fH
      have e2:=ju z (hl z (by simp)) hz
      exact n4 z.id (by simp) y.id (QO.2 ⟨y,hy,by simp⟩) (by rw[e1,e2])
     refine⟨QS.2 ⟨by simp;omega,i1,fun a ha b hb ek=>?_⟩,fun a ha=>?_⟩
     ·simp only[Qx,QI,Xh] at ha
      rcases i2 b hb with bw|⟨_,y,hy,fH⟩
      ·rcases ha with ha | ha
       ·exact n4 z.id (by simp) b bw (by rw[<-ha];exact ek)
       ·have:=cK b bw;have ha:a=n2:=ha;omega
      ·exact dU y hy fH
     ·rcases QV.1 ha with ha | ha
      ·simp only[Qx,QI,Xh] at ha
       rcases ha with rfl | rfl
       ·left;simp
       ·right;exact⟨rfl,z,by simp,hz⟩
      ·rcases i2 a ha with ha|⟨rfl,y,hy,fH⟩
       ·left;simp[ha]
       ·exact absurd fH (dU y hy)
    ·have hm:z.more e.prop (e.leaf,e.ver) n2=z:=by unfold Pr.more;rw[Qe hz]
     rw[hm]
     refine⟨QS.2 ⟨n1,i1,fun a ha b hb ek=>?_⟩,fun a ha=>?_⟩
     ·rcases i2 b hb with bw|⟨rfl,_⟩
      ·exact n4 a ha b bw ek
      ·simp only[Qx,QI,Xh] at ha
       rcases ha with rfl | rfl<;>omega
     ·rcases QV.1 ha with ha | ha
      ·left;rw[Xa];exact XC _ ha
      ·rcases i2 a ha with ha|⟨rfl,y,hy,fH⟩
       ·left;rw[Xa];exact Zs _ ha
       ·right;exact⟨rfl,y,by simp[hy],fH⟩
  exact(key PL (fun _ hy=>hy) h.ids).1
end Go.AM.D32
namespace Go.AM
theorem below_eq{α:Type}:∀(f:Nat) (t:Tr α) (k n:Nat),n<=f->Tr.getN f (below k t) n=if n < k then Tr.getN f t n else none
 | f,.nil,k,n,_=>by simp only[below,Tr.getN_nil];split<;>rfl
 | 0,.node o l r,k,n,h=>by
  obtain rfl:n=0:=by omega
  simp only[below,Tr.getN,Tr.val]
  cases k with
  | zero=>rfl
  | succ k=>rw[Qm (by omega)];rfl
 | f+1,.node o l r,k,n,h=>by
  simp only[below]
  unfold Tr.getN
  by_cases gO:n=0
  ·subst gO
   simp only[Nat.beq,Qi,Tr.val]
   cases k with
   | zero=>rfl
   | succ k=>rw[Qm (by omega)];rfl
  ·have mA:n.beq 0=false:=by cases n<;>simp_all [Nat.beq]
   simp only[mA,Qq]
   have e2:(n.mod 2).beq 1=decide (n % 2=1):=by
    show (n % 2).beq 1=_
    by_cases h:n % 2=1
    ·simp[h]
    ·have:n % 2=0:=by omega
     simp[this,Nat.beq]
   have d2:∀ k:Nat,k.div 2=k / 2:=fun _=>rfl
   simp only[e2,d2,Zh]
   by_cases on:n % 2=1<;>simp only[on,Z3,decide_false,Qi,Qq,Tr.left,Tr.right]
   ·rw[below_eq f l _ _ (by omega)]
    by_cases hk:n < k
    ·rw[Qm hk,Qm (by omega)]
    ·rw[Qe hk,Qe (by omega)]
   ·rw[below_eq f r _ _ (by omega)]
    show (if n / 2 - 1 < (k - 1) / 2 then _ else none)=_
    by_cases hk:n < k
    ·rw[Qm hk,Qm (by omega)]
    ·rw[Qe hk,Qe (by omega)]
theorem cutSt_get(n id:Nat)(st:St)(k:Nat):(cutSt n id st).get k=if k=id then none else if k < n then st.get k else none:=by
 unfold cutSt St.get
 rw[Tr.get_set]
 by_cases h:k=id
 ·rw[Qm h,Qm h]
 ·rw[Qe h,Qe h]
  exact below_eq k st.tr n k (Qw _)
theorem TJ:∀(cl:List Nat) (f0:Fr) (F:Fr) (n:Nat),n∈cl->(cl.foldl (fun f n=>f.set n (some (AV.gen (ev f0 (.t n))))) F).get n=some (AV.gen (ev f0 (.t n)))
 | c::cl,f0,F,n,h=>by
  rw[Xt]
  by_cases hn:n∈cl
  ·exact TJ cl f0 _ n hn
  ·obtain rfl:n=c:=by
    rcases Qx.1 h with h | h
    ·exact h
    ·exact absurd h hn
   have out:∀(cl:List Nat) (F:Fr),n∉cl->(cl.foldl (fun f n=>f.set n (some (AV.gen (ev f0 (.t n))))) F).get n=F.get n:=by
    intro cl
    induction cl with
    | nil=>intro F _;rfl
    | cons c cl ih=>
     intro F h
     simp only[Qx,Z8] at h
     rw[Xt,ih _ h.2,Fr.get_set,Qe h.1]
   rw[out cl _ hn,Fr.get_set,Qm rfl]
theorem widen_out(f0:Fr):∀(cl:List Nat) (F:Fr) (n:Nat),n∉cl->(cl.foldl (fun f n=>f.set n (some (AV.gen (ev f0 (.t n))))) F).get n=F.get n
 | [],_,_,_=>rfl
 | c::cl,F,n,h=>by
  simp only[Qx,Z8] at h
  rw[Xt,widen_out f0 cl _ n h.2,Fr.get_set,Qe h.1]
theorem widen_ds(f0:Fr):∀(cl:List Nat) (F:Fr),(cl.foldl (fun f n=>f.set n (some (AV.gen (ev f0 (.t n))))) F).ds=F.ds
 | [],_=>rfl
 | c::cl,F=>by rw[Xt,widen_ds f0 cl];rfl
def ShOk(x:AV):Option Nat->Prop
 | none=>VR x=true
 | some k=>∃ cs:List AV,x=.agg cs/\cs.length=k/\cs.all VR=true
theorem ShOk.gen{x y:AV}{o:Option Nat}(hx:ShOk x o)(hy:ShOk y o):genOk x (AV.gen y)=true:=by
 cases o with
 | none=>
  have h1:VR x=true:=hx
  have h2:VR y=true:=hy
  cases y<;>first | exact h1 | (cases h2)
 | some k=>
  obtain⟨cs,rfl,h1,h2⟩:=hx
  obtain⟨ds,rfl,h3,h4⟩:=hy
  show (cs.length.beq (ds.map fun _=>AV.top).length&&cs.all VR&&(ds.map fun _=>AV.top).all Jg)=true
  have:(ds.map fun _=>AV.top).all Jg=true:=by rw[List.all_map];exact QB.2 fun _ _=>rfl
  rw[this,h2,Qu,h1,h3];simp
theorem mrange_run{Γ:RC}{Y:Vi}{n:Nat}{it nx more out:Nat}{cl:List Nat}{c:Vn}{ro:Option Nat}{fr:Fr}{st:St}{id m:Nat}{es:List (AV × AV)}{Q:List Nat->Fr->St->Prop}{G:Nat->Option AO}{N:Nat}{sh:Nat->Option Nat}
  (aW:fr.get it=some (.ptr id 0)) (aZ:st.get id=some (.iter m [])) (hm:st.get m=some (.fmap es)) (bB:it∈cl/\nx∈cl/\more∈cl) (fT:sh nx=none/\sh more=none)
  (h0:Q [] fr st)
  (fe:∀ ks i f s,i < es.length->i∉ks->(∀ j∈ks,j < es.length)->ks.Nodup->f.get it=some (.ptr id 0)->Q ks f s->∃ f' s',Vh Γ Y n c ro ((f.set nx (some .top)).set more (some .top)) (s.put id (.iter m (ks++[i])))=.norm f' s'/\f'.get it=some (.ptr id 0)/\s'.get id=some (.iter m (ks++[i]))/\Q (ks++[i]) f' s')
  (cU:∀ l f s,l.Perm (List.range es.length)->f.get it=some (.ptr id 0)->Q l f s->(∀ k,k∉cl->f.get k=fr.get k)/\f.ds=fr.ds/\(∀ k∈cl,k≠it->ShOk (ev f (.t k)) (sh k))/\s.next=N/\∀ k,k < st.next->k≠id->s.get k=G k):
  ∃ F S,Vh Γ Y n (.mrange it nx more out cl c) ro fr st=.exit out F S/\(∀ k,k∉cl->F.get k=fr.get k)/\F.ds=fr.ds/\S.next=N/\∀ k,k < st.next->k≠id->S.get k=G k:=by
 have run:∀(is ks:List Nat) (f:Fr) (s:St),(∀ j∈ks++is,j < es.length)->(ks++is).Nodup->f.get it=some (.ptr id 0)->Q ks f s->∃ f' s',JB (Vh Γ Y n c ro) it nx more id m is ks f s=some (f',s')/\f'.get it=some (.ptr id 0)/\Q (ks++is) f' s':=by
  intro is
  induction is with
  | nil=>intro ks f s _ _ hi hq;exact⟨f,s,rfl,hi,by rw[QG];exact hq⟩
  | cons i is ih=>
   intro ks f s am Pb hi hq
   have eO:i∉ks:=fun h=>by
    rw[QS] at Pb
    exact Pb.2.2 i h i (by simp) rfl
   obtain⟨f1,s1,e1,e2,e3,e4⟩:=fe ks i f s (am i (by simp)) eO (fun j hj=>am j (by simp[hj])) (QS.1 Pb).1 hi hq
   have hr:Tp (Vh Γ Y n c ro) it nx more id m (ks++[i]) f s=some (f1,s1):=by
    unfold Tp
    rw[e1]
    simp only[e2,e3]
    have hb:WQ (ks++[i]) (ks++[i])=true:=by
     have:∀ l:List Nat,WQ l l=true:=fun l=>by
      induction l with
      | nil=>rfl
      | cons x l ih=>simp[WQ,ih]
     exact this _
    simp only[QD,hb,Qy,Qi]
   obtain⟨f2,s2,g1,g2,g3⟩:=ih (ks++[i]) f1 s1 (by intro j hj;exact am j (by simpa using hj)) (by rw[Xb];exact Pb) e2 e4
   refine⟨f2,s2,?_,g2,by rw[Xb] at g3;exact g3⟩
   rw[JB,hr];exact g1
 have all:∀ l:List Nat,l.Perm (List.range es.length)->∃ f' s',JB (Vh Γ Y n c ro) it nx more id m l [] fr st=some (f',s')/\f'.get it=some (.ptr id 0)/\Q l f' s':=fun l hl=>by
  obtain⟨f',s',h1,h2,h3⟩:=run l [] fr st (fun j hj=>by have:=hl.mem_iff.1 hj;simpa using this) (hl.nodup_iff.2 ZY) aW h0
  exact⟨f',s',h1,h2,h3⟩
 obtain⟨f0,s0,r0,i0,q1⟩:=all _ (Xp _)
 obtain⟨z1,z2,z3,z4,z5⟩:=cU _ f0 s0 (Xp _) i0 q1
 have cH:∀ k∈cl,∀ l f s,l.Perm (List.range es.length)->f.get it=some (.ptr id 0)->Q l f s->ShOk (ev f (.t k)) (if k=it then none else sh k):=fun k hk l f s hl hi hq=>by
  by_cases h:k=it
  ·subst h
   rw[Qm rfl]
   show VR ((f.get k).getD .undef)=true
   rw[hi];rfl
  ·rw[Qe h];exact(cU l f s hl hi hq).2.2.1 k hk h
 have bc:RangeOk (Vh Γ Y n c ro) it nx more id m cl es.length fr (Wx cl f0) st (cutSt st.next id s0):=by
  intro l hl
  obtain⟨f,s,h1,h2,h3⟩:=all l hl
  obtain⟨y1,y2,y3,y4,y5⟩:=cU l f s hl h2 h3
  refine⟨f,s,h1,⟨fun k hk=>?_,fun k hk=>?_,?_⟩,?_,fun k o hk=>?_,rfl⟩
  ·unfold Wx;rw[widen_out _ _ _ _ hk,z1 k hk,y1 k hk]
  ·have:ev (Wx cl f0) (.t k)=AV.gen (ev f0 (.t k)):=by
    show ((Wx cl f0).get k).getD .undef=_
    unfold Wx;rw[TJ cl f0 f0 k hk];rfl
   rw[this]
   exact(cH k hk l f s hl h2 h3).gen (cH k hk _ f0 s0 (Xp _) i0 q1)
  ·unfold Wx;rw[widen_ds,z2,y2]
  ·show s0.next=s.next;rw[z4,y4]
  ·rw[cutSt_get] at hk
   by_cases e1:k=id
   ·rw[Qm e1] at hk;cases hk
   ·rw[Qe e1] at hk
    by_cases e2:k < st.next
    ·rw[Qm e2] at hk;rw[y5 k e2 e1,<-z5 k e2 e1];exact hk
    ·rw[Qe e2] at hk;cases hk
 have qm:∀ k,k∈cl->k≠it->sh k=none->Jg (ev (Wx cl f0) (.t k))=true:=fun k hk mI hs=>by
  have:ev (Wx cl f0) (.t k)=AV.gen (ev f0 (.t k)):=by
   show ((Wx cl f0).get k).getD .undef=_
   unfold Wx;rw[TJ cl f0 f0 k hk];rfl
  rw[this]
  have h:=z3 k hk mI
  rw[hs] at h
  have h:VR (ev f0 (.t k))=true:=h
  cases hv:ev f0 (.t k)<;>first | rfl | (rw[hv] at h;cases h)
 have ul:nx≠it\/Jg (ev (Wx cl f0) (.t nx))=true:=by
  by_cases h:nx=it
  ·right;subst h
   have:ev (Wx cl f0) (.t nx)=AV.gen (ev f0 (.t nx)):=by
    show ((Wx cl f0).get nx).getD .undef=_
    unfold Wx;rw[TJ cl f0 f0 nx bB.2.1];rfl
   rw[this];show Jg (AV.gen ((f0.get nx).getD .undef))=true;rw[i0];rfl
  ·exact .inl h
 have um:more≠it\/Jg (ev (Wx cl f0) (.t more))=true:=by
  by_cases h:more=it
  ·right;subst h
   have:ev (Wx cl f0) (.t more)=AV.gen (ev f0 (.t more)):=by
    show ((Wx cl f0).get more).getD .undef=_
    unfold Wx;rw[TJ cl f0 f0 more bB.2.2];rfl
   rw[this];show Jg (AV.gen ((f0.get more).getD .undef))=true;rw[i0];rfl
  ·exact .inl h
 have t1:Jg (ev (Wx cl f0) (.t nx))=true:=ul.elim (fun h=>qm nx bB.2.1 h fT.1) fun h=>h
 have t2:Jg (ev (Wx cl f0) (.t more))=true:=um.elim (fun h=>qm more bB.2.2 h fT.2) fun h=>h
 refine⟨Wx cl f0,cutSt st.next id s0,?_,fun k hk=>?_,?_,z4,fun k hk mI=>?_⟩
 ·show Te (Vh Γ Y n c ro) it nx more out cl fr st=_
  unfold Te
  rw[aW];simp only[aZ,hm,r0]
  rw[rangeB_ok.2 bc,t1,t2];rfl
 ·unfold Wx;rw[widen_out _ _ _ _ hk,z1 k hk]
 ·unfold Wx;rw[widen_ds,z2]
 ·rw[cutSt_get,Qe mI,Qm hk];exact z5 k hk mI
end Go.AM
namespace Go.AM.D32
open Go Go.AM
open Nat renaming reduceEqDiff -> rQ, reduceAdd -> rA
section
variable {Γ:Cg} {dst:Option Nat} {gd:Option (Nat × Bool)} {ms:List Vc} {fr:Fr} {st:St}
theorem JL{a b c d e}:Vj Γ (⟨dst,(Rz.lookup a b c d e),gd⟩::ms) fr st=RU Γ dst gd ms fr st (Rz.lookup a b c d e):=VE rfl
theorem nd_mapup{a b c d}:Vj Γ (⟨dst,(Rz.mapup a b c d),gd⟩::ms) fr st=RU Γ dst gd ms fr st (Rz.mapup a b c d):=VE rfl
theorem nd_mkmap:Vj Γ (⟨dst,(Rz.mkmap),gd⟩::ms) fr st=RU Γ dst gd ms fr st (Rz.mkmap):=VE rfl
theorem nd_rng{a}:Vj Γ (⟨dst,(Rz.rng a),gd⟩::ms) fr st=RU Γ dst gd ms fr st (Rz.rng a):=VE rfl
theorem nd_ent{a}:Vj Γ (⟨dst,(Rz.ent a),gd⟩::ms) fr st=RU Γ dst gd ms fr st (Rz.ent a):=VE rfl
theorem nd_clr{a b c}:Vj Γ (⟨dst,(Rz.clr a b c),gd⟩::ms) fr st=RU Γ dst gd ms fr st (Rz.clr a b c):=VE rfl
theorem nd_min{a b}:Vj Γ (⟨dst,(Rz.min a b),gd⟩::ms) fr st=RU Γ dst gd ms fr st (Rz.min a b):=VE rfl
end
theorem or2_run(n:Nat)(Y:Vi)(a b:Int)(st:St):R (n+4) Y 101 [.lst 2 [.int .i64 a,.int .i64 b] true] st=.ret (.int .i64 (JX a b)) st:=by
 unfold R
 rw[Js t101]
 unfold WK
 have aR:Nat.ble [AV.lst 2 [.int .i64 a,.int .i64 b] true].length m101.N=true:=by rfl
 rw[aR]
 simp only[Qi]
 have e0:∀ x:Int,(x != Int.ofNat 0)=decide (x≠0):=fun x=>by
  by_cases h:x=0
  ·subst h;rfl
  ·simp[h]
 have Rx:Nat.beq 0 0=true:=rfl
 have kK:Nat.beq 0 1=false:=rfl
 have jj:Nat.beq 1 0=false:=rfl
 have l0:VD 0 (AV.lst 2 [.int .i64 a,.int .i64 b] true)=true:=rfl
 have s0:Vr false .lss Z0 (ZI 2)=some (.bool true):=rfl
 have s1:Vr false .lss (ZI 1) (ZI 2)=some (.bool true):=rfl
 have s2:Vr false .lss (ZI 2) (ZI 2)=some (.bool false):=rfl
 have a0:Vr false .add Z0 (ZI 1)=some (ZI 1):=rfl
 have a1:Vr false .add (ZI 1) (ZI 1)=some (ZI 2):=rfl
 have i0:VC 1 (AV.lst 2 [.int .i64 a,.int .i64 b] true) Z0=some (.fptr [.int .i64 a,.int .i64 b] 0):=rfl
 have i1:VC 1 (AV.lst 2 [.int .i64 a,.int .i64 b] true) (ZI 1)=some (.fptr [.int .i64 a,.int .i64 b] 1):=rfl
 have d0:Vf false 1 st (.fptr [.int .i64 a,.int .i64 b] 0)=some (.int .i64 a):=rfl
 have d1:Vf false 1 st (.fptr [.int .i64 a,.int .i64 b] 1)=some (.int .i64 b):=rfl
 have ln:Wm st (AV.lst 2 [.int .i64 a,.int .i64 b] true)=some (ZI 2):=rfl
 have hx:∀ x:Int,(x=0/\(x != Int.ofNat 0)=false)\/(x≠0/\(x != Int.ofNat 0)=true):=fun x=>by
  rw[e0]
  by_cases h:x=0
  ·exact .inl ⟨h,by simp[h]⟩
  ·exact .inr ⟨h,by simp[h]⟩
 clear e0
 rcases hx a with⟨ha,na⟩|⟨ha,na⟩
 ·have ho:JX a b=b:=by simp[JX,ha]
  rw[ho];clear ho ha
  rcases hx b with⟨hc,nc⟩|⟨hc,nc⟩
  ·have ho:b=Int.ofNat 0:=hc
   have hg:FR.ret (AV.int .i64 b) st=FR.ret Z0 st:=by rw[ho]
   rw[hg];clear hg ho hc
   simp only[rQ,↓reduceIte,Q9,reduceCtorEq,Qg,Ql,Qi,Qq,Fr.set_ds,Rx,kK,jj,m101,Vh,Vj,RD,R8,ev,Vo,Fr.put,Fr.get_set,Vv,Rz.isDefer,R4.of,WY,VO,Vg,Vu,V0,Fr.nil,Vx,l0,ln,s0,s1,s2,a0,a1,i0,i1,d0,d1,Yk,na,nc]
  ·clear hc
   simp only[rQ,↓reduceIte,Q9,reduceCtorEq,Qg,Ql,Qi,Qq,Fr.set_ds,Rx,kK,jj,m101,Vh,Vj,RD,R8,ev,Vo,Fr.put,Fr.get_set,Vv,Rz.isDefer,R4.of,WY,VO,Vg,Vu,V0,Fr.nil,Vx,l0,ln,s0,s1,s2,a0,a1,i0,i1,d0,d1,Yk,na,nc]
 ·have ho:JX a b=a:=by simp[JX,ha]
  rw[ho];clear ho ha
  simp only[rQ,↓reduceIte,Q9,reduceCtorEq,Qg,Ql,Qi,Qq,Fr.set_ds,Rx,kK,jj,m101,Vh,Vj,RD,R8,ev,Vo,Fr.put,Fr.get_set,Vv,Rz.isDefer,R4.of,WY,VO,Vg,Vu,V0,Fr.nil,Vx,l0,ln,s0,s1,s2,a0,a1,i0,i1,d0,d1,Yk,na]
theorem build2v(a b:AV)(ha:a.cells=[a]:=by rfl)(hb:b.cells=[b]:=by rfl):VN [Z0,Z0] [(0,1,a),(1,1,b)]=some [a,b]:=by
 simp[VN,ha,hb,setCells,Nat.ble]
theorem ld2_0(st:St)(x y:AV):Vf false 1 st (.fptr [x,y] 0)=some x:=rfl
theorem ld2_a(st:St)(x y:AV):Vf true 2 st (.fptr [x,y] 0)=some (.agg [x,y]):=rfl
noncomputable def wg102_0:List Vc:=[ZM 6 (ZC 0)]
noncomputable def wg102_1:List Vc:=[ZV 7 0,ZV 8 1,ZV 9 2,ZX 10 152 [(.t 7),(.t 8),(.t 9)],ZV 6 10]
noncomputable def wf102:Vm:=⟨11,(ZQ wg102_0 (ZR wg102_1)),[.t 6]⟩
theorem t102:Ry 102=some wf102:=by kernel_rfl
theorem lists102_run{Y:Vi}{aP aM aX aS:Bool}{xs ys:List Tm}(dg:aP=true->xs=[])(eo:aX=true->ys=[])(hb:xs.length<=4611686018427387904)(hx:Tm.okL xs)(hy:Tm.okL ys)(m:Nat)(hn:Tm.fzL xs+xs.length+2 < m)(st:St):
  ∃ af,R (m+1) Y 102 [V7 aP aM (Tm.cellsL xs),V7 aX aS (Tm.cellsL ys),.func (.func 103) [] []] st=.ret (.int .i64 (Wr xs ys)) af/\Vd st af:=by
 obtain⟨q,rfl⟩:∃ q,m=q+1:=⟨m - 1,by omega⟩
 obtain⟨af,h,hk⟩:=cf_runE (n:=q) (Y:=Y) (aM:=aM) (aS:=aS) (aP:=aP) (aX:=aX) (cl:=Tm.cells) (xs:=xs) (ys:=ys) (c:=cmpT) (g:=103) (f:=152) (zs:=[Z0,Z0,.nilsl]) t152 rfl (fun x _=>x.cells3) (fun y _=>y.cells3) dg eo (by omega)
  (fun x aK y ir=>sigCompare x y q Y (Tm.okL_mem hx x aK) (Tm.okL_mem hy y ir) (by have:=Tm.fzL_mem aK;omega)) (by omega) st
 rw[UK,<-Tm.cellsL_eq,<-Tm.cellsL_eq] at h
 have h':((gT (q+1)).cg Y).fn 152 [V7 aP aM (Tm.cellsL xs),V7 aX aS (Tm.cellsL ys),.func (.func 103) [] []] st=.ret (.int .i64 (Wr xs ys)) af:=h
 generalize V7 aP aM (Tm.cellsL xs)=A at *
 generalize V7 aX aS (Tm.cellsL ys)=B at *
 obtain⟨fA1,au⟩:∃ fA,fA=Vo 0 [A,B,.func (.func 103) [] []] Fr.nil:=⟨_,rfl⟩
 have gA1_0:=R9 au 0
 have gA1_1:=R9 au 1
 have gA1_2:=R9 au 2
 have dA1:fA1.ds=[]:=by rw[au];rfl
 obtain⟨J2,H2⟩:∃ aa,ar (q+1) Y wg102_0 fA1 st=.ok aa st:=⟨_,by simp only[Rw,rQ,rA,wg102_0]<;>rfl⟩
 obtain⟨J3,H3,O3_6⟩:∃ aa,ar (q+1) Y wg102_1 J2 st=.ok aa af/\aa.get 6=some (.int .i64 (Wr xs ys)):=⟨_,by simp only[Rw,rQ,rA,(ag H2 gA1_0),(ag H2 gA1_1),(ag H2 gA1_2),wg102_1,h']<;>rfl,gh⟩
 refine⟨_,Ve (mf:=wf102) (fr:=J3) t102 rfl (.inl ?q3) (ad H3 (ad H2 dA1)) (by simp only[wf102,Rw,O3_6]),hk⟩
 case q3=>
  rw[<-au]
  simp only[Rw,rQ,rA,wf102,Rx,R5,R6,R7,H2,H3]
noncomputable def wg56_0:List Vc:=[ZO 2 (.box true (.t 0)),ZO 3 (.box true (.t 1)),ZM 4 (ZC 0)]
noncomputable def wg56_1:List (Vc × Nat):=[(ZA 5 0 2,0),(ZL 6 5,1),(ZA 7 0 3,0),(ZL 8 7,4),(ZX 9 79 [(.t 6),(.t 8)],15),(ZA 10 1 2,0),(ZL 11 10,32),(ZA 12 1 3,0),(ZL 13 12,128),(ZO 14 (.call (.c (.func (.func 102) [] [])) [(.t 11),(.t 13),(.c (.func (.func 103) [] []))]),511),(ZO 15 (.bslice 2 [Z0,Z0] [(0,1,(.t 9)),(1,1,(.t 14))]),1023),(ZX 16 101 [(.t 15)],2047),(ZV 4 16,4095)]
noncomputable def wf56:Vm:=⟨17,(ZQ wg56_0 (.seq (.draw wg56_1 [(6,some 4),(6,some 9),(8,some 4),(8,some 9)]) .ret)),[.t 4]⟩
theorem t56:Ry 56=some wf56:=by kernel_rfl
theorem labels_run{Y:Vi}{g1 g2:Int}{aP aM aX aS:Bool}{xs ys:List Tm}(dg:aP=true->xs=[])(eo:aX=true->ys=[])(hb:xs.length<=4611686018427387904)(hx:Tm.okL xs)(hy:Tm.okL ys)(m:Nat)(hn:Tm.fzL xs+xs.length+6 < m)(st:St):
  ∃ af,R (m+1) Y 56 [.agg [.int .i64 g1,V7 aP aM (Tm.cellsL xs)],.agg [.int .i64 g2,V7 aX aS (Tm.cellsL ys)]] st=.ret (.int .i64 (JX (VS g1 g2) (Wr xs ys))) af/\Vd st af:=by
 obtain⟨q,rfl⟩:∃ q,m=q+4:=⟨m - 4,by omega⟩
 obtain⟨af,h,hk⟩:=lists102_run (Y:=Y) (aM:=aM) (aS:=aS) dg eo hb hx hy (q+3) (by omega) st
 have c1:((gT (q+4)).cg Y).fn 79 [.int .i64 g1,.int .i64 g2] st=.ret (.int .i64 (VS g1 g2)) st:=cmpI_at (by omega) Y .i64 g1 g2 st
 have c2:((gT (q+4)).cg Y).fn 102 [V7 aP aM (Tm.cellsL xs),V7 aX aS (Tm.cellsL ys),.func (.func 103) [] []] st=.ret (.int .i64 (Wr xs ys)) af:=h
 have c3:((gT (q+4)).cg Y).fn 101 [.lst 2 [.int .i64 (VS g1 g2),.int .i64 (Wr xs ys)] true] af=.ret (.int .i64 (JX (VS g1 g2) (Wr xs ys))) af:=or2_run q Y _ _ af
 have bu:=build2v (.int .i64 (VS g1 g2)) (.int .i64 (Wr xs ys))
 generalize V7 aP aM (Tm.cellsL xs)=A at *
 generalize V7 aX aS (Tm.cellsL ys)=B at *
 obtain⟨fA1,au⟩:∃ fA,fA=Vo 0 [.agg [.int .i64 g1,A],.agg [.int .i64 g2,B]] Fr.nil:=⟨_,rfl⟩
 have gA1_0:=R9 au 0
 have gA1_1:=R9 au 1
 have dA1:fA1.ds=[]:=by rw[au];rfl
 obtain⟨J2,H2,O2_2,O2_3⟩:∃ aa,ar (q+4) Y wg56_0 fA1 st=.ok aa st/\aa.get 2=some (.fptr [.int .i64 g1,A] 0)/\aa.get 3=some (.fptr [.int .i64 g2,B] 0):=⟨_,by simp only[Rw,rQ,rA,gA1_0,gA1_1,wg56_0]<;>rfl,gn (gn gh),gn gh⟩
 obtain⟨J3,H3,K3,O3_4⟩:∃ aa,VK ((gT (q+4)).cg Y) wg56_1 [(6,some 4),(6,some 9),(8,some 4),(8,some 9)] J2 st=.ok aa af/\Kp [0,1,2,3] J2 aa/\aa.get 4=some (.int .i64 (JX (VS g1 g2) (Wr xs ys))):=⟨_,adraw_lin rfl rfl (by simp only[Rw,rQ,rA,O2_2,O2_3,wg56_1,RI,ld2_0,ld2_1,c1,c2,c3,bu]<;>rfl),Kp.refl.s.s.s.s.s.s.s.s.s.s.s.s.s,gh⟩
 have W3:=K3.1.trans (ad H2 dA1)
 refine⟨_,Ve (mf:=wf56) (fr:=J3) t56 rfl (.inl ?q3) W3 (by simp only[wf56,Rw,O3_4]),hk⟩
 case q3=>
  rw[<-au]
  simp only[Rw,rQ,rA,wf56,Rx,R5,R6,R7,H2,H3]
noncomputable def wg58_0:List Vc:=[ZO 2 (.box true (.t 0)),ZO 3 (.box true (.t 1)),ZM 4 (ZB false)]
noncomputable def wg58_1:List Vc:=[ZK 5 2 2,ZK 6 2 3,ZX 7 56 [(.t 5),(.t 6)],ZO 8 (.bin false .eql (.t 7) (ZC 0)),ZV 4 8]
noncomputable def wf58:Vm:=⟨9,(ZQ wg58_0 (ZR wg58_1)),[.t 4]⟩
theorem t58:Ry 58=some wf58:=by kernel_rfl
theorem sameLabel_run{Y:Vi}{g1 g2:Int}{aP aM aX aS:Bool}{xs ys:List Tm}(dg:aP=true->xs=[])(eo:aX=true->ys=[])(hb:xs.length<=4611686018427387904)(hx:Tm.okL xs)(hy:Tm.okL ys)(m:Nat)(hn:Tm.fzL xs+xs.length+8 < m)(st:St):
  ∃ af,R (m+1) Y 58 [.agg [.int .i64 g1,V7 aP aM (Tm.cellsL xs)],.agg [.int .i64 g2,V7 aX aS (Tm.cellsL ys)]] st=.ret (.bool (JX (VS g1 g2) (Wr xs ys)==0)) af/\Vd st af:=by
 obtain⟨q,rfl⟩:∃ q,m=q+1:=⟨m - 1,by omega⟩
 obtain⟨af,h,hk⟩:=labels_run (Y:=Y) (g1:=g1) (g2:=g2) (aM:=aM) (aS:=aS) dg eo hb hx hy q (by omega) st
 have c1:((gT (q+1)).cg Y).fn 56 [.agg [.int .i64 g1,V7 aP aM (Tm.cellsL xs)],.agg [.int .i64 g2,V7 aX aS (Tm.cellsL ys)]] st=.ret (.int .i64 (JX (VS g1 g2) (Wr xs ys))) af:=h
 generalize V7 aP aM (Tm.cellsL xs)=A at *
 generalize V7 aX aS (Tm.cellsL ys)=B at *
 have eq:Vr false .eql (.int .i64 (JX (VS g1 g2) (Wr xs ys))) Z0=some (.bool (JX (VS g1 g2) (Wr xs ys)==0)):=rfl
 obtain⟨fA1,au⟩:∃ fA,fA=Vo 0 [.agg [.int .i64 g1,A],.agg [.int .i64 g2,B]] Fr.nil:=⟨_,rfl⟩
 have gA1_0:=R9 au 0
 have gA1_1:=R9 au 1
 have dA1:fA1.ds=[]:=by rw[au];rfl
 obtain⟨J2,H2,O2_2,O2_3⟩:∃ aa,ar (q+1) Y wg58_0 fA1 st=.ok aa st/\aa.get 2=some (.fptr [.int .i64 g1,A] 0)/\aa.get 3=some (.fptr [.int .i64 g2,B] 0):=⟨_,by simp only[Rw,rQ,rA,gA1_0,gA1_1,wg58_0]<;>rfl,gn (gn gh),gn gh⟩
 obtain⟨J3,H3,O3_4⟩:∃ aa,ar (q+1) Y wg58_1 J2 st=.ok aa af/\aa.get 4=some (.bool (JX (VS g1 g2) (Wr xs ys)==0)):=⟨_,by simp only[Rw,rQ,rA,O2_2,O2_3,wg58_1,ld2_a,c1,eq]<;>rfl,gh⟩
 refine⟨_,Ve (mf:=wf58) (fr:=J3) t58 rfl (.inl ?q3) (ad H3 (ad H2 dA1)) (by simp only[wf58,Rw,O3_4]),hk⟩
 case q3=>
  rw[<-au]
  simp only[Rw,rQ,rA,wf58,Rx,R5,R6,R7,H2,H3]
noncomputable def wg41_0:List Vc:=[ZM 4 (ZB false)]
noncomputable def wg41_1:List Vc:=[ZV 6 0,ZN 7 6,ZV 8 1,ZN 9 8,ZO 10 (.bin false .neq (.t 7) (.t 9))]
noncomputable def wg41_2:List Vc:=[ZM 4 (ZB false)]
noncomputable def wg41_3:List Vc:=[ZV 11 0,ZN 12 11,ZM 13 (ZC 0)]
noncomputable def TG:List Vc:=[ZO 14 (.bin false .lss (.t 13) (.t 12))]
noncomputable def wg41_5:List Vc:=[ZV 15 13,ZV 5 15]
noncomputable def wg41_6:List (Vc × Nat):=[(ZV 16 0,0),(ZV 17 5,0),(ZP 18 1 16 17,3),(ZL 19 18,7),(ZV 20 1,0),(ZV 21 5,0),(ZP 22 1 20 21,48),(ZL 23 22,112),(ZO 24 (.bin false .neq (.t 19) (.t 23)),255)]
noncomputable def wg41_7:List Vc:=[ZM 4 (ZB false)]
noncomputable def wg41_8:List Vc:=[ZO 25 (.bin false .add (.t 13) (ZC 1)),ZV 13 25]
noncomputable def wg41_9:List Vc:=[ZM 4 (ZB true)]
noncomputable def Kj:Vn:=(ZQ TG (.seq (.cond (.t 14) .skip (.exit 0)) (.seq (.block 1 (ZQ wg41_5 (.seq (.draw wg41_6 []) (.cond (.t 24) (ZR wg41_7) .skip)))) (.region wg41_8))))
noncomputable def wf41:Vm:=⟨26,(ZQ wg41_0 (.seq (ZQ wg41_1 (.cond (.t 10) (ZR wg41_2) .skip)) (.seq (ZQ wg41_3 (.block 0 (.loop Kj))) (ZR wg41_9)))),[.t 4]⟩
theorem t41:Ry 41=some wf41:=by kernel_rfl
theorem equal41_run{F:Nat->Prop}{st:St}{sl tl:AV}{xs ys:List Int}(hx:RE F st sl xs)(hy:RE F st tl ys)(m:Nat)(Y:Vi)(hn:xs.length < m):R (m+1) Y 41 [sl,tl] st=.ret (.bool (decide (xs=ys))) st:=by
 have n1:=RE.len hx
 have n2:=RE.len hy
 have hB:=RE.bound hx
 have az:=neqN xs.length ys.length
 by_cases hl:xs.length=ys.length
 ·rw[Qs hl] at az
  have hL:∀(fr:Fr),fr.ds=[]->fr.get 0=some sl->fr.get 1=some tl->fr.get 12=some (ZI xs.length)->fr.get 13=some Z0->∃ FR,FR.ds=[] ∧
    ((Vx (ac m Y Kj none) m fr st=.exit 0 FR st/\xs=ys)\/(Vx (ac m Y Kj none) m fr st=.ret FR st/\FR.get 4=some (.bool false)/\xs≠ys)):=by
   intro fr d0 g0 g1 cw eR
   refine Ws (B:=ac m Y Kj none) (N:=xs.length) (R3:=fun k fr ai=>fr.ds=[]/\fr.get 0=some sl/\fr.get 1=some tl/\fr.get 12=some (ZI xs.length)/\fr.get 13=some (ZI k)/\ai=st/\xs.take k=ys.take k)
    (Out:=fun r=>∃ FR,FR.ds=[]/\((r=.exit 0 FR st/\xs=ys)\/(r=.ret FR st/\FR.get 4=some (.bool false)/\xs≠ys))) ?_ xs.length 0 fr st m (by omega) (by omega) ⟨d0,g0,g1,cw,eR,rfl,rfl⟩
   intro k fr ai hk ⟨d0,g0,g1,cw,eR,e1,aA⟩
   subst e1
   have am:=Wt k xs.length
   by_cases aQ:k < xs.length
   ·have aL:xs[k]?=some xs[k]:=Qn aQ
    have bd:ys[k]?=some ys[k]:=Qn (by omega)
    generalize xs[k]=x at aL
    generalize ys[k]=y at bd
    obtain⟨px,ix,ef⟩:=RE.at hx aL
    obtain⟨py,iy,jZ⟩:=RE.at hy bd
    have ix:VC 1 sl (ZI k)=some px:=ix
    have iy:VC 1 tl (ZI k)=some py:=iy
    have ef:=ef ai (Vs.refl _ _)
    have jZ:=jZ ai (Vs.refl _ _)
    have jw:=Yk x y
    have aU:=WC (i:=k) (by omega)
    rw[Qs aQ] at am
    cases hC:(x != y) with
    | true=>
     rw[hC] at jw
     have dU:xs≠ys:=fun h=>by
      subst h;rw[aL] at bd;injection bd with bd;subst bd;simp at hC
     obtain⟨J1,H1,O1_14⟩:∃ aa,ar m Y TG fr ai=.ok aa ai/\aa.get 14=some (.bool true):=⟨_,by simp only[Rw,rQ,rA,cw,eR,TG,am]<;>rfl,gh⟩
     obtain⟨J2,H2,O2_5⟩:∃ aa,ar m Y wg41_5 J1 ai=.ok aa ai/\aa.get 5=some (ZI k):=⟨_,by simp only[Rw,rQ,rA,(ag H1 eR),wg41_5]<;>rfl,gh⟩
     obtain⟨J3,H3,K3,O3_24⟩:∃ aa,VK ((gT m).cg Y) wg41_6 [] J2 ai=.ok aa ai/\Kp [0,1,12,13,14,5] J2 aa/\aa.get 24=some (.bool true):=⟨_,Wj rfl (by simp only[Rw,rQ,rA,(ag H2 (ag H1 g0)),(ag H2 (ag H1 g1)),O2_5,wg41_6,ix,ef,iy,jZ,jw]<;>rfl),Kp.refl.s.s.s.s.s.s.s.s.s,gh⟩
     have W3:=K3.1.trans (ad H2 (ad H1 d0))
     obtain⟨J4,H4,O4_4⟩:∃ aa,ar m Y wg41_7 J3 ai=.ok aa ai/\aa.get 4=some (.bool false):=⟨_,by simp only[Rw,rQ,rA,wg41_7]<;>rfl,gh⟩
     have dr:ac m Y Kj none fr ai=.ret J4 ai:=by
      simp only[Rw,rQ,rA,Kj,Rx,R5,R6,R7,H1,H2,H3,H4,O1_14,O3_24]
     rw[dr]
     exact⟨_,(ad H4 W3),.inr ⟨rfl,O4_4,dU⟩⟩
    | false=>
     rw[hC] at jw
     have jx:xs.take (k+1)=ys.take (k+1):=by
      rw[QT,QT,aA,aL,bd]
      have:x=y:=by simpa using hC
      rw[this]
     obtain⟨J5,H5,O5_14⟩:∃ aa,ar m Y TG fr ai=.ok aa ai/\aa.get 14=some (.bool true):=⟨_,by simp only[Rw,rQ,rA,cw,eR,TG,am]<;>rfl,gh⟩
     have V5_13:=ag H5 eR
     obtain⟨J6,H6,O6_5⟩:∃ aa,ar m Y wg41_5 J5 ai=.ok aa ai/\aa.get 5=some (ZI k):=⟨_,by simp only[Rw,rQ,rA,V5_13,wg41_5]<;>rfl,gh⟩
     have V6_0:=ag H6 (ag H5 g0)
     have V6_1:=ag H6 (ag H5 g1)
     obtain⟨J7,H7,K7,O7_24⟩:∃ aa,VK ((gT m).cg Y) wg41_6 [] J6 ai=.ok aa ai/\Kp [0,1,12,13,14,5] J6 aa/\aa.get 24=some (.bool false):=⟨_,Wj rfl (by simp only[Rw,rQ,rA,V6_0,V6_1,O6_5,wg41_6,ix,ef,iy,jZ,jw]<;>rfl),Kp.refl.s.s.s.s.s.s.s.s.s,gh⟩
     have V7_0:=K7.g 0 V6_0
     have V7_1:=K7.g 1 V6_1
     have V7_12:=K7.g 12 (ag H6 (ag H5 cw))
     have V7_13:=K7.g 13 (ag H6 V5_13)
     have W7:=K7.1.trans (ad H6 (ad H5 d0))
     obtain⟨J8,H8,O8_13⟩:∃ aa,ar m Y wg41_8 J7 ai=.ok aa ai/\aa.get 13=some (ZI ((k+1))):=⟨_,by simp only[Rw,rQ,rA,V7_13,wg41_8,aU]<;>rfl,gh⟩
     have jy:ac m Y Kj none fr ai=.norm J8 ai:=by
      simp only[Rw,rQ,rA,Kj,Rx,R5,R6,R7,H5,H6,H7,H8,O5_14,O7_24]
     rw[jy]
     exact⟨aQ,(ad H8 W7),(ag H8 V7_0),(ag H8 V7_1),(ag H8 V7_12),O8_13,rfl,jx⟩
   ·rw[Qp aQ] at am
    have ce:k=xs.length:=by omega
    rw[ce,QH,hl,QH] at aA
    obtain⟨J9,H9,O9_14⟩:∃ aa,ar m Y TG fr ai=.ok aa ai/\aa.get 14=some (.bool false):=⟨_,by simp only[Rw,rQ,rA,cw,eR,TG,am]<;>rfl,gh⟩
    have lj:ac m Y Kj none fr ai=.exit 0 J9 ai:=by
     simp only[Rw,rQ,rA,Kj,Rx,R5,R6,R7,H9,O9_14]
    rw[lj]
    exact⟨_,(ad H9 d0),.inl ⟨rfl,aA⟩⟩
  obtain⟨fA10,cX⟩:∃ fA,fA=Vo 0 [sl,tl] Fr.nil:=⟨_,rfl⟩
  have gA10_0:=R9 cX 0
  have gA10_1:=R9 cX 1
  have dA10:fA10.ds=[]:=by rw[cX];rfl
  obtain⟨J11,H11⟩:∃ aa,ar m Y wg41_0 fA10 st=.ok aa st:=⟨_,by simp only[Rw,rQ,rA,wg41_0]<;>rfl⟩
  have V11_0:=ag H11 gA10_0
  have V11_1:=ag H11 gA10_1
  obtain⟨J12,H12,O12_10⟩:∃ aa,ar m Y wg41_1 J11 st=.ok aa st/\aa.get 10=some (.bool false):=⟨_,by simp only[Rw,rQ,rA,V11_0,V11_1,wg41_1,n1,n2,az,Qc]<;>rfl,gh⟩
  have V12_0:=ag H12 V11_0
  obtain⟨J13,H13,O13_12,O13_13⟩:∃ aa,ar m Y wg41_3 J12 st=.ok aa st/\aa.get 12=some (ZI xs.length)/\aa.get 13=some Z0:=⟨_,by simp only[Rw,rQ,rA,V12_0,wg41_3,n1]<;>rfl,gn gh,gh⟩
  obtain⟨FR,dF,hL⟩:=hL J13 (ad H13 (ad H12 (ad H11 dA10))) (ag H13 V12_0) (ag H13 (ag H12 V11_1)) O13_12 O13_13
  rcases hL with⟨hL,he⟩|⟨hL,F4,he⟩
  ·rw[Qs he]
   obtain⟨J14,H14,O14_4⟩:∃ aa,ar m Y wg41_9 FR st=.ok aa st/\aa.get 4=some (.bool true):=⟨_,by simp only[Rw,rQ,rA,wg41_9]<;>rfl,gh⟩
   refine Ve (mf:=wf41) (fr:=J14) t41 rfl (.inl ?q14) (ad H14 dF) (by simp only[wf41,Rw,O14_4])
   case q14=>
    rw[<-cX]
    simp only[Rw,rQ,rA,wf41,Rx,R5,R6,R7,H11,H12,H13,hL,H14,O12_10]
  ·rw[Qp he]
   refine Ve (mf:=wf41) (fr:=FR) t41 rfl (.inl ?q15) dF (by simp only[wf41,Rw,F4])
   case q15=>
    rw[<-cX]
    simp only[Rw,rQ,rA,wf41,Rx,R5,R6,R7,H11,H12,H13,hL,O12_10]
 ·rw[Qp hl] at az
  rw[Qp (fun h=>hl (by rw[h]))]
  obtain⟨fA16,cO⟩:∃ fA,fA=Vo 0 [sl,tl] Fr.nil:=⟨_,rfl⟩
  have gA16_0:=R9 cO 0
  have gA16_1:=R9 cO 1
  have dA16:fA16.ds=[]:=by rw[cO];rfl
  obtain⟨J17,H17⟩:∃ aa,ar m Y wg41_0 fA16 st=.ok aa st:=⟨_,by simp only[Rw,rQ,rA,wg41_0]<;>rfl⟩
  obtain⟨J18,H18,O18_10⟩:∃ aa,ar m Y wg41_1 J17 st=.ok aa st/\aa.get 10=some (.bool true):=⟨_,by simp only[Rw,rQ,rA,(ag H17 gA16_0),(ag H17 gA16_1),wg41_1,n1,n2,az,Qb]<;>rfl,gh⟩
  obtain⟨J19,H19,O19_4⟩:∃ aa,ar m Y wg41_2 J18 st=.ok aa st/\aa.get 4=some (.bool false):=⟨_,by simp only[Rw,rQ,rA,wg41_2]<;>rfl,gh⟩
  refine Ve (mf:=wf41) (fr:=J19) t41 rfl (.inl ?q19) (ad H19 (ad H18 (ad H17 dA16))) (by simp only[wf41,Rw,O19_4])
  case q19=>
   rw[<-cO]
   simp only[Rw,rQ,rA,wf41,Rx,R5,R6,R7,H17,H18,H19,O18_10]
noncomputable def wg76_0:List Vc:=[ZO 3 (.box true (.t 1)),ZO 4 (.alloc [Z0,Z0,Z0])]
noncomputable def wg76_1:List Vc:=[ZV 5 0,ZO 6 (.aaddr 2 1 (.t 3) (ZC 0)),ZL 7 6,ZO 8 (.aaddr 2 1 (.t 3) (ZC 1)),ZL 9 8,ZO 10 (.build [Z0,Z0,Z0] [(0,1,(.t 5)),(1,1,(.t 7)),(2,1,(.t 9))]),ZS 3 4 10]
noncomputable def wf76:Vm:=⟨11,(ZQ wg76_0 (ZR wg76_1)),[.cell 4 true 3]⟩
theorem t76:Ry 76=some wf76:=by kernel_rfl
theorem bad_run(k p i:Int)(m:Nat)(Y:Vi)(st:St):∃ af,R (m+1) Y 76 [.int .i64 k,.agg [.int .i64 p,.int .i64 i]] st=.ret (.agg [.int .i64 k,.int .i64 p,.int .i64 i]) af/\Vd st af:=by
 have bu:=build3 (.int .i64 k) (.int .i64 p) (.int .i64 i)
 have a0:UC 2 1 (.fptr [.int .i64 p,.int .i64 i] 0) Z0=some (.fptr [.int .i64 p,.int .i64 i] 0):=rfl
 have a1:UC 2 1 (.fptr [.int .i64 p,.int .i64 i] 0) (ZI 1)=some (.fptr [.int .i64 p,.int .i64 i] 1):=rfl
 have bj:Vt 3 (st.new (.row [Z0,Z0,Z0])) (.ptr st.next 0) (.agg [.int .i64 k,.int .i64 p,.int .i64 i])=some ((st.new (.row [Z0,Z0,Z0])).put st.next (.row [.int .i64 k,.int .i64 p,.int .i64 i])):=VQ rfl rfl rfl
 have kk:Vd st ((st.new (.row [Z0,Z0,Z0])).put st.next (.row [.int .i64 k,.int .i64 p,.int .i64 i])):=(Vd.refl st).newput _ _
 have ldr:Vf true 3 ((st.new (.row [Z0,Z0,Z0])).put st.next (.row [.int .i64 k,.int .i64 p,.int .i64 i])) (.ptr st.next 0)=some (.agg [.int .i64 k,.int .i64 p,.int .i64 i]):=Wk (by rw[St.get_put,Qm rfl]) rfl
 obtain⟨fA1,au⟩:∃ fA,fA=Vo 0 [.int .i64 k,.agg [.int .i64 p,.int .i64 i]] Fr.nil:=⟨_,rfl⟩
 have gA1_0:=R9 au 0
 have gA1_1:=R9 au 1
 have dA1:fA1.ds=[]:=by rw[au];rfl
 obtain⟨J2,H2,O2_3,O2_4⟩:∃ aa,ar m Y wg76_0 fA1 st=.ok aa (st.new (.row [Z0,Z0,Z0]))/\aa.get 3=some (.fptr [.int .i64 p,.int .i64 i] 0)/\aa.get 4=some (.ptr st.next 0):=⟨_,by simp only[Rw,rQ,rA,gA1_1,wg76_0]<;>rfl,gn gh,gh⟩
 obtain⟨J3,H3⟩:∃ aa,ar m Y wg76_1 J2 (st.new (.row [Z0,Z0,Z0]))=.ok aa ((st.new (.row [Z0,Z0,Z0])).put st.next (.row [.int .i64 k,.int .i64 p,.int .i64 i])):=⟨_,by simp only[Rw,rQ,rA,(ag H2 gA1_0),O2_3,O2_4,wg76_1,a0,a1,ld2_0,ld2_1,bu,bj,TM]<;>rfl⟩
 refine⟨_,Ve (mf:=wf76) (fr:=J3) t76 rfl (.inl ?q3) (ad H3 (ad H2 dA1)) (by simp only[wf76,Rw,(ag H3 O2_4),ldr]),kk⟩
 case q3=>
  rw[<-au]
  simp only[Rw,rQ,rA,wf76,Rx,R5,R6,R7,H2,H3]
noncomputable def wg114_0:List Vc:=[ZO 2 (.box true (.t 0)),ZM 3 (ZB false)]
noncomputable def wg114_1:List Vc:=[ZA 4 0 2,ZL 5 4,ZA 6 0 1,ZL 7 6,ZO 8 (.bin false .eql (.t 5) (.t 7)),ZV 3 8]
noncomputable def wf114:Vm:=⟨9,(ZQ wg114_0 (ZR wg114_1)),[.t 3]⟩
theorem t114:Ry 114=some wf114:=by kernel_rfl
theorem leafIs_run(a b lf:Int){id:Nat}{r:List AV}{st:St}(hg:st.get id=some (.row (.int .i64 lf::r)))(m:Nat)(Y:Vi):R (m+1) Y 114 [.agg [.int .i64 a,.int .i64 b],.ptr id 0] st=.ret (.bool (a==lf)) st:=by
 have l0:Vf false 1 st (.ptr id 0)=some (.int .i64 lf):=Vk hg rfl
 have eq:=eqlI a lf
 obtain⟨fA1,au⟩:∃ fA,fA=Vo 0 [.agg [.int .i64 a,.int .i64 b],.ptr id 0] Fr.nil:=⟨_,rfl⟩
 have gA1_0:=R9 au 0
 have gA1_1:=R9 au 1
 have dA1:fA1.ds=[]:=by rw[au];rfl
 obtain⟨J2,H2,O2_2⟩:∃ aa,ar m Y wg114_0 fA1 st=.ok aa st/\aa.get 2=some (.fptr [.int .i64 a,.int .i64 b] 0):=⟨_,by simp only[Rw,rQ,rA,gA1_0,wg114_0]<;>rfl,gn gh⟩
 obtain⟨J3,H3,O3_3⟩:∃ aa,ar m Y wg114_1 J2 st=.ok aa st/\aa.get 3=some (.bool (a==lf)):=⟨_,by simp only[Rw,rQ,rA,(ag H2 gA1_1),O2_2,wg114_1,RI,RG,ld2_0,l0,eq]<;>rfl,gh⟩
 refine Ve (mf:=wf114) (fr:=J3) t114 rfl (.inl ?q3) (ad H3 (ad H2 dA1)) (by simp only[wf114,Rw,O3_3])
 case q3=>
  rw[<-au]
  simp only[Rw,rQ,rA,wf114,Rx,R5,R6,R7,H2,H3]
theorem twice_run{F:Nat->Prop}{st:St}{sl:AV}{cl:List (Int × Int)}(aD:RB 2 F st sl (cl.map fun c=>[.int .i64 c.1,.int .i64 c.2]))(lf:Int){id:Nat}{r:List AV}(hg:st.get id=some (.row (.int .i64 lf::r)))(m:Nat)(Y:Vi)(hn:cl.length < m):
  R (m+2) Y 113 [sl,.func (.func 114) [] [.ptr id 0]] st=.ret (.bool (cl.any fun c=>c.1==lf)) st:=by
 obtain⟨q,rfl⟩:∃ q,m=q+1:=⟨m - 1,by omega⟩
 obtain⟨b,s',hr,hc⟩:=contains113_run (q:=114) (n:=q+1) (Y:=Y) (caps:=[.ptr id 0]) aD (R3:=fun k s=>s=st/\(cl.take k).all (fun c=>!(c.1==lf))=true) (Fin:=fun k s=>s=st/\∃ c,cl[k]?=some c/\(c.1==lf)=true)
  (fun k s h=>by rw[h.1];exact Vs.refl _ _) (fun k x s hx ⟨h1,h2⟩=>by
   subst h1
   rw[Q5] at hx
   obtain⟨c,hc,rfl⟩:=Qf.1 hx
   refine⟨c.1==lf,s,leafIs_run _ _ lf hg q Y,fun h=>⟨rfl,c,hc,h⟩,fun h=>⟨rfl,?_⟩⟩
   rw[YR _ _ _ _ hc,h2,h];rfl) st ⟨rfl,rfl⟩ (by rw[Qu];omega)
 rw[hr]
 rcases hc with⟨rfl,h1,h2⟩|⟨rfl,j,_,h1,c,h2,h3⟩
 ·subst h1
  rw[Qu,QH] at h2
  congr 2
  rw[eq_comm,ZE]
  intro c hc
  have:=QB.1 h2 c hc
  simpa using this
 ·subst h1
  congr 2
  rw[eq_comm,List.any_eq_true]
  exact⟨c,Qr h2,h3⟩
noncomputable section
open Nat renaming reduceEqDiff -> rQ, reduceAdd -> rA
theorem unpairs_flat(cl:List (Int × Int)):V9 cl=(cl.map fun c=>[AV.int .i64 c.1,.int .i64 c.2]).flatten:=by unfold V9;rw[Zf]
def ClS(s:St)(csl:AV)(cid:Nat)(cl:List (Int × Int)):Prop:=(csl=.nilsl/\cl=[])\/(csl=.own cid 0 cl.length 2 none cl.length/\s.get cid=some (.row (V9 cl)))
theorem ClS.sl{s:St}{csl:AV}{cid:Nat}{cl:List (Int × Int)}(h:ClS s csl cid cl)(hb:cl.length < 100000):RB 2 (fun i=>i=cid) s csl (cl.map fun c=>[.int .i64 c.1,.int .i64 c.2]):=by
 rcases h with⟨rfl,rfl⟩|⟨rfl,h⟩
 ·exact RB.nil (by omega) _ _
 ·refine⟨by omega,fun x hx=>?_,by rw[Qu];omega,.inr (.inr ⟨cid,none,cl.length,[],by rw[Qu],rfl,by rw[QG,<-unpairs_flat];exact h⟩)⟩
  obtain⟨c,_,rfl⟩:=Q6.1 hx
  exact⟨rfl,rfl⟩
theorem ClS.app{s:St}{csl:AV}{cid:Nat}{cl:List (Int × Int)}(h:ClS s csl cid cl)(hb:cl.length < 100000)(a b:Int):
  ∃ sd,VX 16 2 s csl 1 [.int .i64 a,.int .i64 b]=some (.own s.next 0 (cl.length+1) 2 none (cl.length+1),sd)/\sd.next=s.next+1/\sd.get s.next=some (.row (V9 (cl++[(a,b)])))/\∀ k,k≠cid->k≠s.next->sd.get k=s.get k:=by
 have hu:V9 (cl++[(a,b)])=V9 cl++[.int .i64 a,.int .i64 b]:=by unfold V9;simp
 rcases h with⟨rfl,rfl⟩|⟨rfl,h⟩
 ·exact⟨s.new (.row [.int .i64 a,.int .i64 b]),rfl,rfl,by rw[St.get_new,Qm rfl];rfl,fun k _ hk=>by rw[St.get_new,Qe hk]⟩
 ·refine⟨(s.del cid).new (.row (V9 cl++[.int .i64 a,.int .i64 b])),?_,rfl,?_,fun k h1 h2=>?_⟩
  ·have hl:=Uv cl
   have e1:Nat.beq 1 0=false:=rfl
   have e2:Nat.ble ((cl.length+1)*16) 140737488355328=true:=Qo (by omega)
   have e3:Nat.ble (cl.length+1) 140737488355328=true:=Qo (by omega)
   have e4:Nat.ble (0+cl.length*2) (V9 cl).length=true:=Qo (by omega)
   have e5:Nat.ble (cl.length+1) cl.length=false:=by
    cases hx:Nat.ble (cl.length+1) cl.length with
    | false=>rfl
    | true=>have:=Qk hx;omega
   have e6:Nat.beq (cl.length*2) (V9 cl).length=true:=by rw[hl,Nat.mul_comm];exact QD _
   unfold VX
   simp only[e1,Qq,h,QD,e2,e3,e4,Qy,Qi,KY,e5,e6,QN,QW,AV.one]
  ·rw[hu];show ((s.del cid).new _).get (s.del cid).next=_;rw[St.get_new,Qm rfl]
  ·rw[St.get_new,Qe (by exact h2),St.get_del,Qe h1]
theorem lookM(mm:List (Int × Nat)){s:St}{M:Nat}(h:s.get M=some (.map (esM mm)))(q:Int):JP false Z0 false s (.map M) (.int .i64 q)=some (ZI ((Yf mm q))):=by
 unfold JP
 simp only[h]
 unfold esM
 rw[Sh (fun x:Int × Nat=>x.1) (fun x=>ZI x.2)]
 unfold Yf
 cases mm.find? (fun x=>x.1==q)<;>rfl
theorem mapupM(mm:List (Int × Nat)){s:St}{M:Nat}(h:s.get M=some (.map (esM mm)))(q:Int):Tw false s (.map M) (.int .i64 q) (ZI ((Yf mm q+1)))=some (s.put M (.map (esM (YH q mm)))):=by
 unfold Tw
 simp only[h,putA_bump,Ql]
theorem ld2r{st:St}{id:Nat}{x y:AV}(hg:st.get id=some (.row [x,y])):Vf true 2 st (.ptr id 0)=some (.agg [x,y]):=WE hg rfl rfl
theorem Yq(id k:Nat):Jd (.ptr id k)=some (.ptr id k):=rfl
theorem tagN(x v:AV)(s:St):tagA none x v s=s:=rfl
def wg69_0:List Vc:=[ZO 2 (.box true (.t 0)),ZO 4 (.alloc [.nilmap]),ZO 5 (.alloc [Z0,Z0,Z0])]
def wg69_1:List Vc:=[ZO 13 .mkmap,ZO 6 (.alloc [.nilmap]),ZS 1 6 13]
def wg69_2:List Vc:=[ZO 14 .mkmap,ZO 7 (.alloc [.nilmap]),ZS 1 7 14]
def wg69_3:List Vc:=[ZV 15 1,ZX 16 65 [(.t 15)]]
def wg69_4:List Vc:=[ZO 8 (.alloc [Z0,Z0]),ZS 2 8 17]
def wg69_5:List Vc:=[ZO 9 (.alloc [Z0,Z0,Z0,Z0,.nilsl,Z0,.nilsl,.nilsl,.nilsl]),ZS 9 9 18]
def Ua:List (Vc × Nat):=[(ZA 19 0 9,0),(ZL 20 19,1),(ZA 21 0 2,0),(ZL 22 21,4),(ZN 23 22,12),(ZO 24 (.bin false .geq (.t 20) (.t 23)),31),(ZV 25 24,63),(ZG 26 (.faddr 1 (.t 2)) 25 false,127),(ZG 27 (.load false 1 (.t 26)) 25 false,255),(ZG 28 (.faddr 0 (.t 9)) 25 false,127),(ZG 29 (.load false 1 (.t 28)) 25 false,639),(ZG 30 (.iaddr 1 (.t 27) (.t 29)) 25 false,2047),(ZG 31 (.load false 1 (.t 30)) 25 false,4095),(ZG 32 (.aaddr 2 1 (.t 8) (ZC 0)) 25 false,127),(ZG 33 (.load false 1 (.t 32)) 25 false,8319),(ZG 34 (.bin false .neq (.t 31) (.t 33)) 25 false,32767),(ZO 35 (.pick (.t 25) (ZB true) (.t 34)),65535)]
def wg69_7:List Vc:=[ZK 36 2 8,ZX 37 76 [(ZC 1),(.t 36)],⟨none,.store 1 (.t 4) (.c .nilmap),none⟩,ZS 3 5 37]
def wg69_8:List Vc:=[ZL 39 6,ZA 40 2 9,ZL 41 40,ZO 42 (.lookup false .nilptr true (.t 39) (.t 41)),ZV 38 42,ZO 43 (.extract 0 (.t 38)),ZO 44 (.extract 1 (.t 38)),ZV 10 43,ZV 11 44]
def wg69_9:List Vc:=[ZV 45 11,ZO 46 (.un .not (.t 45))]
def Sr:List Vc:=[ZA 47 2 9,ZL 48 47,ZA 49 3 9,ZK 50 2 49,ZA 51 5 9,ZK 52 3 51,ZO 53 (.build [Z0,Z0,.nilsl,Z0,.nilsl,.nilsl,.nilsl] [(0,1,(.t 48)),(1,2,(.t 50)),(3,3,(.t 52))])]
def TR:List Vc:=[ZK 54 2 8,ZA 55 8 9,ZL 56 55,ZO 57 (.build [Z0,Z0,.nilsl,Z0,.nilsl,.nilsl,.nilsl,Z0,Z0,.nilsl] [(0,7,(.t 53)),(7,2,(.t 54)),(9,1,(.t 56))]),ZO 58 (.box false (.t 57)),ZV 10 58]
def wg69_10:List Vc:=Sr++TR
def wg69_11:List Vc:=[ZL 59 6,ZA 60 2 9,ZL 61 60,ZV 62 10,⟨none,.mapup false (.t 59) (.t 61) (.t 62),none⟩]
def wg69_12:List Vc:=[ZV 63 10,ZO 64 (.nilchk (.t 63)),ZA 65 0 64,ZA 66 6 65,ZL 67 66,ZO 68 (.mkfn 114 [] [(.t 9)]),ZX 69 113 [(.t 67),(.t 68)],ZV 12 69]
def TX:List Vc:=[ZV 70 12,ZV 71 70,ZG 72 (.faddr 3 (.t 9)) 71 false,ZG 73 (.load true 2 (.t 72)) 71 false,ZG 74 (.mv (.t 10)) 71 false,ZG 75 (.nilchk (.t 74)) 71 false,ZG 76 (.faddr 0 (.t 75)) 71 false,ZG 77 (.faddr 1 (.t 76)) 71 false,ZG 78 (.load true 2 (.t 77)) 71 false,ZG 79 (.call (.c (.func (.func 58) [] [])) [(.t 73),(.t 78)]) 71 false,ZG 80 (.un .not (.t 79)) 71 false,ZO 81 (.pick (.t 71) (ZB true) (.t 80))]
def Sn:List Vc:=[ZV 82 81,ZG 83 (.faddr 5 (.t 9)) 82 false,ZG 84 (.load true 3 (.t 83)) 82 false,ZG 85 (.mv (.t 10)) 82 false,ZG 86 (.nilchk (.t 85)) 82 false,ZG 87 (.faddr 0 (.t 86)) 82 false,ZG 88 (.faddr 3 (.t 87)) 82 false,ZG 89 (.load true 3 (.t 88)) 82 false,ZG 90 (.call (.c (.func (.func 115) [] [])) [(.t 84),(.t 89)]) 82 false,ZG 91 (.un .not (.t 90)) 82 false,ZO 92 (.pick (.t 82) (ZB true) (.t 91))]
def TT:List Vc:=[ZV 93 92,ZG 94 (.faddr 8 (.t 9)) 93 false,ZG 95 (.load false 1 (.t 94)) 93 false,ZG 96 (.mv (.t 10)) 93 false,ZG 97 (.nilchk (.t 96)) 93 false,ZG 98 (.faddr 9 (.t 97)) 93 false,ZG 99 (.load false 1 (.t 98)) 93 false,ZG 100 (.call (.c (.func (.func 41) [] [])) [(.t 95),(.t 99)]) 93 false,ZG 101 (.un .not (.t 100)) 93 false,ZO 102 (.pick (.t 93) (ZB true) (.t 101))]
def wg69_13:List (Vc × Nat):=[(ZV 70 12,0),(ZV 71 70,1),(ZG 72 (.faddr 3 (.t 9)) 71 false,3),(ZG 73 (.load true 2 (.t 72)) 71 false,7),(ZG 74 (.mv (.t 10)) 71 false,3),(ZG 75 (.nilchk (.t 74)) 71 false,19),(ZG 76 (.faddr 0 (.t 75)) 71 false,51),(ZG 77 (.faddr 1 (.t 76)) 71 false,115),(ZG 78 (.load true 2 (.t 77)) 71 false,243),(ZG 79 (.call (.c (.func (.func 58) [] [])) [(.t 73),(.t 78)]) 71 false,511),(ZG 80 (.un .not (.t 79)) 71 false,1023),(ZO 81 (.pick (.t 71) (ZB true) (.t 80)),2047),(ZV 82 81,4095),(ZG 83 (.faddr 5 (.t 9)) 82 false,8191),(ZG 84 (.load true 3 (.t 83)) 82 false,16383),(ZG 85 (.mv (.t 10)) 82 false,8191),(ZG 86 (.nilchk (.t 85)) 82 false,40959),(ZG 87 (.faddr 0 (.t 86)) 82 false,106495),(ZG 88 (.faddr 3 (.t 87)) 82 false,237567),(ZG 89 (.load true 3 (.t 88)) 82 false,499711),(ZG 90 (.call (.c (.func (.func 115) [] [])) [(.t 84),(.t 89)]) 82 false,1048575),(ZG 91 (.un .not (.t 90)) 82 false,2097151),(ZO 92 (.pick (.t 82) (ZB true) (.t 91)),4194303),(ZV 93 92,8388607),(ZG 94 (.faddr 8 (.t 9)) 93 false,16777215),(ZG 95 (.load false 1 (.t 94)) 93 false,33554431),(ZG 96 (.mv (.t 10)) 93 false,16777215),(ZG 97 (.nilchk (.t 96)) 93 false,83886079),(ZG 98 (.faddr 9 (.t 97)) 93 false,218103807),(ZG 99 (.load false 1 (.t 98)) 93 false,486539263),(ZG 100 (.call (.c (.func (.func 41) [] [])) [(.t 95),(.t 99)]) 93 false,1073741823),(ZG 101 (.un .not (.t 100)) 93 false,2147483647),(ZO 102 (.pick (.t 93) (ZB true) (.t 101)),4294967295)]
def wg69_14:List Vc:=[ZK 103 2 8,ZX 104 76 [(ZC 2),(.t 103)],⟨none,.store 1 (.t 4) (.c .nilmap),none⟩,ZS 3 5 104]
def wg69_15:List (Vc × Nat):=[(ZA 105 1 9,0),(ZL 106 105,1),(ZL 107 7,0),(ZA 108 0 9,0),(ZL 109 108,8),(ZO 110 (.lookup false Z0 false (.t 107) (.t 109)),28),(ZO 111 (.bin false .neq (.t 106) (.t 110)),63),(ZV 112 111,127),(ZG 113 (.faddr 1 (.t 9)) 112 false,255),(ZG 114 (.load false 1 (.t 113)) 112 false,511),(ZG 115 (.faddr 8 (.t 9)) 112 false,255),(ZG 116 (.load false 1 (.t 115)) 112 false,1279),(ZG 117 (.faddr 0 (.t 9)) 112 false,255),(ZG 118 (.load false 1 (.t 117)) 112 false,4351),(ZG 119 (.iaddr 1 (.t 116) (.t 118)) 112 false,15615),(ZG 120 (.load false 1 (.t 119)) 112 false,31999),(ZG 121 (.bin false .neq (.t 114) (.t 120)) 112 false,65535),(ZO 122 (.pick (.t 112) (ZB true) (.t 121)),131071)]
def wg69_16:List Vc:=[ZK 123 2 8,ZX 124 76 [(ZC 3),(.t 123)],⟨none,.store 1 (.t 4) (.c .nilmap),none⟩,ZS 3 5 124]
def wg69_17:List Vc:=[ZL 125 7,ZA 126 0 9,ZL 127 126,ZO 128 (.lookup false Z0 false (.t 125) (.t 127)),ZO 129 (.bin false .add (.t 128) (ZC 1)),⟨none,.mapup false (.t 125) (.t 127) (.t 129),none⟩]
def wg69_18:List (Vc × Nat):=[(ZV 130 10,0),(ZV 131 10,0),(ZO 132 (.nilchk (.t 131)),2),(ZA 133 0 132,6),(ZA 134 6 133,14),(ZL 135 134,30),(ZA 136 0 9,0),(ZL 137 136,64),(ZA 138 1 9,0),(ZL 139 138,256),(ZO 140 (.build [Z0,Z0] [(0,1,(.t 137)),(1,1,(.t 139))]),960),(ZO 141 (.bslice 1 [Z0,Z0] [(0,2,(.t 140))]),1984),(ZO 142 (.append 16 2 none (.t 135) (.t 141)),4094),(ZO 143 (.nilchk (.t 130)),8191),(ZA 144 0 143,16383),(ZA 145 6 144,32767),(ZS 1 145 142,65535)]
def wg69_19:List Vc:=[ZL 146 6,ZO 147 (.build [Z0,Z0,Z0] []),ZS 1 4 146,ZS 3 5 147]
def wa69_0:Vn:=(ZQ wg69_4 (.region wg69_5))
def Kg:Vn:=(ZQ wg69_12 (.seq (.seq (.draw wg69_13 []) (.cond (.t 102) (ZR wg69_14) .skip)) (.seq (.seq (.draw wg69_15 []) (.cond (.t 122) (ZR wg69_16) .skip)) (ZQ wg69_17 (.draw wg69_18 [])))))
def WF:Vn:=(.block 1 (.seq (.seq (.draw Ua []) (.cond (.t 35) (ZR wg69_7) .skip)) (ZQ wg69_8 (.seq (ZQ wg69_9 (.cond (.t 46) (ZQ wg69_10 (.region wg69_11)) .skip)) Kg))))
def wr69_0:Vn:=(Vn.rfun (.t 16) [17,18] wa69_0 WF)
def wf69:Vm:=⟨148,(ZQ wg69_0 (ZQ wg69_1 (ZQ wg69_2 (.seq (ZQ wg69_3 (.block 0 wr69_0)) (ZR wg69_19))))),[.cell 4 false 1,.cell 5 true 3]⟩
theorem t69:Ry 69=some wf69:=by kernel_rfl
set_option maxHeartbeats 1000000 in
theorem gath_rest{m:Nat}{Y:Vi}{ro:Option Nat}{s:St}{fr:Fr}{b c7 M a8 a9 id cid:Nat}{e y:En}{csl:AV}{cl:List (Int × Int)}{mm:List (Int × Nat)}{p i yp yi:Nat}
  (he:e.ok) (hy:y.ok) (hm:e.fz+cl.length+100 < m) (ml:0<=e.leaf) (BF:e.leaf < e.seen.length) (bB:cl.length < 100000) (iD:Yf mm e.leaf < 100000)
  (d0:fr.ds=[]) (g4:fr.get 4=some (.ptr b 0)) (g5:fr.get 5=some (.ptr (b+1) 0)) (g7:fr.get 7=some (.ptr c7 0)) (g8:fr.get 8=some (.ptr a8 0)) (g9:fr.get 9=some (.ptr a9 0)) (eK:fr.get 10=some (.ptr id 0))
  (hb:s.get b=some (.row [.nilmap])) (cF:s.get (b+1)=some (.row [Z0,Z0,Z0])) (h7:s.get c7=some (.row [.map M])) (hM:s.get M=some (.map (esM mm)))
  (h8:s.get a8=some (.row [ZI p,ZI i])) (h9:s.get a9=some (.row e.cells)) (aZ:s.get id=some (.row (YX y csl yp yi))) (hc:ClS s csl cid cl)
  (n1:M≠id) (n2:M≠c7) (n3:M≠a9) (n4:id≠a9) (n5:M≠cid) (n6:id≠cid) (n7:b≠M) (lt:b+1 < s.next/\c7 < s.next/\M < s.next/\a8 < s.next/\a9 < s.next/\id < s.next) (lc:csl=.nilsl\/cid < s.next) (n8:cid≠a9):
  ((cl.any (fun c=>c.1==e.leaf)||!YT e y||!decide (e.seen=y.seen))=true->∃ aa s',ac m Y Kg ro fr s=.ret aa s'/\s'.get b=some (.row [.nilmap])/\s'.get (b+1)=some (.row [ZI 2,ZI p,ZI i])/\s.next<=s'.next/\∀ k,k < s.next->k≠b->k≠b+1->s'.get k=s.get k) ∧
  ((cl.any (fun c=>c.1==e.leaf)||!YT e y||!decide (e.seen=y.seen))=false->(!(e.ver==(Yf mm e.leaf:Int))||!(e.ver==e.seen.getD e.leaf.toNat 0))=true->∃ aa s',ac m Y Kg ro fr s=.ret aa s'/\s'.get b=some (.row [.nilmap])/\s'.get (b+1)=some (.row [ZI 3,ZI p,ZI i])/\s.next<=s'.next/\∀ k,k < s.next->k≠b->k≠b+1->s'.get k=s.get k) ∧
  ((cl.any (fun c=>c.1==e.leaf)||!YT e y||!decide (e.seen=y.seen))=false->(!(e.ver==(Yf mm e.leaf:Int))||!(e.ver==e.seen.getD e.leaf.toNat 0))=false->∃ aa s' n2,ac m Y Kg ro fr s=.norm aa s'/\s'.get M=some (.map (esM (YH e.leaf mm)))/\s'.get id=some (.row (YX y (.own n2 0 (cl.length+1) 2 none (cl.length+1)) yp yi))/\s'.get n2=some (.row (V9 (cl++[(e.leaf,e.ver)])))/\s.next<=n2/\n2 < s'.next/\∀ k,k < s.next->k≠M->k≠id->k≠cid->s'.get k=s.get k):=by
 obtain⟨l1,l2,l3,l4,l5,l6⟩:=lt
 obtain⟨o1,o2,o3,o4,o5,o6⟩:=he
 obtain⟨u1,u2,u3,u4,u5,u6⟩:=hy
 have zC:Tm.fzL e.vals+e.vals.length+e.d.fz+e.seen.length+4200=e.fz:=rfl
 obtain⟨a,b',c',hd,_⟩:=e.d.cells_abc
 obtain⟨ya,yb,yc,oF,_⟩:=y.d.cells_abc
 have aY:e.cells=[.int .i64 e.leaf,.int .i64 e.ver,.int .i64 e.prop,.int .i64 e.gate,e.vsl,a,b',c',e.ssl]:=by unfold En.cells;rw[hd];rfl
 have qn:YX y csl yp yi=[.int .i64 y.prop,.int .i64 y.gate,y.vsl,ya,yb,yc,csl,ZI yp,ZI yi,y.ssl]:=by unfold YX;rw[oF];rfl
 rw[aY] at h9
 rw[qn] at aZ
 obtain⟨q,rfl⟩:∃ q,m=q+3:=⟨m - 3,by omega⟩
 -- loads
 have E0:∀ s',s'.get a9=s.get a9->Vf false 1 s' (.ptr a9 0)=some (.int .i64 e.leaf):=fun s' h=>Vk (h.trans h9) rfl
 have E1:∀ s',s'.get a9=s.get a9->Vf false 1 s' (.ptr a9 1)=some (.int .i64 e.ver):=fun s' h=>Vk (h.trans h9) rfl
 have E3:∀ s',s'.get a9=s.get a9->Vf true 2 s' (.ptr a9 3)=some (.agg [.int .i64 e.gate,e.vsl]):=fun s' h=>WE (h.trans h9) rfl rfl
 have E5:∀ s',s'.get a9=s.get a9->Vf true 3 s' (.ptr a9 5)=some (.agg [a,b',c']):=fun s' h=>WE (h.trans h9) rfl rfl
 have E8:∀ s',s'.get a9=s.get a9->Vf false 1 s' (.ptr a9 8)=some e.ssl:=fun s' h=>Vk (h.trans h9) rfl
 have P1:∀ s',s'.get id=s.get id->Vf true 2 s' (.ptr id 1)=some (.agg [.int .i64 y.gate,y.vsl]):=fun s' h=>WE (h.trans aZ) rfl rfl
 have P3:∀ s',s'.get id=s.get id->Vf true 3 s' (.ptr id 3)=some (.agg [ya,yb,yc]):=fun s' h=>WE (h.trans aZ) rfl rfl
 have P6:∀ s',s'.get id=s.get id->Vf false 1 s' (.ptr id 6)=some csl:=fun s' h=>Vk (h.trans aZ) rfl
 have P9:∀ s',s'.get id=s.get id->Vf false 1 s' (.ptr id 9)=some y.ssl:=fun s' h=>Vk (h.trans aZ) rfl
 -- the calls
 have c113:((gT (q+3)).cg Y).fn 113 [csl,.func (.func 114) [] [.ptr a9 0]] s=.ret (.bool (cl.any fun c=>c.1==e.leaf)) s:=twice_run (hc.sl bB) e.leaf h9 (q+1) Y (by omega)
 have p6:=P6 s rfl
 generalize BG:(cl.any fun c=>c.1==e.leaf)=TW at *
 generalize xe:YT e y=SE0
 unfold YT at xe
 obtain⟨s1,rL,zD⟩:=sameLabel_run (Y:=Y) (g1:=e.gate) (g2:=y.gate) (aP:=e.vnl) (aX:=y.vnl) (aM:=e.vex) (aS:=y.vex) o1 u1 o2 o3 u3 (q+2) (by omega) s
 have rL:((gT (q+3)).cg Y).fn 58 [.agg [.int .i64 e.gate,e.vsl],.agg [.int .i64 y.gate,y.vsl]] s=.ret (.bool (JX (VS e.gate y.gate) (Wr e.vals y.vals)==0)) s1:=rL
 generalize BH:(JX (VS e.gate y.gate) (Wr e.vals y.vals)==0)=SL at *
 have e3:=E3 s rfl
 have p1:=P1 s rfl
 obtain⟨J1,H1,O1_12⟩:∃ aa,ar (q+3) Y wg69_12 fr s=.ok aa s/\aa.get 12=some (.bool TW):=⟨_,by simp only[Rw,rQ,rA,g9,eK,wg69_12,RG,Yq,p6,c113,Jy]<;>rfl,gh⟩
 have gR1_4:=ag H1 g4
 have gR1_5:=ag H1 g5
 have gR1_7:=ag H1 g7
 have gR1_8:=ag H1 g8
 have gR1_9:=ag H1 g9
 have gR1_10:=ag H1 eK
 obtain⟨J2,sA,H2,K2,qR2,O2_81⟩:∃ aa s',ar (q+3) Y TX J1 s=.ok aa s'/\Kp [4,5,7,8,9,10,12] J1 aa/\Vd s s'/\aa.get 81=some (.bool (TW||!SL)):=by
  cases TW with
  | true=>exact⟨_,_,by simp only[Rw,rQ,rA,gR1_9,gR1_10,O1_12,TX,RG,Yq,e3,p1,rL,WN,Qc,Qb,QU,QL]<;>rfl,Kp.refl.s.s.s.s.s.s.s.s.s.s.s.s,Vd.refl _,by simp only[Fr.get_set,rQ,↓reduceIte,QU,QL,Qc,Qb]⟩
  | false=>exact⟨_,_,by simp only[Rw,rQ,rA,gR1_9,gR1_10,O1_12,TX,RG,Yq,e3,p1,rL,WN,Qc,Qb,QU,QL]<;>rfl,Kp.refl.s.s.s.s.s.s.s.s.s.s.s.s,zD,by simp only[Fr.get_set,rQ,↓reduceIte,QU,QL,Qc,Qb]⟩
 have gR2_4:=K2.g 4 gR1_4
 have gR2_5:=K2.g 5 gR1_5
 have gR2_7:=K2.g 7 gR1_7
 have gR2_8:=K2.g 8 gR1_8
 have gR2_9:=K2.g 9 gR1_9
 have gR2_10:=K2.g 10 gR1_10
 generalize gw:(TW||!SL)=B0 at *
 have e5:=E5 sA (qR2.2 _ l5)
 have p3:=P3 sA (qR2.2 _ l6)
 obtain⟨s2,c115,k115⟩:=derivSame e.d y.d (q+3) Y o4 u4 (by omega) sA
 rw[hd,oF] at c115
 have c115:((gT (q+3)).cg Y).fn 115 [.agg [a,b',c'],.agg [ya,yb,yc]] sA=.ret (.bool (Ky e.d y.d==0)) s2:=c115
 generalize BI:(Ky e.d y.d==0)=SD at *
 obtain⟨J3,sB,H3,K3,qR3,O3_92⟩:∃ aa s',ar (q+3) Y Sn J2 sA=.ok aa s'/\Kp [4,5,7,8,9,10,12,81] J2 aa/\Vd sA s'/\aa.get 92=some (.bool (B0||!SD)):=by
  cases B0 with
  | true=>exact⟨_,_,by simp only[Rw,rQ,rA,gR2_9,gR2_10,O2_81,Sn,RG,Yq,e5,p3,c115,WN,Qc,Qb,QU,QL]<;>rfl,Kp.refl.s.s.s.s.s.s.s.s.s.s.s,Vd.refl _,by simp only[Fr.get_set,rQ,↓reduceIte,QU,QL,Qc,Qb]⟩
  | false=>exact⟨_,_,by simp only[Rw,rQ,rA,gR2_9,gR2_10,O2_81,Sn,RG,Yq,e5,p3,c115,WN,Qc,Qb,QU,QL]<;>rfl,Kp.refl.s.s.s.s.s.s.s.s.s.s.s,k115,by simp only[Fr.get_set,rQ,↓reduceIte,QU,QL,Qc,Qb]⟩
 have gR3_4:=K3.g 4 gR2_4
 have gR3_5:=K3.g 5 gR2_5
 have gR3_7:=K3.g 7 gR2_7
 have gR3_8:=K3.g 8 gR2_8
 have gR3_9:=K3.g 9 gR2_9
 have gR3_10:=K3.g 10 gR2_10
 generalize io:(B0||!SD)=B1 at *
 have kAB:=qR2.trans qR3
 have e8:=E8 sB (kAB.2 _ l5)
 have p9:=P9 sB (kAB.2 _ l6)
 have xh:((gT (q+3)).cg Y).fn 41 [e.ssl,y.ssl] sB=.ret (.bool (decide (e.seen=y.seen))) sB:=equal41_run (JA e.snl e.sex e.seen o5 o6 (fun _=>False) sB) (JA y.snl y.sex y.seen u5 u6 (fun _=>False) sB) (q+2) Y (by omega)
 generalize BJ:decide (e.seen=y.seen)=SS at *
 obtain⟨J4,sC,H4,K4,qR4,O4_102⟩:∃ aa s',ar (q+3) Y TT J3 sB=.ok aa s'/\Kp [4,5,7,8,9,10,12,81,92] J3 aa/\Vd sB s'/\aa.get 102=some (.bool (B1||!SS)):=by
  cases B1 with
  | true=>exact⟨_,_,by simp only[Rw,rQ,rA,gR3_9,gR3_10,O3_92,TT,RG,Yq,e8,p9,xh,WN,Qc,Qb,QU,QL]<;>rfl,Kp.refl.s.s.s.s.s.s.s.s.s.s,Vd.refl _,by simp only[Fr.get_set,rQ,↓reduceIte,QU,QL,Qc,Qb]⟩
  | false=>exact⟨_,_,by simp only[Rw,rQ,rA,gR3_9,gR3_10,O3_92,TT,RG,Yq,e8,p9,xh,WN,Qc,Qb,QU,QL]<;>rfl,Kp.refl.s.s.s.s.s.s.s.s.s.s,Vd.refl _,by simp only[Fr.get_set,rQ,↓reduceIte,QU,QL,Qc,Qb]⟩
 have gR4_4:=K4.g 4 gR3_4
 have gR4_5:=K4.g 5 gR3_5
 have gR4_7:=K4.g 7 gR3_7
 have gR4_8:=K4.g 8 gR3_8
 have gR4_9:=K4.g 9 gR3_9
 have gR4_10:=K4.g 10 gR3_10
 have H5:VK ((gT (q+3)).cg Y) wg69_13 [] J1 s=.ok J4 sC:=Wj rfl (by show Vj _ (TX++(Sn++TT)) _ _=_;rw[Yv H2,Yv H3];exact H4)
 have kS:=kAB.trans qR4
 have dJ:(TW||!SE0||!SS)=(B1||!SS):=by
  rw[<-xe,<-io,<-gw];cases TW<;>cases SL<;>cases SD<;>rfl
 rw[dJ]
 have gC:∀ k,k < s.next->sC.get k=s.get k:=kS.2
 have bw:=(gC b (by omega)).trans hb
 have qo:=(gC (b+1) l1).trans cF
 have xi:=ld2r ((gC a8 l4).trans h8)
 refine⟨fun hB=>?_,fun hB hV=>?_,fun hB hV=>?_⟩
 ·rw[hB] at O4_102
  obtain⟨sD,eL,cY⟩:=bad_run (.ofNat 2) (.ofNat p) (.ofNat i) (q+2) Y sC
  have eL:((gT (q+3)).cg Y).fn 76 [ZI 2,.agg [ZI p,ZI i]] sC=.ret (.agg [ZI 2,ZI p,ZI i]) sD:=eL
  have nC:=kS.1
  have ai:Vt 1 sD (.ptr b 0) .nilmap=some (sD.put b (.row [.nilmap])):=V4 (((cY.2 _ (by omega)).trans bw)) rfl rfl (by simp) rfl
  have gD:(sD.put b (.row [.nilmap])).get (b+1)=some (.row [Z0,Z0,Z0]):=by rw[St.get_put,Qe (by omega),cY.2 _ (by omega)];exact qo
  have st2:Vt 3 (sD.put b (.row [.nilmap])) (.ptr (b+1) 0) (.agg [ZI 2,ZI p,ZI i])=some ((sD.put b (.row [.nilmap])).put (b+1) (.row [ZI 2,ZI p,ZI i])):=V4 gD rfl rfl (by simp) rfl
  obtain⟨J6,H6⟩:∃ aa,ar (q+3) Y wg69_14 J4 sC=.ok aa ((sD.put b (.row [.nilmap])).put (b+1) (.row [ZI 2,ZI p,ZI i])):=⟨_,by simp only[Rw,rQ,rA,gR4_4,gR4_5,gR4_8,wg69_14,xi,eL,ai,st2]<;>rfl⟩
  have ed:ac (q+3) Y Kg ro fr s=.ret J6 ((sD.put b (.row [.nilmap])).put (b+1) (.row [ZI 2,ZI p,ZI i])):=by
   simp only[Rw,rQ,rA,Kg,Rx,R5,R6,R7,H1,H5,H6,O4_102]
  exact⟨_,_,ed,by rw[St.get_put,Qe (by omega),St.get_put,Qm rfl],by rw[St.get_put,Qm rfl],by have:=cY.1;show s.next<=sD.next;omega,fun k h1 h2 h3=>by rw[St.get_put,Qe h3,St.get_put,Qe h2,cY.2 _ (by omega)];exact gC k h1⟩
 ·rw[hB] at O4_102
  have rM:=(gC M l3).trans hM
  have lM:=lookM mm rM e.leaf
  have oY:Vf false 1 sC (.ptr c7 0)=some (.map M):=Vk ((gC c7 l2).trans h7) rfl
  have e0:=E0 sC (gC a9 l5)
  have e1:=E1 sC (gC a9 l5)
  have uo:=E8 sC (gC a9 l5)
  have am:e.leaf.toNat < e.seen.length:=by omega
  have jz:Int.ofNat e.leaf.toNat=e.leaf:=by show ((e.leaf.toNat:Nat):Int)=e.leaf;omega
  obtain⟨px,ix,ef⟩:=RE.at (JA e.snl e.sex e.seen o5 o6 (fun _=>False) sC) (Qn am)
  have ix:VC 1 e.ssl (.int .i64 e.leaf)=some px:=by rw[<-jz];exact ix
  have ef:=ef sC (Vs.refl _ _)
  have dk:e.seen.getD e.leaf.toNat 0=e.seen[e.leaf.toNat]:=by rw[X4,Qn am];rfl
  rw[dk] at hV
  have jk:=Yk e.ver (.ofNat (Yf mm e.leaf))
  have jl:=Yk e.ver e.seen[e.leaf.toNat]
  have kb:(!(e.ver==(Yf mm e.leaf:Int)))=(e.ver != .ofNat (Yf mm e.leaf)):=rfl
  have nJ:(!(e.ver==e.seen[e.leaf.toNat]))=(e.ver != e.seen[e.leaf.toNat]):=rfl
  rw[kb,nJ] at hV
  generalize (e.ver != .ofNat (Yf mm e.leaf))=V1 at *
  generalize (e.ver != e.seen[e.leaf.toNat])=V2 at *
  obtain⟨J7,H7,K7,O7_122⟩:∃ aa,VK ((gT (q+3)).cg Y) wg69_15 [] J4 sC=.ok aa sC/\Kp [4,5,7,8,9,10,12,81,92,102] J4 aa/\aa.get 122=some (.bool (V1||V2)):=by cases V1<;>exact⟨_,Wj rfl (by simp only[Rw,rQ,rA,gR4_7,gR4_9,wg69_15,RG,e0,e1,uo,oY,lM,ix,ef,jk,jl,JL,Qc,Qb]<;>rfl),Kp.refl.s.s.s.s.s.s.s.s.s.s.s.s.s.s.s.s.s.s,by simp only[Fr.get_set,rQ,↓reduceIte,amB,Qc,Qb]⟩
  have gR7_4:=K7.g 4 gR4_4
  have gR7_5:=K7.g 5 gR4_5
  have gR7_8:=K7.g 8 gR4_8
  rw[hV] at O7_122
  obtain⟨sD,eL,cY⟩:=bad_run (.ofNat 3) (.ofNat p) (.ofNat i) (q+2) Y sC
  have eL:((gT (q+3)).cg Y).fn 76 [ZI 3,.agg [ZI p,ZI i]] sC=.ret (.agg [ZI 3,ZI p,ZI i]) sD:=eL
  have nC:=kS.1
  have ai:Vt 1 sD (.ptr b 0) .nilmap=some (sD.put b (.row [.nilmap])):=V4 (((cY.2 _ (by omega)).trans bw)) rfl rfl (by simp) rfl
  have gD:(sD.put b (.row [.nilmap])).get (b+1)=some (.row [Z0,Z0,Z0]):=by rw[St.get_put,Qe (by omega),cY.2 _ (by omega)];exact qo
  have st2:Vt 3 (sD.put b (.row [.nilmap])) (.ptr (b+1) 0) (.agg [ZI 3,ZI p,ZI i])=some ((sD.put b (.row [.nilmap])).put (b+1) (.row [ZI 3,ZI p,ZI i])):=V4 gD rfl rfl (by simp) rfl
  obtain⟨J8,H8⟩:∃ aa,ar (q+3) Y wg69_16 J7 sC=.ok aa ((sD.put b (.row [.nilmap])).put (b+1) (.row [ZI 3,ZI p,ZI i])):=⟨_,by simp only[Rw,rQ,rA,gR7_4,gR7_5,gR7_8,wg69_16,xi,eL,ai,st2]<;>rfl⟩
  have jy:ac (q+3) Y Kg ro fr s=.ret J8 ((sD.put b (.row [.nilmap])).put (b+1) (.row [ZI 3,ZI p,ZI i])):=by
   simp only[Rw,rQ,rA,Kg,Rx,R5,R6,R7,H1,H5,H7,H8,O4_102,O7_122]
  exact⟨_,_,jy,by rw[St.get_put,Qe (by omega),St.get_put,Qm rfl],by rw[St.get_put,Qm rfl],by have:=cY.1;show s.next<=sD.next;omega,fun k h1 h2 h3=>by rw[St.get_put,Qe h3,St.get_put,Qe h2,cY.2 _ (by omega)];exact gC k h1⟩
 ·rw[hB] at O4_102
  have rM:=(gC M l3).trans hM
  have lM:=lookM mm rM e.leaf
  have oY:Vf false 1 sC (.ptr c7 0)=some (.map M):=Vk ((gC c7 l2).trans h7) rfl
  have e0:=E0 sC (gC a9 l5)
  have e1:=E1 sC (gC a9 l5)
  have uo:=E8 sC (gC a9 l5)
  have am:e.leaf.toNat < e.seen.length:=by omega
  have jz:Int.ofNat e.leaf.toNat=e.leaf:=by show ((e.leaf.toNat:Nat):Int)=e.leaf;omega
  obtain⟨px,ix,ef⟩:=RE.at (JA e.snl e.sex e.seen o5 o6 (fun _=>False) sC) (Qn am)
  have ix:VC 1 e.ssl (.int .i64 e.leaf)=some px:=by rw[<-jz];exact ix
  have ef:=ef sC (Vs.refl _ _)
  have dk:e.seen.getD e.leaf.toNat 0=e.seen[e.leaf.toNat]:=by rw[X4,Qn am];rfl
  rw[dk] at hV
  have jk:=Yk e.ver (.ofNat (Yf mm e.leaf))
  have jl:=Yk e.ver e.seen[e.leaf.toNat]
  have kb:(!(e.ver==(Yf mm e.leaf:Int)))=(e.ver != .ofNat (Yf mm e.leaf)):=rfl
  have nJ:(!(e.ver==e.seen[e.leaf.toNat]))=(e.ver != e.seen[e.leaf.toNat]):=rfl
  rw[kb,nJ] at hV
  generalize (e.ver != .ofNat (Yf mm e.leaf))=V1 at *
  generalize (e.ver != e.seen[e.leaf.toNat])=V2 at *
  obtain⟨J9,H9,K9,O9_122⟩:∃ aa,VK ((gT (q+3)).cg Y) wg69_15 [] J4 sC=.ok aa sC/\Kp [4,5,7,8,9,10,12,81,92,102] J4 aa/\aa.get 122=some (.bool (V1||V2)):=by cases V1<;>exact⟨_,Wj rfl (by simp only[Rw,rQ,rA,gR4_7,gR4_9,wg69_15,RG,e0,e1,uo,oY,lM,ix,ef,jk,jl,JL,Qc,Qb]<;>rfl),Kp.refl.s.s.s.s.s.s.s.s.s.s.s.s.s.s.s.s.s.s,by simp only[Fr.get_set,rQ,↓reduceIte,amB,Qc,Qb]⟩
  have gR9_7:=K9.g 7 gR4_7
  have gR9_9:=K9.g 9 gR4_9
  have gR9_10:=K9.g 10 gR4_10
  rw[hV] at O9_122
  have aU:=addN (i:=Yf mm e.leaf) (j:=1) (by omega)
  have mu:=mapupM mm rM e.leaf
  obtain⟨J10,H10⟩:∃ aa,ar (q+3) Y wg69_17 J9 sC=.ok aa (sC.put M (.map (esM (YH e.leaf mm)))):=⟨_,by simp only[Rw,rQ,rA,gR9_7,gR9_9,wg69_17,RG,e0,oY,lM,aU,mu,JL,nd_mapup]<;>rfl⟩
  have gR10_9:=ag H10 gR9_9
  have gR10_10:=ag H10 gR9_10
  generalize uq:sC.put M (.map (esM (YH e.leaf mm)))=sE at *
  have gE:∀ k,k≠M->sE.get k=sC.get k:=fun k hk=>by rw[<-uq,St.get_put,Qe hk]
  have gEM:sE.get M=some (.map (esM (YH e.leaf mm))):=by rw[<-uq,St.get_put,Qm rfl]
  have nE:sE.next=sC.next:=by rw[<-uq];rfl
  have gEs:∀ k,k < s.next->k≠M->sE.get k=s.get k:=fun k h1 h2=>(gE k h2).trans (gC k h1)
  have zE:=E0 sE (gEs a9 l5 n3.symm)
  have zF:=E1 sE (gEs a9 l5 n3.symm)
  have zG:=P6 sE (gEs id l6 n1.symm)
  have zH:ClS sE csl cid cl:=by
   rcases hc with h|⟨h1,h2⟩
   ·exact .inl h
   ·refine .inr ⟨h1,?_⟩
    rcases lc with h3 | h3
    ·rw[h3] at h1;cases h1
    ·rw[gEs cid h3 n5.symm];exact h2
  obtain⟨sF,ap,nF,gF1,gF2⟩:=zH.app bB e.leaf e.ver
  have nC:=kS.1
  have ur:sF.get id=some (.row [.int .i64 y.prop,.int .i64 y.gate,y.vsl,ya,yb,yc,csl,ZI yp,ZI yi,y.ssl]):=by rw[gF2 id n6 (by omega),gEs id l6 n1.symm];exact aZ
  have ct:Wd 2 sE (.lst 1 [.int .i64 e.leaf,.int .i64 e.ver] true)=some (1,[.int .i64 e.leaf,.int .i64 e.ver]):=rfl
  have bu:=build2v (.int .i64 e.leaf) (.int .i64 e.ver)
  have bs:VN [Z0,Z0] [(0,2,.agg [.int .i64 e.leaf,.int .i64 e.ver])]=some [.int .i64 e.leaf,.int .i64 e.ver]:=rfl
  have bj:Vt 1 sF (.ptr id 6) (.own sE.next 0 (cl.length+1) 2 none (cl.length+1))=some (sF.put id (.row [.int .i64 y.prop,.int .i64 y.gate,y.vsl,ya,yb,yc,.own sE.next 0 (cl.length+1) 2 none (cl.length+1),ZI yp,ZI yi,y.ssl])):=V4 ur rfl rfl (by simp) rfl
  obtain⟨J11,H11,K11⟩:∃ aa,VK ((gT (q+3)).cg Y) wg69_18 [] J10 sE=.ok aa (sF.put id (.row [.int .i64 y.prop,.int .i64 y.gate,y.vsl,ya,yb,yc,.own sE.next 0 (cl.length+1) 2 none (cl.length+1),ZI yp,ZI yi,y.ssl]))/\Kp [] J10 aa:=⟨_,Wj rfl (by simp only[Rw,rQ,rA,gR10_9,gR10_10,wg69_18,RG,Yq,zG,zE,zF,bu,bs,ct,ap,tagN,bj]<;>rfl),Kp.refl.s.s.s.s.s.s.s.s.s.s.s.s.s.s.s.s⟩
  have ga:ac (q+3) Y Kg ro fr s=.norm J11 (sF.put id (.row [.int .i64 y.prop,.int .i64 y.gate,y.vsl,ya,yb,yc,.own sE.next 0 (cl.length+1) 2 none (cl.length+1),ZI yp,ZI yi,y.ssl])):=by
   simp only[Rw,rQ,rA,Kg,Rx,R5,R6,R7,H1,H5,H9,H10,H11,O4_102,O9_122]
  refine⟨_,_,sE.next,ga,?_,?_,?_,by omega,by show sE.next < sF.next;omega,fun k h1 h2 h3 h4=>?_⟩
  ·rw[St.get_put,Qe n1,gF2 M n5 (by omega)];exact gEM
  ·rw[St.get_put,Qm rfl];unfold YX;rw[oF];rfl
  ·rw[St.get_put,Qe (by omega)];exact gF1
  ·rw[St.get_put,Qe h3,gF2 k h4 (by omega)];exact gEs k h1 h2
end
end Go.AM.D32
