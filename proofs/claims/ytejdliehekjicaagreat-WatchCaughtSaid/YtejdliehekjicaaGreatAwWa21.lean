import Derived.Test.YtejdliehekjicaaGreatAwWa16
set_option maxRecDepth 100000
set_option linter.unusedSimpArgs false
namespace Go.AM.D32
open Go Go.AM
open Nat renaming reduceEqDiff -> rQ, reduceAdd -> rA
structure PrSt(A lim hi:Nat)(d:List Sp)(s:St)(PL:List Pr):Prop where
 all:s.get A=some (.fmap (esP PL))
 prs:PL.map (fun x=>x.e.prop)=V6 (RA d)
 one:∀ x∈PL,d.find? (fun z=>z.2.2.prop==x.e.prop)=some (x.p,x.i,x.e)/\x.cl=RK (RA d) x.e.prop/\s.get x.id=some (.row x.row)/\s.get x.cid=some (.row (V9 x.cl))/\lim<=x.id/\lim<=x.cid/\x.id < hi/\x.cid < hi
 ids:(PL.flatMap fun x=>[x.id,x.cid]).Nodup
 lim:A < lim
theorem PrSt.keep{A lim hi:Nat}{d:List Sp}{s s':St}{PL:List Pr}(h:PrSt A lim hi d s PL)(k:∀ j,j=A\/(lim<=j/\j < hi)->s'.get j=s.get j):PrSt A lim hi d s' PL:=by
 refine⟨by rw[k _ (.inl rfl)];exact h.all,h.prs,fun x hx=>?_,h.ids,h.lim⟩
 obtain⟨a,b,c,e,f,g,i,j⟩:=h.one x hx
 exact⟨a,b,by rw[k _ (.inr ⟨f,i⟩)];exact c,by rw[k _ (.inr ⟨g,j⟩)];exact e,f,g,i,j⟩
theorem nodup_lt:∀(n:Nat) (l:List Nat),l.Nodup->(∀ x∈l,x < n)->l.length<=n
 | 0,l,_,h=>by
  cases l with
  | nil=>exact Qw _
  | cons x l=>exact absurd (h x (by simp)) (by omega)
 | n+1,l,hn,h=>by
  have h1:(l.erase n).length<=n:=nodup_lt n (l.erase n) (hn.erase n) fun x hx=>by
   have:=(hn.mem_erase_iff.1 hx)
   have:=h x this.2
   omega
  have:=List.length_erase (a:=n) (l:=l)
  split at this<;>omega
def YC(PL:List Pr)(ks:List Nat):List (Int × Int):=ks.flatMap fun i=>match PL[i]? with
 | some x=>x.cl
 | none=>[]
theorem clsOf_range(PL:List Pr):YC PL (List.range PL.length)=PL.flatMap (·.cl):=by
 unfold YC
 induction PL using JS with
 | nil=>rfl
 | snoc l x ih=>
  rw[QJ,Zu,List.range_succ,X0,X0]
  congr 1
  ·rw[<-ih,Zf,Zf]
   refine Xn List.flatten (QX fun i hi=>?_)
   rw[Xk (Xo.1 hi)]
  ·simp
theorem clsOf_le(PL:List Pr)(B:Nat)(hB:∀ x∈PL,x.cl.length<=B):∀ ks:List Nat,(YC PL ks).length<=ks.length*B
 | []=>by simp[YC]
 | i::ks=>by
  have ih:=clsOf_le PL B hB ks
  unfold YC at ih ⊢
  rw[Xa,QJ,QC,Xv,Nat.one_mul]
  have:(match PL[i]? with
   | some x=>x.cl
   | none=>[]).length<=B:=by
   split
   ·rename_i x hx;exact hB x (Qr hx)
   ·simp
  omega
theorem clsOf_snoc(PL:List Pr)(ks:List Nat)(i:Nat){x:Pr}(h:PL[i]?=some x):YC PL (ks++[i])=YC PL ks++x.cl:=by
 unfold YC;rw[X0];simp[h]
theorem extract0(a b:AV):WJ 0 (.tuple [a,b])=some a:=rfl
theorem extract1(a b:AV):WJ 1 (.tuple [a,b])=some b:=rfl
set_option maxHeartbeats 1000000 in
theorem total31{m:Nat}{Y:Vi}{ro:Option Nat}{fr:Fr}{s:St}{A lim hi:Nat}{d:List Sp}{PL:List Pr}{dQ T tp k:Nat}(hP:PrSt A lim hi d s PL)(aZ:s.get dQ=some (.iter A []))(qr:s.get tp=some (.row [.own T 0 k 1 (some k) 0]))(hT:s.get T=some (.row (Vw k fun _=>0)))
  (o1:hi<=dQ) (o2:hi<=tp) (o3:hi<=T) (o4:dQ≠tp) (o5:dQ≠T) (o6:tp≠T) (o7:dQ < s.next/\tp < s.next/\T < s.next) (o8:lim<=hi)
  (hk:∀ x∈PL,∀ c∈x.cl,0<=c.1/\c.1 < (k:Int)) (hb:∀ x∈PL,x.cl.length<=4000) (az:∀ x∈PL,x.cl≠[]) (hn:PL.length<=4000) (hm:5000 < m)
  (uA:fr.get 44=some (.ptr dQ 0)) (g9:fr.get 9=some (.ptr tp 0)) (un:∀ j∈[45,46,47,48,11,49,50,51,52,53,54,55,56,57,13,59,60,61,62,63,64,65,66,58],fr.get j=none):
  ∃ F S,ac m Y wm31_1 ro fr s=.exit 0 F S/\(∀ j,j∉[44,45,46,47,48,11,49,50,51,52,53,54,55,56,57,58,13,59,60,61,62,63,64,65,66,55]->F.get j=fr.get j)/\F.ds=fr.ds/\PrSt A lim hi d S PL/\S.get T=some (.row (Vw k fun i=>VB (PL.flatMap (·.cl)) i))/\s.next<=S.next/\∀ j,j < s.next->j≠dQ->j≠T->S.get j=s.get j:=by
 have al:(esP PL).length=PL.length:=by unfold esP;rw[Qu]
 obtain⟨F,S,h1,h2,h3,h4,h5⟩:=mrange_run (Γ:=gT m) (Y:=Y) (n:=m) (it:=44) (nx:=45) (more:=46) (out:=0) (cl:=[44,45,46,47,48,11,49,50,51,52,53,54,55,56,57,58,13,59,60,61,62,63,64,65,66,55]) (c:=wc31_1) (ro:=ro) (fr:=fr) (st:=s) (id:=dQ) (m:=A) (es:=esP PL)
  (Q:=fun ks f s1=>(∀ j,j∉[44,45,46,47,48,11,49,50,51,52,53,54,55,56,57,58,13,59,60,61,62,63,64,65,66,55]->f.get j=fr.get j)/\f.ds=fr.ds/\(ks=[]->∀ j∈[45,46,47,48,11,49,50,51,52,53,54,55,56,57,13,59,60,61,62,63,64,65,66,58],f.get j=none)/\(ks≠[]->(∀ j∈[45,46,47,48,11,49,50,51,52,53,54,55,56,57,13,59,60,61,62,63,64,65,66],VR (ev f (.t j))=true)/\∃ a b:Int,f.get 58=some (.agg [.int .i64 a,.int .i64 b]))/\s1.next=s.next+(YC PL ks).length/\s1.get T=some (.row (Vw k fun i=>VB (YC PL ks) i))/\∀ j,j < s.next->j≠dQ->j≠T->s1.get j=s.get j)
  (G:=fun j=>if j=T then some (.row (Vw k fun i=>VB (PL.flatMap (·.cl)) i)) else s.get j) (N:=s.next+(PL.flatMap (·.cl)).length) (sh:=fun j=>if j=58/\PL≠[] then some 2 else none)
  uA aZ hP.all (by decide) ⟨by simp,by simp⟩ ⟨fun _ _=>rfl,rfl,fun _=>un,fun h=>absurd rfl h,rfl,by simpa [YC,VB] using hT,fun _ _ _ _=>rfl⟩
  (fun ks i f s1 cj BN bi jB fi ⟨q1,q2,q3,q4,q5,q6,q7⟩=>by
   rw[al] at cj bi
   have hx:PL[i]?=some PL[i]:=Qn cj
   generalize PL[i]=x at hx
   have dK:=Qr hx
   obtain⟨xa,xb,xc,xd,xf,xg,xu,xv⟩:=hP.one x dK
   have ce:ks.length<=PL.length:=nodup_lt PL.length ks jB bi
   have dZ:(YC PL ks).length<=16000000:=by
    have h1:=clsOf_le PL 4000 hb ks
    have h2:ks.length<=4000:=by omega
    omega
   obtain⟨s2,bD⟩:∃ s2,s2=s1.put dQ (.iter A (ks++[i])):=⟨_,rfl⟩
   have p2:∀ j,j≠dQ->s2.get j=s1.get j:=fun j hj=>by rw[bD,St.get_put,Qe hj]
   have p2i:s2.get dQ=some (.iter A (ks++[i])):=by rw[bD,St.get_put,Qm rfl]
   have n2:s2.next=s.next+(YC PL ks).length:=by rw[bD];exact q5
   rw[<-bD]
   have hA:=hP.lim
   have p0:∀ j,j < s.next->j≠dQ->j≠T->s2.get j=s.get j:=fun j h1 h2 h3=>(p2 j h2).trans (q7 j h1 h2 h3)
   have eA:s2.get A=some (.fmap (esP PL)):=(p0 A (by omega) (by omega) (by omega)).trans hP.all
   have een:entA s2 (.ptr dQ 0)=some (.tuple [.int .i64 x.e.prop,.ptr x.id 0]):=by
    have:(esP PL)[i]?=some (.int .i64 x.e.prop,.ptr x.id 0):=by unfold esP;rw[Q5,hx];rfl
    simp only[entA,p2i,List.getLast?_append,List.getLast?_singleton,Option.some_or,eA,this,Ql]
   have qu:Vf false 1 s2 (.ptr x.id 6)=some x.csl:=by
    obtain⟨a,b',c',gJ,_⟩:=x.e.d.cells_abc
    refine Vk ((p0 x.id (by omega) (by omega) (by omega)).trans xc) ?_
    unfold Pr.row YX;rw[gJ];rfl
   have bO:(bif VD 0 x.csl then Wm s2 x.csl else none)=some (ZI x.cl.length):=by
    have h0:ClS s2 x.csl x.cid x.cl:=.inr ⟨rfl,(p0 x.cid (by omega) (by omega) (by omega)).trans xd⟩
    have:=(h0.sl (by have:=hb x dK;omega)).len s2
    rwa [Qu] at this
   obtain⟨f1,iB⟩:∃ f1,f1=(f.set 45 (some .top)).set 46 (some .top):=⟨_,rfl⟩
   rw[<-iB]
   have uB:Kq [46,45] f f1:=by rw[iB];exact Kq.refl.s.s
   have xk:=uB.g 44 fi
   have u9:f1.get 9=some (.ptr tp 0):=uB.g 9 ((q1 9 (by decide)).trans g9)
   have zV:f1.get 45=some .top:=by rw[iB,Fr.get_set,Qe (by decide),Fr.get_set,Qm rfl]
   have zW:f1.get 46=some .top:=by rw[iB,Fr.get_set,Qm rfl]
   obtain⟨J1,H1,O1_47,O1_48,O1_11⟩:∃ aa,ar m Y wg31_6 f1 s2=.ok aa s2/\aa.get 47=some (.tuple [.int .i64 x.e.prop,.ptr x.id 0])/\aa.get 48=some (.ptr x.id 0)/\aa.get 11=some (.ptr x.id 0):=⟨_,by simp only[Rw,rQ,rA,xk,wg31_6,een,extract1,nd_ent]<;>rfl,gn (gn gh),gn gh,gh⟩
   obtain⟨J2,H2,O2_49,O2_50,O2_51,O2_52,O2_53,O2_54,O2_55⟩:∃ aa,ar m Y wg31_7 J1 s2=.ok aa s2/\aa.get 49=some (.ptr x.id 0)/\aa.get 50=some (.ptr x.id 0)/\aa.get 51=some (.ptr x.id 0)/\aa.get 52=some (.ptr x.id 6)/\aa.get 53=some (x.csl)/\aa.get 54=some (ZI x.cl.length)/\aa.get 55=some Z0:=⟨_,by simp only[Rw,rQ,rA,O1_11,wg31_7,Yq,RG,qu,bO]<;>rfl,gn (gn (gn (gn (gn (gn gh))))),gn (gn (gn (gn (gn gh)))),gn (gn (gn (gn gh))),gn (gn (gn gh)),gn (gn gh),gn gh,gh⟩
   obtain⟨FR,s',hL,kL,cL,fL,⟨bb,bL⟩,nL,tL,oL⟩:=tot31_run (m:=m) (Y:=Y) (ro:=ro) (s:=s2) (fr:=J2) (csl:=x.csl) (cid:=x.cid) (cl:=x.cl) (T:=T) (tp:=tp) (k:=k) (g:=fun i=>VB (YC PL ks) i) (.inr ⟨rfl,(p0 x.cid (by omega) (by omega) (by omega)).trans xd⟩) (by have:=hb x dK;omega) (by have:=hb x dK;omega) (hk x dK)
    ((p0 tp (by omega) (by omega) (by omega)).trans qr) ((p2 T (by omega)).trans q6) (fun j=>by have:=cntC_le (YC PL ks) j;omega) ⟨by omega,by omega,by omega⟩ (by omega) (by omega) rfl O2_53 O2_54 O2_55 (ag H2 (ag H1 u9))
   have L44:=kL.g 44 (ag H2 (ag H1 xk))
   have L45:=kL.g 45 (ag H2 (ag H1 zV))
   have L46:=kL.g 46 (ag H2 (ag H1 zW))
   have L47:=kL.g 47 (ag H2 O1_47)
   have L48:=kL.g 48 (ag H2 O1_48)
   have L11:=kL.g 11 (ag H2 O1_11)
   have L49:=kL.g 49 O2_49
   have L50:=kL.g 50 O2_50
   have L51:=kL.g 51 O2_51
   have L52:=kL.g 52 O2_52
   have L53:=kL.g 53 O2_53
   have L54:=kL.g 54 O2_54
   have kk:=((((uB.t (aq H1)).t (aq H2)).t kL)).to (E:=[44,45,46,47,48,11,49,50,51,52,53,54,55,56,57,58,13,59,60,61,62,63,64,65,66,55])
   have hI:ac m Y wc31_1 ro f1 s2=.norm FR s':=by
    simp only[Rw,rQ,rA,wc31_1,Rx,R5,R6,R7,H1,H2,hL]
   refine⟨FR,s',hI,L44,?_,fun j hj=>?_,?_,fun h=>absurd h (by simp),fun _=>⟨fun j hj=>?_,(cL (az x dK)).2⟩,?_,?_,fun j h1 h2 h3=>?_⟩
   ·rw[oL _ (by omega) (by omega)];exact p2i
   ·rw[kk.2 j hj];exact q1 j hj
   ·exact kk.1.trans q2
   ·simp only[Qx,QI,Xh] at hj
    rcases hj with rfl | rfl | rfl | rfl | rfl | rfl | rfl | rfl | rfl | rfl | rfl | rfl | rfl | rfl | rfl | rfl | rfl | rfl | rfl | rfl | rfl | rfl | rfl
    ·exact RW L45
    ·exact RW L46
    ·exact RW L47
    ·exact RW L48
    ·exact RW L11
    ·exact RW L49
    ·exact RW L50
    ·exact RW L51
    ·exact RW L52
    ·exact RW L53
    ·exact RW L54
    ·exact RW fL
    ·exact RW bL
    ·exact(cL (az x dK)).1 57 (by decide)
    ·exact(cL (az x dK)).1 13 (by decide)
    ·exact(cL (az x dK)).1 59 (by decide)
    ·exact(cL (az x dK)).1 60 (by decide)
    ·exact(cL (az x dK)).1 61 (by decide)
    ·exact(cL (az x dK)).1 62 (by decide)
    ·exact(cL (az x dK)).1 63 (by decide)
    ·exact(cL (az x dK)).1 64 (by decide)
    ·exact(cL (az x dK)).1 65 (by decide)
    ·exact(cL (az x dK)).1 66 (by decide)
   ·rw[nL,n2,clsOf_snoc PL ks i hx,QJ];omega
   ·rw[tL,clsOf_snoc PL ks i hx]
    congr 2
    exact Xn (Vw k) (funext fun q=>(cntC_app _ _ q).symm)
   ·rw[oL _ (by omega) h3];exact p0 j h1 h2 h3)
  (fun l f s1 hl fi ⟨q1,q2,q3,q4,q5,q6,q7⟩=>by
   rw[al] at hl
   have gg:(YC PL l).Perm (PL.flatMap (·.cl)):=by rw[<-clsOf_range];unfold YC;exact hl.flatMap_right _
   refine⟨q1,q2,fun j hj BO=>?_,?_,fun j h1 h2=>?_⟩
   ·by_cases d3:l=[]
    ·have uC:PL=[]:=by
      subst d3
      have:=hl.length_eq
      rw[Zo] at this
      exact XU.1 this.symm
     rw[Qe (by simp[uC])]
     show VR ((f.get j).getD .undef)=true
     have zX:j∈[45,46,47,48,11,49,50,51,52,53,54,55,56,57,13,59,60,61,62,63,64,65,66,58]:=by
      simp only[Qx,QI,Xh] at hj ⊢
      omega
     rw[q3 d3 j zX];rfl
    ·have uC:PL≠[]:=fun h=>d3 (by
      subst h;exact XU.1 (by rw[hl.length_eq];rfl))
     obtain⟨c1,a,b,c2⟩:=q4 d3
     by_cases xl:j=58
     ·subst xl
      rw[Qm ⟨rfl,uC⟩]
      refine⟨[.int .i64 a,.int .i64 b],?_,rfl,rfl⟩
      show (f.get 58).getD .undef=_
      rw[c2];rfl
     ·rw[Qe (fun h=>xl h.1)]
      refine c1 j ?_
      simp only[Qx,QI,Xh] at hj ⊢
      omega
   ·rw[q5,gg.length_eq]
   ·show s1.get j=if j=T then _ else s.get j
    by_cases hj:j=T
    ·subst hj
     rw[Qm rfl,q6]
     congr 2
     exact Xn (Vw k) (funext fun q=>cntC_perm gg q)
    ·rw[Qe hj];exact q7 j h1 h2 hj)
 have hA:=hP.lim
 refine⟨F,S,h1,h2,h3,hP.keep fun j hj=>?_,?_,by omega,fun j a1 a2 a3=>?_⟩
 ·rw[h5 j (by omega) (by omega),Qe (by omega)]
 ·rw[h5 T o7.2.2 (fun e=>o5 e.symm),Qm rfl]
 ·rw[h5 j a1 a2,Qe a3]
noncomputable section
open Nat renaming reduceEqDiff -> rQ, reduceAdd -> rA
def LfS(s:St)(lv:AV)(id:Nat)(L:List Int):Prop:=(lv=.nilsl/\L=[])\/(∃ rest lo,lv=.own id 0 L.length 1 none lo/\L.length<=lo/\s.get id=some (.row (L.map (AV.int .i64)++rest)))
theorem LfS.sl{s:St}{lv:AV}{id:Nat}{L:List Int}(h:LfS s lv id L)(hb:L.length < 100000):RE (fun i=>i=id) s lv L:=by
 rcases h with⟨rfl,rfl⟩|⟨rest,lo,rfl,h1,h2⟩
 ·exact RB.nil (by omega) _ _
 ·have me:((L.map (AV.int .i64)).map fun x=>[x]).flatten=L.map (AV.int .i64):=by
   induction L.map (AV.int .i64) with
   | nil=>rfl
   | cons x l ih=>simp only[Q4,Xc,ih];rfl
  refine⟨by omega,fun x hx=>?_,by simp;omega,.inr (.inr ⟨id,none,lo,rest,by simp,rfl,by rw[me];exact h2⟩)⟩
  obtain⟨y,hy,rfl⟩:=Q6.1 hx
  obtain⟨z,_,rfl⟩:=Q6.1 hy
  exact⟨rfl,rfl⟩
theorem LfS.keep{s s':St}{lv:AV}{id:Nat}{L:List Int}(h:LfS s lv id L)(k:s'.get id=s.get id):LfS s' lv id L:=by
 rcases h with h|⟨rest,lo,h1,h2,h3⟩
 ·exact .inl h
 ·exact .inr ⟨rest,lo,h1,h2,k.trans h3⟩
def wg71_0:List Vc:=[ZO 1 (.box false (.t 0)),ZM 2 (.c .nilfn)]
def wg71_1:List Vc:=[ZO 3 (.mkfn 118 [] [(.t 1)]),ZV 2 3]
def wf71:Vm:=⟨4,(ZQ wg71_0 (ZR wg71_1)),[.t 2]⟩
theorem t71:Ry 71=some wf71:=by kernel_rfl
theorem keys71_run(A:Nat)(m:Nat)(Y:Vi)(st:St):R (m+1) Y 71 [.map A] st=.ret (.func (.func 118) [] [.ptr st.next 0]) (st.new (.row [.map A])):=by
 obtain⟨fA1,au⟩:∃ fA,fA=Vo 0 [.map A] Fr.nil:=⟨_,rfl⟩
 have gA1_0:=R9 au 0
 have dA1:fA1.ds=[]:=by rw[au];rfl
 obtain⟨J2,H2,O2_1⟩:∃ aa,ar m Y wg71_0 fA1 st=.ok aa (st.new (.row [.map A]))/\aa.get 1=some (.ptr st.next 0):=⟨_,by simp only[Rw,rQ,rA,gA1_0,wg71_0]<;>rfl,gn gh⟩
 have W2:=ad H2 dA1
 obtain⟨J3,H3,O3_2⟩:∃ aa,ar m Y wg71_1 J2 (st.new (.row [.map A]))=.ok aa (st.new (.row [.map A]))/\aa.get 2=some (.func (.func 118) [] [.ptr st.next 0]):=⟨_,by simp only[Rw,rQ,rA,O2_1,wg71_1,Jy]<;>rfl,gh⟩
 have W3:=ad H3 W2
 refine Ve (mf:=wf71) (fr:=J3) t71 rfl (.inl ?q3) W3 (by simp only[wf71,Rw,O3_2])
 case q3=>
  rw[<-au]
  simp only[Rw,rQ,rA,wf71,Rx,R5,R6,R7,H2,H3]
theorem t70:Ry 70=none:=by kernel_rfl
theorem in64_ok{x:Int}(h:RS x=true):in64 x=true:=by
 obtain⟨h1,h2⟩:=(Tb x).1 h
 obtain⟨n,rfl⟩:∃ n:Nat,x=.ofNat n:=⟨x.toNat,by show x=((x.toNat:Nat):Int);omega⟩
 have h2:(n:Int)<=2147483647:=h2
 exact Qo (by omega)
theorem keysI_esP(PL:List Pr)(h:∀ x∈PL,RS x.e.prop=true):keysI (esP PL)=some (PL.map fun x=>x.e.prop):=by
 unfold esP
 induction PL with
 | nil=>rfl
 | cons x PL ih=>
  simp only[Q4,keysI,in64_ok (h x (by simp)),Qi,ih (fun y hy=>h y (by simp[hy])),Ql]
theorem sorted70_run{PL:List Pr}{A c:Nat}{st:St}(hc:st.get c=some (.row [.map A]))(hA:st.get A=some (.fmap (esP PL)))(hk:∀ x∈PL,RS x.e.prop=true)(hn:(PL.map fun x=>x.e.prop).Nodup)(hl:PL.length<=4000)(m:Nat)(Y:Vi):
  ∃ lv af,R (m+1) Y 70 [.func (.func 118) [] [.ptr c 0]] st=.ret lv af/\LfS af lv st.next (Wn (PL.map fun x=>x.e.prop))/\st.next<=af.next/\(∀ j,j < st.next->af.get j=st.get j)/\(Wn (PL.map fun x=>x.e.prop)≠[]->st.next < af.next)/\(Wn (PL.map fun x=>x.e.prop)=[]->lv=.nilsl):=by
 have hR:R (m+1) Y 70 [.func (.func 118) [] [.ptr c 0]] st=Ui 118 [.func (.func 118) [] [.ptr c 0]] st:=by
  unfold R
  simp only[Ji,t70]
  rfl
 have fX:esOf st A=some (esP PL):=by unfold esOf;rw[hA]
 have al:(PL.map fun x=>x.e.prop).length=PL.length:=Qu ..
 have hb:Nat.ble (PL.map fun x=>x.e.prop).length 1000000=true:=Qo (by omega)
 rw[hR]
 unfold Ui
 have uD:Nat.beq 118 118=true:=rfl
 simp only[uD,Qi,hc,fX,Qg,keysI_esP PL hk,sortI_asc hn,hb,Qy]
 generalize hL:Wn (PL.map fun x=>x.e.prop)=L
 cases L with
 | nil=>exact⟨_,_,rfl,.inl ⟨rfl,rfl⟩,Qw _,fun _ _=>rfl,(fun h=>absurd rfl h),fun _=>rfl⟩
 | cons x l=>exact⟨_,_,rfl,.inr ⟨[],_,rfl,Qw _,by rw[St.get_new,Qm rfl,QG]⟩,by simp,fun j hj=>by rw[St.get_new,Qe (by omega)],(fun _=>by simp),fun h=>by cases h⟩
def wg74_0:List Vc:=[ZM 6 (.c .nilsl)]
def wg74_1:List Vc:=[ZV 8 0,ZV 9 1,ZV 10 2,ZV 11 0,ZN 12 11,ZO 13 (.slice 1 (.t 8) (some (.t 9)) (some (.t 10)) (some (.t 12)))]
def wg74_2:List Vc:=[ZV 14 1,ZV 15 2,ZO 16 (.bin false .eql (.t 14) (.t 15))]
def wg74_3:List Vc:=[ZV 17 0,ZV 6 17]
def wg74_4:List Vc:=[ZV 18 0,ZN 19 18,ZV 7 19]
def wg74_5:List (Vc × Nat):=[(ZV 20 0,0),(ZV 21 1,0),(ZO 22 (.slice 1 (.t 20) none (some (.t 21)) none),3),(ZV 23 0,0),(ZV 24 2,0),(ZO 25 (.slice 1 (.t 23) (some (.t 24)) none none),24),(ZO 26 (.append 8 1 none (.t 22) (.t 25)),63),(ZV 0 26,127)]
def wg74_6:List Vc:=[ZV 27 0,ZV 28 0,ZN 29 28,ZV 30 7,ZO 31 (.slice 1 (.t 27) (some (.t 29)) (some (.t 30)) none),⟨none,.clr 1 [Z0] (.t 31),none⟩]
def wg74_7:List Vc:=[ZV 32 0,ZV 6 32]
def wf74:Vm:=⟨33,(ZQ wg74_0 (ZQ wg74_1 (.seq (ZQ wg74_2 (.cond (.t 16) (ZR wg74_3) .skip)) (ZQ wg74_4 (.seq (.draw wg74_5 []) (ZQ wg74_6 (ZR wg74_7))))))),[.t 6]⟩
theorem t74:Ry 74=some wf74:=by kernel_rfl
theorem Pn(n:Nat):JC (some (ZI n))=some (some n):=rfl
theorem delete74_run{s:St}{lv:AV}{id:Nat}{L:List Int}(h:LfS s lv id L)(hb:L.length<=4000){i:Nat}(hi:i < L.length)(m:Nat)(Y:Vi):
  ∃ iw s',R (m+1) Y 74 [lv,ZI i,ZI ((i+1))] s=.ret iw s'/\LfS s' iw id (L.eraseIdx i)/\s'.next=s.next/\∀ j,j≠id->s'.get j=s.get j:=by
 rcases h with⟨rfl,rfl⟩|⟨rest,lo,rfl,fw,hg⟩
 ·simp at hi
 have de:(L.eraseIdx i).length=L.length - 1:=List.length_eraseIdx_of_lt hi
 obtain⟨n,hn⟩:∃ n,L.length=n+1:=⟨L.length - 1,by omega⟩
 have bB:(L.map (AV.int .i64)).length=n+1:=by rw[Qu,hn]
 have l1:∀ k gm af,(bif VD 0 (.own id 0 k 1 none gm) then Wm af (.own id 0 k 1 none gm) else none)=some (ZI k):=fun k gm af=>rfl
 have s1:Ys 1 (.own id 0 (n+1) 1 none lo) (some (ZI i)) (some (ZI ((i+1)))) (some (ZI ((n+1))))=some (.own id (0+i*1) (i+1 - i) 1 (some (n+1 - i)) 0):=by
  simp only[Ys,Pn,Qg,TF,Q9,QD,Qo (show i<=i+1 by omega),hiOk,Qo (show i+1<=n+1 by omega),QU,Qy,Qi,Qo (Qw (n+1)),Option.isSome_some,XS]
 have s2:Ys 1 (.own id 0 (n+1) 1 none lo) none (some (ZI i)) none=some (.own id (0+0*1) (i - 0) 1 none (lo - 0)):=by
  simp only[Ys,Pn,JC,Ql,Qg,TF,Q9,X5,QD,Qo (X3 i),hiOk,Qo (show i<=n+1 by omega),QU,Qy,Qi,bndA]
 rw[Nat.sub_zero,Nat.sub_zero] at s2
 have s2:Ys 1 (.own id 0 (n+1) 1 none lo) none (some (ZI i)) none=some (.own id 0 i 1 none lo):=s2
 have eql:Vr false .eql (ZI i) (ZI ((i+1)))=some (.bool false):=by
  rw[eqlI];congr 2;simp;omega
 have s4:Ys 1 (.own id 0 n 1 none lo) (some (ZI n)) (some (ZI ((n+1)))) none=some (.own id (0+n*1) (n+1 - n) 1 none (lo - n)):=by
  simp only[Ys,Pn,JC,Ql,Qg,TF,Q9,X5,QD,Qo (show n<=n+1 by omega),hiOk,Qo (show n+1<=lo by omega),XS,Qy,Qi,bndA,Qo (Qw (n+1))]
 rw[Q7,XP,show n+1 - n=1 by omega] at s4
 -- the row behind it
 have key:∃ sA nQ lu,Ys 1 (.own id 0 (n+1) 1 none lo) (some (ZI ((i+1)))) none none=some nQ/\Wd 1 s nQ=some lu/\VX 8 1 s (.own id 0 i 1 none lo) lu.1 lu.2=some (.own id 0 n 1 none lo,sA)/\sA.next=s.next/\(∀ j,j≠id->sA.get j=s.get j)/\∃ z,sA.get id=some (.row ((L.eraseIdx i).map (AV.int .i64)++z::rest)):=by
  have cW:(L.map (AV.int .i64)++rest).length=n+1+rest.length:=by rw[QJ,bB]
  by_cases ql:i=n
  ·subst ql
   refine⟨s,.lst 0 [] false,(0,[]),?_,rfl,rfl,rfl,fun _ _=>rfl,?_⟩
   ·have cF:Nat.ble (i+1+1) (i+1)=false:=by
     cases hx:Nat.ble (i+1+1) (i+1) with
     | false=>rfl
     | true=>have:=Qk hx;omega
    have oW:Nat.beq (i+1) 0=false:=rfl
    simp only[Ys,Pn,JC,Ql,Qg,TF,Q9,X5,QD,Qo (Qw (i+1)),hiOk,QU,Qy,Qi,bndA,cF,oW,Bool.or_false,Qq]
   ·obtain⟨L',x,rfl⟩:∃ L' x,L=L'++[x]:=⟨L.dropLast,L.getLast (by intro h;simp[h] at hn),(List.dropLast_concat_getLast _).symm⟩
    have xm:L'.length=i:=by simp at hn;exact hn
    refine⟨.int .i64 x,?_⟩
    rw[hg]
    subst xm
    simp[List.eraseIdx_append_of_length_le]
  ·have am:i < n:=by omega
   refine⟨s.put id (.row (setCells (L.map (AV.int .i64)++rest) i (((L.map (AV.int .i64)++rest).drop (i+1)).take (n - i)))),.own id (i+1) (n - i) 1 none (lo - (i+1)),(n - i,((L.map (AV.int .i64)++rest).drop (i+1)).take (n - i)),?_,?_,?_,rfl,fun j hj=>by rw[St.get_put,Qe hj],?_⟩
   ·have oW:Nat.beq (i+1) 0=false:=rfl
    have:Ys 1 (.own id 0 (n+1) 1 none lo) (some (ZI ((i+1)))) none none=some (.own id (0+(i+1)*1) (n+1 - (i+1)) 1 none (lo - (i+1))):=by
     simp only[Ys,Pn,JC,Ql,Qg,TF,Q9,X5,QD,Qo (show i+1<=n+1 by omega),hiOk,Qo (Qw (n+1)),QU,Qy,Qi,bndA,Qo (show i+1+1<=n+1 by omega),XS]
    rw[this,Q7,XP,show n+1 - (i+1)=n - i by omega]
   ·simp only[Wd,hg,QD,XP,Qo (show i+1+(n - i)<=(L.map (AV.int .i64)++rest).length by omega),Qy,Qi]
   ·have aA:(((L.map (AV.int .i64)++rest).drop (i+1)).take (n - i)).all AV.one=true:=by
     rw[List.drop_append_of_le_length (by omega),XG (by rw[List.length_drop,bB];omega),QB]
     intro x hx
     obtain⟨y,_,rfl⟩:=Q6.1 (List.mem_of_mem_drop (XE hx))
     rfl
    have oZ:Nat.beq (n - i) 0=false:=by
     cases hx:n - i with
     | zero=>omega
     | succ q=>rfl
    have nR:i+(n - i)=n:=by omega
    unfold VX
    simp only[oZ,Qq,hg,QD,nR,Q7,XP,Qo (show n*8<=140737488355328 by omega),Qo (show n<=140737488355328 by omega),Qo (show i<=(L.map (AV.int .i64)++rest).length by omega),aA,Qy,Qi,KY,Qo (show n<=lo by omega),Qo (show n<=(L.map (AV.int .i64)++rest).length by omega)]
   ·obtain⟨L',x,rfl⟩:∃ L' x,L=L'++[x]:=⟨L.dropLast,L.getLast (by intro h;simp[h] at hn),(List.dropLast_concat_getLast _).symm⟩
    have xm:L'.length=n:=by simp at hn;exact hn
    refine⟨.int .i64 x,?_⟩
    rw[St.get_put,Qm rfl]
    congr 2
    unfold setCells
    have e1:((L'++[x]).map (AV.int .i64)++rest).take i=(L'.map (AV.int .i64)).take i:=by
     rw[QQ,Xb,XG (by simp;omega)]
    have e2:(((L'++[x]).map (AV.int .i64)++rest).drop (i+1)).take (n - i)=(L'.map (AV.int .i64)).drop (i+1)++[AV.int .i64 x]:=by
     rw[QQ,Xb,List.drop_append_of_le_length (by simp;omega),List.take_append,Xx (by simp;omega)]
     congr 1
     rw[show n - i - ((L'.map (AV.int .i64)).drop (i+1)).length=1 by simp;omega]
     rfl
    rw[e1,e2]
    have e3:((L'++[x]).map (AV.int .i64)++rest).drop (i+((L'.map (AV.int .i64)).drop (i+1)++[AV.int .i64 x]).length)=AV.int .i64 x::rest:=by
     have:i+((L'.map (AV.int .i64)).drop (i+1)++[AV.int .i64 x]).length=(L'.map (AV.int .i64)).length:=by simp;omega
     rw[this,QQ,Xb,List.drop_left];rfl
    rw[e3,List.eraseIdx_append_of_lt_length (by omega),QQ,List.eraseIdx_eq_take_drop_succ,QQ,List.map_take,List.map_drop]
    simp
 obtain⟨sA,nQ,lu,k1,k2,k3,k4,k5,z,k6⟩:=key
 have clr:Ps 1 [Z0] sA (.own id n 1 1 none (lo - n))=some (sA.put id (.row (setCells ((L.eraseIdx i).map (AV.int .i64)++z::rest) n [Z0]))):=by
  have hz:Yl [ZI 0] 1=[Z0]:=rfl
  simp only[Ps,k6,QD,hz,QC,X2,Q7,XP,Qo (show n+1<=((L.eraseIdx i).map (AV.int .i64)++z::rest).length by simp[de];omega),Qy,Qi,QN,QW,AV.one]
 have dv:LfS (sA.put id (.row (setCells ((L.eraseIdx i).map (AV.int .i64)++z::rest) n [Z0]))) (.own id 0 n 1 none lo) id (L.eraseIdx i):=by
  refine .inr ⟨Z0::rest,lo,by rw[de,hn];rfl,by omega,?_⟩
  rw[St.get_put,Qm rfl]
  congr 2
  have fE:((L.eraseIdx i).map (AV.int .i64)).length=n:=by rw[Qu,de];omega
  unfold setCells
  rw[List.take_left' fE,<-fE,ZZ]
  simp
 rw[hn]
 obtain⟨fA1,au⟩:∃ fA,fA=Vo 0 [.own id 0 (n+1) 1 none lo,ZI i,ZI ((i+1))] Fr.nil:=⟨_,rfl⟩
 have gA1_0:=R9 au 0
 have gA1_1:=R9 au 1
 have gA1_2:=R9 au 2
 have dA1:fA1.ds=[]:=by rw[au];rfl
 obtain⟨J2,H2⟩:∃ aa,ar m Y wg74_0 fA1 s=.ok aa s:=⟨_,by simp only[Rw,rQ,rA,wg74_0]<;>rfl⟩
 have V2_0:=ag H2 gA1_0
 have V2_1:=ag H2 gA1_1
 have V2_2:=ag H2 gA1_2
 have W2:=ad H2 dA1
 obtain⟨J3,H3⟩:∃ aa,ar m Y wg74_1 J2 s=.ok aa s:=⟨_,by simp only[Rw,rQ,rA,V2_0,V2_1,V2_2,wg74_1,l1,s1,Kx,Qc,Qb]<;>rfl⟩
 have V3_1:=ag H3 V2_1
 have V3_2:=ag H3 V2_2
 have W3:=ad H3 W2
 obtain⟨J4,H4,O4_16⟩:∃ aa,ar m Y wg74_2 J3 s=.ok aa s/\aa.get 16=some (.bool false):=⟨_,by simp only[Rw,rQ,rA,V3_1,V3_2,wg74_2,eql]<;>rfl,gh⟩
 have V4_0:=ag H4 (ag H3 V2_0)
 obtain⟨J5,H5,O5_7⟩:∃ aa,ar m Y wg74_4 J4 s=.ok aa s/\aa.get 7=some (ZI ((n+1))):=⟨_,by simp only[Rw,rQ,rA,V4_0,wg74_4,l1]<;>rfl,gh⟩
 have V5_0:=ag H5 V4_0
 have V5_1:=ag H5 (ag H4 V3_1)
 have V5_2:=ag H5 (ag H4 V3_2)
 have W5:=ad H5 (ad H4 W3)
 obtain⟨J6,H6,K6,O6_0⟩:∃ aa,VK ((gT m).cg Y) wg74_5 [] J5 s=.ok aa sA/\Kp [1,2,16,7] J5 aa/\aa.get 0=some (.own id 0 n 1 none lo):=⟨_,Wj rfl (by simp only[Rw,rQ,rA,V5_0,V5_1,V5_2,wg74_5,s2,k1,k2,k3,tagN,Option.map_none,Kx,Qc,Qb]<;>rfl),Kp.refl.s.s.s.s.s.s.s.s,gh⟩
 have V6_7:=K6.g 7 O5_7
 have W6:=K6.1.trans W5
 obtain⟨J7,H7⟩:∃ aa,ar m Y wg74_6 J6 sA=.ok aa (sA.put id (.row (setCells ((L.eraseIdx i).map (AV.int .i64)++z::rest) n [Z0]))):=⟨_,by simp only[Rw,rQ,rA,V6_7,O6_0,wg74_6,l1,s4,clr,Option.map_none,R4.of2,nd_clr,Kx,Qc,Qb]<;>rfl⟩
 obtain⟨J8,H8,O8_6⟩:∃ aa,ar m Y wg74_7 J7 (sA.put id (.row (setCells ((L.eraseIdx i).map (AV.int .i64)++z::rest) n [Z0])))=.ok aa (sA.put id (.row (setCells ((L.eraseIdx i).map (AV.int .i64)++z::rest) n [Z0])))/\aa.get 6=some (.own id 0 n 1 none lo):=⟨_,by simp only[Rw,rQ,rA,(ag H7 O6_0),wg74_7]<;>rfl,gh⟩
 have W8:=ad H8 (ad H7 W6)
 refine⟨_,_,Ve (mf:=wf74) (fr:=J8) t74 rfl (.inl ?q8) W8 (by simp only[wf74,Rw,O8_6]),dv,k4,fun j hj=>by rw[St.get_put,Qe hj];exact k5 j hj⟩
 case q8=>
  rw[<-au]
  simp only[Rw,rQ,rA,wf74,Rx,R5,R6,R7,H2,H3,H4,H5,H6,H7,H8,O4_16]
end
noncomputable section
open Nat renaming reduceEqDiff -> rQ, reduceAdd -> rA
theorem iaN{T k i:Nat}(h:i < k)(c:Option Nat)(lo:Nat):VC 1 (.own T 0 k 1 c lo) (ZI i)=some (.ptr T i):=by
 show (bif (i+1).ble k&&(1:Nat).beq 1 then some (AV.ptr T (0+i*1)) else none)=_
 rw[Qo (by omega)];simp
theorem lookQ(PL:List Pr){s:St}{A:Nat}(h:s.get A=some (.fmap (esP PL))){x:Pr}{q:Int}(hx:PL.find? (fun x=>x.e.prop==q)=some x):JP false .nilptr false s (.map A) (.int .i64 q)=some (.ptr x.id 0):=by
 unfold JP
 simp only[h]
 unfold esP
 rw[Sh (fun x:Pr=>x.e.prop) (fun x=>AV.ptr x.id 0),hx];rfl
theorem Sk{PL:List Pr}(hn:(PL.map fun x=>x.e.prop).Nodup){x:Pr}(hx:x∈PL):PL.find? (fun y=>y.e.prop==x.e.prop)=some x:=by
 induction PL with
 | nil=>simp at hx
 | cons z l ih=>
  rw[Q4,Zz] at hn
  rcases Qx.1 hx with h | h
  ·rw[List.find?_cons,h];simp
  ·have az:(z.e.prop==x.e.prop)=false:=by
    have:z.e.prop≠x.e.prop:=fun he=>hn.1 (Q6.2 ⟨x,h,he.symm⟩)
    simpa using this
   rw[List.find?_cons,az];exact ih hn.2 h
theorem min_if(a b:Int):(if b < a then b else a)=min a b:=by
 by_cases h:b < a
 ·rw[Qm h];omega
 ·rw[Qe h];omega
def rdyN(th tt:Nat->Nat)(l:List Int):Bool:=l.zipIdx.all fun z=>!decide ((th z.2:Int) < min z.1 (tt z.2))
def wg72_0:List Vc:=[ZM 5 (ZB false)]
def wg72_1:List Vc:=[ZL 8 1,ZV 9 0,ZO 10 (.lookup false .nilptr false (.t 8) (.t 9)),ZO 11 (.nilchk (.t 10)),ZA 12 9 11,ZL 13 12,ZN 14 13,ZM 15 (ZC 0)]
def wg72_2:List Vc:=[ZO 16 (.bin false .lss (.t 15) (.t 14))]
def wg72_3:List Vc:=[ZV 17 15,ZP 18 1 13 15,ZL 19 18,ZV 6 17,ZV 7 19]
def wg72_4:List (Vc × Nat):=[(ZL 20 2,0),(ZV 21 6,0),(ZP 22 1 20 21,3),(ZL 23 22,7),(ZV 24 7,0),(ZL 25 3,0),(ZV 26 6,0),(ZP 27 1 25 26,96),(ZL 28 27,224),(ZO 29 (.min (.t 24) [(.t 28)]),496),(ZO 30 (.bin false .lss (.t 23) (.t 29)),1023)]
def wg72_5:List Vc:=[ZM 5 (ZB false)]
def wg72_6:List Vc:=[ZO 31 (.bin false .add (.t 15) (ZC 1)),ZV 15 31]
def wg72_7:List Vc:=[ZM 5 (ZB true)]
def Kk:Vn:=(ZQ wg72_2 (.seq (.cond (.t 16) .skip (.exit 0)) (.seq (.block 1 (ZQ wg72_3 (.seq (.draw wg72_4 []) (.cond (.t 30) (ZR wg72_5) .skip)))) (.region wg72_6))))
def wf72:Vm:=⟨32,(ZQ wg72_0 (.seq (ZQ wg72_1 (.block 0 (.loop Kk))) (ZR wg72_7))),[.t 5]⟩
theorem t72:Ry 72=some wf72:=by kernel_rfl
theorem ready72_run{s:St}{A lim hi:Nat}{d:List Sp}{PL:List Pr}(hP:PrSt A lim hi d s PL){x6 x8 x9 Th Tt k:Nat}{th tt:Nat->Nat}(h6:s.get x6=some (.row [.map A]))(h8:s.get x8=some (.row [.own Th 0 k 1 (some k) 0]))(h9:s.get x9=some (.row [.own Tt 0 k 1 (some k) 0]))
  (qv:s.get Th=some (.row (Vw k th))) (qw:s.get Tt=some (.row (Vw k tt))) {x:Pr} (hx:x∈PL) (bc:x.e.ok) (al:x.e.seen.length=k) (m:Nat) (Y:Vi) (hm:k < m):
  R (m+1) Y 72 [.int .i64 x.e.prop,.ptr x6 0,.ptr x8 0,.ptr x9 0] s=.ret (.bool (rdyN th tt x.e.seen)) s:=by
 obtain⟨xa,xb,xc,xd,xf,xg,xu,xv⟩:=hP.one x hx
 have hn:(PL.map fun x=>x.e.prop).Nodup:=by rw[hP.prs];exact Wu _
 have lk:=lookQ PL hP.all (Sk hn hx)
 have l6:Vf false 1 s (.ptr x6 0)=some (.map A):=Vk h6 rfl
 have l8:Vf false 1 s (.ptr x8 0)=some (.own Th 0 k 1 (some k) 0):=Vk h8 rfl
 have l9:Vf false 1 s (.ptr x9 0)=some (.own Tt 0 k 1 (some k) 0):=Vk h9 rfl
 have zY:Vf false 1 s (.ptr x.id 9)=some x.e.ssl:=by
  obtain⟨a,b',c',gJ,_⟩:=x.e.d.cells_abc
  refine Vk xc ?_
  unfold Pr.row YX;rw[gJ];rfl
 obtain⟨o1,o2,o3,o4,o5,o6⟩:=bc
 have hS:=JA x.e.snl x.e.sex x.e.seen o5 o6 (fun _=>False) s
 have hl:(bif VD 0 x.e.ssl then Wm s x.e.ssl else none)=some (ZI x.e.seen.length):=RE.len hS s
 unfold rdyN
 generalize qn:(fun z:Int × Nat=>!decide ((th z.2:Int) < min z.1 (tt z.2)))=pr
 have hL:∀(fr:Fr),fr.ds=[]->fr.get 2=some (.ptr x8 0)->fr.get 3=some (.ptr x9 0)->fr.get 13=some x.e.ssl->fr.get 14=some (ZI x.e.seen.length)->fr.get 15=some Z0->∃ FR,FR.ds=[] ∧
   ((Vx (ac m Y Kk none) m fr s=.exit 0 FR s/\x.e.seen.zipIdx.all pr=true)\/(Vx (ac m Y Kk none) m fr s=.ret FR s/\FR.get 5=some (.bool false)/\x.e.seen.zipIdx.all pr=false)):=by
  intro fr d0 g2 g3 eR ip iq
  refine Ws (B:=ac m Y Kk none) (N:=x.e.seen.length) (R3:=fun j fr ai=>fr.ds=[]/\fr.get 2=some (.ptr x8 0)/\fr.get 3=some (.ptr x9 0)/\fr.get 13=some x.e.ssl/\fr.get 14=some (ZI x.e.seen.length)/\fr.get 15=some (ZI j)/\ai=s/\(x.e.seen.zipIdx.take j).all pr=true)
   (Out:=fun r=>∃ FR,FR.ds=[]/\((r=.exit 0 FR s/\x.e.seen.zipIdx.all pr=true)\/(r=.ret FR s/\FR.get 5=some (.bool false)/\x.e.seen.zipIdx.all pr=false))) ?_ x.e.seen.length 0 fr s m (by omega) (by omega) ⟨d0,g2,g3,eR,ip,iq,rfl,rfl⟩
  intro j fr ai hj ⟨d0,g2,g3,eR,ip,iq,e1,aA⟩
  subst e1
  have am:=Wt j x.e.seen.length
  by_cases br:j < x.e.seen.length
  ·have aL:x.e.seen[j]?=some x.e.seen[j]:=Qn br
   generalize x.e.seen[j]=n at aL
   have hz:x.e.seen.zipIdx[j]?=some (n,j):=by rw[List.getElem?_zipIdx,aL];simp
   obtain⟨pe,ie,bk⟩:=RE.at hS aL
   have ie:VC 1 x.e.ssl (ZI j)=some pe:=ie
   have bk:=bk ai (Vs.refl _ _)
   have i8:=iaN (T:=Th) (k:=k) (i:=j) (by omega) (some k) 0
   have i9:=iaN (T:=Tt) (k:=k) (i:=j) (by omega) (some k) 0
   have zZ:Vf false 1 ai (.ptr Th j)=some (ZI ((th j))):=Vk qv (Jv (by omega))
   have qt:Vf false 1 ai (.ptr Tt j)=some (ZI ((tt j))):=Vk qw (Jv (by omega))
   have mn:foldA minA (.int .i64 n) [ZI ((tt j))]=some (.int .i64 (min n (tt j))):=by
    show some (AV.int .i64 (if (.ofNat (tt j)) < n then .ofNat (tt j) else n))=_
    rw[min_if];rfl
   have ls:=lssI (.ofNat (th j)) (min n (tt j))
   have aU:=WC (i:=j) (by omega)
   have bz:=YR pr x.e.seen.zipIdx j (n,j) hz
   rw[aA,Q3] at bz
   have hZ:pr (n,j)=!decide (Int.ofNat (th j) < min n (tt j)):=by rw[<-qn];rfl
   rw[hZ] at bz
   rw[Qs br] at am
   generalize decide (Int.ofNat (th j) < min n (tt j))=B at *
   obtain⟨J1,H1,O1_16⟩:∃ aa,ar m Y wg72_2 fr ai=.ok aa ai/\aa.get 16=some (.bool true):=⟨_,by simp only[Rw,rQ,rA,ip,iq,wg72_2,am]<;>rfl,gh⟩
   have V1_13:=ag H1 eR
   have V1_15:=ag H1 iq
   obtain⟨J2,H2,O2_6,O2_7⟩:∃ aa,ar m Y wg72_3 J1 ai=.ok aa ai/\aa.get 6=some (ZI j)/\aa.get 7=some (.int .i64 n):=⟨_,by simp only[Rw,rQ,rA,V1_13,V1_15,wg72_3,ie,bk]<;>rfl,gn gh,gh⟩
   have V2_2:=ag H2 (ag H1 g2)
   have V2_3:=ag H2 (ag H1 g3)
   have W2:=ad H2 (ad H1 d0)
   obtain⟨J3,H3,K3,O3_30⟩:∃ aa,VK ((gT m).cg Y) wg72_4 [] J2 ai=.ok aa ai/\Kp [2,3,13,14,15,16,6,7] J2 aa/\aa.get 30=some (.bool B):=⟨_,Wj rfl (by simp only[Rw,rQ,rA,V2_2,V2_3,O2_6,O2_7,wg72_4,l8,l9,i8,i9,zZ,qt,mn,ls,Q4,QZ,nd_min]<;>rfl),Kp.refl.s.s.s.s.s.s.s.s.s.s.s,gh⟩
   have V3_2:=K3.g 2 V2_2
   have V3_3:=K3.g 3 V2_3
   have V3_13:=K3.g 13 (ag H2 V1_13)
   have V3_14:=K3.g 14 (ag H2 (ag H1 ip))
   have V3_15:=K3.g 15 (ag H2 V1_15)
   have W3:=K3.1.trans W2
   cases B with
   | true=>
    obtain⟨J4,H4,O4_5⟩:∃ aa,ar m Y wg72_5 J3 ai=.ok aa ai/\aa.get 5=some (.bool false):=⟨_,by simp only[Rw,rQ,rA,wg72_5]<;>rfl,gh⟩
    have dr:ac m Y Kk none fr ai=.ret J4 ai:=by
     simp only[Rw,rQ,rA,Kk,Rx,R5,R6,R7,H1,H2,H3,H4,O1_16,O3_30]
    rw[dr]
    exact⟨_,(ad H4 W3),.inr ⟨rfl,O4_5,WV (k:=j+1) (by rw[bz];rfl)⟩⟩
   | false=>
    obtain⟨J5,H5,O5_15⟩:∃ aa,ar m Y wg72_6 J3 ai=.ok aa ai/\aa.get 15=some (ZI ((j+1))):=⟨_,by simp only[Rw,rQ,rA,V3_15,wg72_6,aU]<;>rfl,gh⟩
    have V5_2:=ag H5 V3_2
    have V5_14:=ag H5 V3_14
    have W5:=ad H5 W3
    have bV:ac m Y Kk none fr ai=.norm J5 ai:=by
     simp only[Rw,rQ,rA,Kk,Rx,R5,R6,R7,H1,H2,H3,H5,O1_16,O3_30]
    rw[bV]
    exact⟨br,W5,V5_2,(ag H5 V3_3),(ag H5 V3_13),V5_14,O5_15,rfl,by rw[bz];rfl⟩
  ·rw[Qp br] at am
   have b9:j=x.e.seen.length:=by omega
   rw[Xx (by rw[List.length_zipIdx];omega)] at aA
   obtain⟨J6,H6,O6_16⟩:∃ aa,ar m Y wg72_2 fr ai=.ok aa ai/\aa.get 16=some (.bool false):=⟨_,by simp only[Rw,rQ,rA,ip,iq,wg72_2,am]<;>rfl,gh⟩
   have W6:=ad H6 d0
   have ed:ac m Y Kk none fr ai=.exit 0 J6 ai:=by
    simp only[Rw,rQ,rA,Kk,Rx,R5,R6,R7,H6,O6_16]
   rw[ed]
   exact⟨_,W6,.inl ⟨rfl,aA⟩⟩
 obtain⟨fA7,dt⟩:∃ fA,fA=Vo 0 [.int .i64 x.e.prop,.ptr x6 0,.ptr x8 0,.ptr x9 0] Fr.nil:=⟨_,rfl⟩
 have gA7_0:=R9 dt 0
 have gA7_1:=R9 dt 1
 have gA7_2:=R9 dt 2
 have gA7_3:=R9 dt 3
 have dA7:fA7.ds=[]:=by rw[dt];rfl
 obtain⟨J8,H8⟩:∃ aa,ar m Y wg72_0 fA7 s=.ok aa s:=⟨_,by simp only[Rw,rQ,rA,wg72_0]<;>rfl⟩
 have V8_0:=ag H8 gA7_0
 have V8_1:=ag H8 gA7_1
 have V8_2:=ag H8 gA7_2
 have W8:=ad H8 dA7
 obtain⟨J9,H9,O9_13,O9_14,O9_15⟩:∃ aa,ar m Y wg72_1 J8 s=.ok aa s/\aa.get 13=some (x.e.ssl)/\aa.get 14=some (ZI x.e.seen.length)/\aa.get 15=some Z0:=⟨_,by simp only[Rw,rQ,rA,V8_0,V8_1,wg72_1,l6,lk,Yq,RG,zY,hl,JL]<;>rfl,gn (gn gh),gn gh,gh⟩
 have W9:=ad H9 W8
 obtain⟨FR,dF,hL⟩:=hL J9 W9 (ag H9 V8_2) (ag H9 (ag H8 gA7_3)) O9_13 O9_14 O9_15
 rcases hL with⟨hL,he⟩|⟨hL,F5,he⟩
 ·rw[he]
  obtain⟨J10,H10,O10_5⟩:∃ aa,ar m Y wg72_7 FR s=.ok aa s/\aa.get 5=some (.bool true):=⟨_,by simp only[Rw,rQ,rA,wg72_7]<;>rfl,gh⟩
  have W10:=ad H10 dF
  refine Ve (mf:=wf72) (fr:=J10) t72 rfl (.inl ?q10) W10 (by simp only[wf72,Rw,O10_5])
  case q10=>
   rw[<-dt]
   simp only[Rw,rQ,rA,wf72,Rx,R5,R6,R7,H8,H9,hL,H10]
 ·rw[he]
  refine Ve (mf:=wf72) (fr:=FR) t72 rfl (.inl ?q11) dF (by simp only[wf72,Rw,F5])
  case q11=>
   rw[<-dt]
   simp only[Rw,rQ,rA,wf72,Rx,R5,R6,R7,H8,H9,hL]
theorem seenE_find{d:List Sp}{q:Int}{p i:Nat}{e:En}(h:d.find? (fun z=>z.2.2.prop==q)=some (p,i,e)):seenE (RA d) q=e.seen:=by
 have:(RA d).find? (fun e=>e.prop==q)=some e:=by
  unfold RA
  rw[List.find?_map]
  have h2:((fun e:En=>e.prop==q) ∘ fun z:Sp=>z.2.2)=fun z=>z.2.2.prop==q:=rfl
  rw[h2,h];rfl
 unfold seenE;rw[this]
theorem firstReady_run{s:St}{A lim hi:Nat}{d:List Sp}{PL:List Pr}(hP:PrSt A lim hi d s PL){x6 x8 x9 Th Tt k:Nat}{out:List Int}(h6:s.get x6=some (.row [.map A]))(h8:s.get x8=some (.row [.own Th 0 k 1 (some k) 0]))(h9:s.get x9=some (.row [.own Tt 0 k 1 (some k) 0]))
  (qv:s.get Th=some (.row (Vw k fun i=>Wa (RA d) out i))) (qw:s.get Tt=some (.row (Vw k fun i=>VF (RA d) i))) (bc:∀ x∈PL,x.e.ok/\x.e.seen.length=k) {lv:AV} {lid:Nat} {L:List Int} (hL:LfS s lv lid L) (Aa:∀ q∈L,∃ x∈PL,x.e.prop=q) (hb:L.length<=4000) (m:Nat) (Y:Vi) (hm:k+5000 < m):
  R (m+2) Y 73 [lv,.func (.func 72) [] [.ptr x6 0,.ptr x8 0,.ptr x9 0]] s=.ret (.int .i64 (match L.findIdx? (Jp (RA d) out) with
   | none=>.negSucc 0
   | some i=>.ofNat i)) s:=by
 have ch:∀ x∈PL,rdyN (fun i=>Wa (RA d) out i) (fun i=>VF (RA d) i) x.e.seen=Jp (RA d) out x.e.prop:=fun x hx=>by
  unfold Jp
  rw[seenE_find (hP.one x hx).1];rfl
 obtain⟨r,s',hr,hc⟩:=idx73_run (q:=72) (n:=m+1) (Y:=Y) (caps:=[.ptr x6 0,.ptr x8 0,.ptr x9 0]) (hL.sl (by omega)) (R3:=fun j s'=>s'=s/\(L.take j).all (fun q=>!Jp (RA d) out q)=true) (Fin:=fun j s'=>s'=s/\(L.take j).all (fun q=>!Jp (RA d) out q)=true/\∃ q,L[j]?=some q/\Jp (RA d) out q=true)
  (fun j s' h=>by rw[h.1];exact Vs.refl _ _) (fun j q s' hq ⟨h1,h2⟩=>by
   subst h1
   obtain⟨x,hx,gI⟩:=Aa q (Qr hq)
   obtain⟨aL,bY⟩:=bc x hx
   refine⟨Jp (RA d) out q,s',?_,fun h=>⟨rfl,h2,q,hq,h⟩,fun h=>⟨rfl,?_⟩⟩
   ·rw[<-gI,<-ch x hx]
    exact ready72_run hP h6 h8 h9 qv qw hx aL bY m Y (by omega)
   ·rw[YR _ _ _ _ hq,h2,h];rfl) s ⟨rfl,rfl⟩ (by omega)
 rw[hr]
 rcases hc with⟨rfl,h1,h2⟩|⟨j,rfl,hj,h1,h2,q,h3,h4⟩
 ·subst h1
  rw[QH] at h2
  have:L.findIdx? (Jp (RA d) out)=none:=List.findIdx?_eq_none_iff.2 fun q hq=>by
   have:=QB.1 h2 q hq
   simpa using this
  rw[this]
 ·subst h1
  have:L.findIdx? (Jp (RA d) out)=some j:=by
   refine XQ.2 ⟨hj,?_,fun i hi=>?_⟩
   ·have:=Qn hj
    rw[h3] at this;injection this with this;rw[<-this];exact h4
   ·have hm:L[i]∈L.take j:=by
     rw[List.mem_take_iff_getElem]
     exact⟨i,by omega,rfl⟩
    have:=QB.1 h2 _ hm
    simpa using this
  rw[this]
def wg119_0:List Vc:=[ZM 4 (ZC 0)]
def wg119_1:List Vc:=[ZV 6 0,ZN 7 6,ZM 8 (ZC 0)]
def wg119_2:List Vc:=[ZO 9 (.bin false .lss (.t 8) (.t 7))]
def wg119_3:List Vc:=[ZV 10 8,ZV 5 10]
def wg119_4:List Vc:=[ZV 11 1,ZV 12 0,ZV 13 5,ZP 14 1 12 13,ZL 15 14,ZO 16 (.bin false .eql (.t 11) (.t 15))]
def wg119_5:List Vc:=[ZV 17 5,ZV 4 17]
def wg119_6:List Vc:=[ZO 18 (.bin false .add (.t 8) (ZC 1)),ZV 8 18]
def wg119_7:List Vc:=[ZM 4 (.c (.int .i64 (.negSucc 0)))]
def Jw:Vn:=(ZQ wg119_2 (.seq (.cond (.t 9) .skip (.exit 0)) (.seq (.block 1 (ZQ wg119_3 (ZQ wg119_4 (.cond (.t 16) (ZR wg119_5) .skip)))) (.region wg119_6))))
def wf119:Vm:=⟨19,(ZQ wg119_0 (.seq (ZQ wg119_1 (.block 0 (.loop Jw))) (ZR wg119_7))),[.t 4]⟩
theorem t119:Ry 119=some wf119:=by kernel_rfl
theorem index119_run{F:Nat->Prop}{st:St}{sl:AV}{xs:List Int}(hx:RE F st sl xs)(q:Int)(m:Nat)(Y:Vi)(hn:xs.length < m):∃ r,R (m+1) Y 119 [sl,.int .i64 q] st=.ret (.int .i64 r) st/\decide (r>=0)=xs.contains q:=by
 have n1:=RE.len hx st
 have hB:=RE.bound hx
 have hL:∀(fr:Fr),fr.ds=[]->fr.get 0=some sl->fr.get 1=some (.int .i64 q)->fr.get 7=some (ZI xs.length)->fr.get 8=some Z0->∃ FR,FR.ds=[] ∧
   ((Vx (ac m Y Jw none) m fr st=.exit 0 FR st/\xs.contains q=false)\/(∃ j:Nat,Vx (ac m Y Jw none) m fr st=.ret FR st/\FR.get 4=some (ZI j)/\xs.contains q=true)):=by
  intro fr d0 g0 g1 g7 g8
  refine Ws (B:=ac m Y Jw none) (N:=xs.length) (R3:=fun j fr ai=>fr.ds=[]/\fr.get 0=some sl/\fr.get 1=some (.int .i64 q)/\fr.get 7=some (ZI xs.length)/\fr.get 8=some (ZI j)/\ai=st/\(xs.take j).all (fun x=>!(q==x))=true)
   (Out:=fun r=>∃ FR,FR.ds=[]/\((r=.exit 0 FR st/\xs.contains q=false)\/(∃ j:Nat,r=.ret FR st/\FR.get 4=some (ZI j)/\xs.contains q=true))) ?_ xs.length 0 fr st m (by omega) (by omega) ⟨d0,g0,g1,g7,g8,rfl,rfl⟩
  intro j fr ai hj ⟨d0,g0,g1,g7,g8,e1,aA⟩
  subst e1
  have am:=Wt j xs.length
  by_cases br:j < xs.length
  ·have aL:xs[j]?=some xs[j]:=Qn br
   generalize xs[j]=x at aL
   obtain⟨pe,ie,bk⟩:=RE.at hx aL
   have ie:VC 1 sl (ZI j)=some pe:=ie
   have bk:=bk ai (Vs.refl _ _)
   have eq:=eqlI q x
   have aU:=WC (i:=j) (by omega)
   have bz:=YR (fun x=>!(q==x)) xs j x aL
   rw[aA,Q3] at bz
   rw[Qs br] at am
   have jx:(q==x)=true->xs.contains q=true:=fun h=>by
    have:q=x:=by simpa using h
    subst this
    simpa using Qr aL
   generalize (q==x)=B at *
   obtain⟨J1,H1,O1_9⟩:∃ aa,ar m Y wg119_2 fr ai=.ok aa ai/\aa.get 9=some (.bool true):=⟨_,by simp only[Rw,rQ,rA,g7,g8,wg119_2,am]<;>rfl,gh⟩
   have V1_8:=ag H1 g8
   obtain⟨J2,H2,O2_5⟩:∃ aa,ar m Y wg119_3 J1 ai=.ok aa ai/\aa.get 5=some (ZI j):=⟨_,by simp only[Rw,rQ,rA,V1_8,wg119_3]<;>rfl,gh⟩
   have V2_0:=ag H2 (ag H1 g0)
   have V2_1:=ag H2 (ag H1 g1)
   obtain⟨J3,H3,O3_16⟩:∃ aa,ar m Y wg119_4 J2 ai=.ok aa ai/\aa.get 16=some (.bool B):=⟨_,by simp only[Rw,rQ,rA,V2_0,V2_1,O2_5,wg119_4,ie,bk,eq]<;>rfl,gh⟩
   have W3:=ad H3 (ad H2 (ad H1 d0))
   cases B with
   | true=>
    obtain⟨J4,H4,O4_4⟩:∃ aa,ar m Y wg119_5 J3 ai=.ok aa ai/\aa.get 4=some (ZI j):=⟨_,by simp only[Rw,rQ,rA,(ag H3 O2_5),wg119_5]<;>rfl,gh⟩
    have dr:ac m Y Jw none fr ai=.ret J4 ai:=by
     simp only[Rw,rQ,rA,Jw,Rx,R5,R6,R7,H1,H2,H3,H4,O1_9,O3_16]
    rw[dr]
    exact⟨_,(ad H4 W3),.inr ⟨j,rfl,O4_4,jx rfl⟩⟩
   | false=>
    obtain⟨J5,H5,O5_8⟩:∃ aa,ar m Y wg119_6 J3 ai=.ok aa ai/\aa.get 8=some (ZI ((j+1))):=⟨_,by simp only[Rw,rQ,rA,(ag H3 (ag H2 V1_8)),wg119_6,aU]<;>rfl,gh⟩
    have bV:ac m Y Jw none fr ai=.norm J5 ai:=by
     simp only[Rw,rQ,rA,Jw,Rx,R5,R6,R7,H1,H2,H3,H5,O1_9,O3_16]
    rw[bV]
    exact⟨br,(ad H5 W3),(ag H5 (ag H3 V2_0)),(ag H5 (ag H3 V2_1)),(ag H5 (ag H3 (ag H2 (ag H1 g7)))),O5_8,rfl,by rw[bz];rfl⟩
  ·rw[Qp br] at am
   have b9:j=xs.length:=by omega
   rw[b9,QH] at aA
   have dU:xs.contains q=false:=by
    rw[Bool.eq_false_iff]
    intro h
    have hm:q∈xs:=by simpa using h
    have:=QB.1 aA q hm
    simp at this
   obtain⟨J6,H6,O6_9⟩:∃ aa,ar m Y wg119_2 fr ai=.ok aa ai/\aa.get 9=some (.bool false):=⟨_,by simp only[Rw,rQ,rA,g7,g8,wg119_2,am]<;>rfl,gh⟩
   have ed:ac m Y Jw none fr ai=.exit 0 J6 ai:=by
    simp only[Rw,rQ,rA,Jw,Rx,R5,R6,R7,H6,O6_9]
   rw[ed]
   exact⟨_,(ad H6 d0),.inl ⟨rfl,dU⟩⟩
 obtain⟨fA7,dt⟩:∃ fA,fA=Vo 0 [sl,.int .i64 q] Fr.nil:=⟨_,rfl⟩
 have gA7_0:=R9 dt 0
 have gA7_1:=R9 dt 1
 have dA7:fA7.ds=[]:=by rw[dt];rfl
 obtain⟨J8,H8⟩:∃ aa,ar m Y wg119_0 fA7 st=.ok aa st:=⟨_,by simp only[Rw,rQ,rA,wg119_0]<;>rfl⟩
 have V8_0:=ag H8 gA7_0
 obtain⟨J9,H9,O9_7,O9_8⟩:∃ aa,ar m Y wg119_1 J8 st=.ok aa st/\aa.get 7=some (ZI xs.length)/\aa.get 8=some Z0:=⟨_,by simp only[Rw,rQ,rA,V8_0,wg119_1,n1]<;>rfl,gn gh,gh⟩
 obtain⟨FR,dF,hL⟩:=hL J9 (ad H9 (ad H8 dA7)) (ag H9 V8_0) (ag H9 (ag H8 gA7_1)) O9_7 O9_8
 rcases hL with⟨hL,he⟩|⟨j,hL,F4,he⟩
 ·rw[he]
  obtain⟨J10,H10,O10_4⟩:∃ aa,ar m Y wg119_7 FR st=.ok aa st/\aa.get 4=some (.int .i64 (.negSucc 0)):=⟨_,by simp only[Rw,rQ,rA,wg119_7]<;>rfl,gh⟩
  refine⟨.negSucc 0,Ve (mf:=wf119) (fr:=J10) t119 rfl (.inl ?q10) (ad H10 dF) (by simp only[wf119,Rw,O10_4]),rfl⟩
  case q10=>
   rw[<-dt]
   simp only[Rw,rQ,rA,wf119,Rx,R5,R6,R7,H8,H9,hL,H10]
 ·rw[he]
  refine⟨.ofNat j,Ve (mf:=wf119) (fr:=FR) t119 rfl (.inl ?q11) dF (by simp only[wf119,Rw,F4]),rfl⟩
  case q11=>
   rw[<-dt]
   simp only[Rw,rQ,rA,wf119,Rx,R5,R6,R7,H8,H9,hL]
def wg75_0:List Vc:=[ZM 4 (ZB false)]
def wg75_1:List Vc:=[ZV 5 0,ZV 6 1,ZX 7 119 [(.t 5),(.t 6)],ZO 8 (.bin false .geq (.t 7) (ZC 0)),ZV 4 8]
def wf75:Vm:=⟨9,(ZQ wg75_0 (ZR wg75_1)),[.t 4]⟩
theorem t75:Ry 75=some wf75:=by kernel_rfl
theorem contains75_run{F:Nat->Prop}{st:St}{sl:AV}{xs:List Int}(hx:RE F st sl xs)(q:Int)(m:Nat)(Y:Vi)(hn:xs.length < m):R (m+2) Y 75 [sl,.int .i64 q] st=.ret (.bool (xs.contains q)) st:=by
 obtain⟨r,hr,hc⟩:=index119_run hx q m Y hn
 have fx:((gT (m+1)).cg Y).fn 119 [sl,.int .i64 q] st=.ret (.int .i64 r) st:=hr
 have hg:Vr false .geq (.int .i64 r) Z0=some (.bool (decide (r>=0))):=rfl
 rw[hc] at hg
 obtain⟨fA1,au⟩:∃ fA,fA=Vo 0 [sl,.int .i64 q] Fr.nil:=⟨_,rfl⟩
 have gA1_0:=R9 au 0
 have gA1_1:=R9 au 1
 have dA1:fA1.ds=[]:=by rw[au];rfl
 obtain⟨J2,H2⟩:∃ aa,ar (m+1) Y wg75_0 fA1 st=.ok aa st:=⟨_,by simp only[Rw,rQ,rA,wg75_0]<;>rfl⟩
 obtain⟨J3,H3,O3_4⟩:∃ aa,ar (m+1) Y wg75_1 J2 st=.ok aa st/\aa.get 4=some (.bool (xs.contains q)):=⟨_,by simp only[Rw,rQ,rA,(ag H2 gA1_0),(ag H2 gA1_1),wg75_1,fx,hg]<;>rfl,gh⟩
 refine Ve (mf:=wf75) (fr:=J3) t75 rfl (.inl ?q3) (ad H3 (ad H2 dA1)) (by simp only[wf75,Rw,O3_4])
 case q3=>
  rw[<-au]
  simp only[Rw,rQ,rA,wf75,Rx,R5,R6,R7,H2,H3]
end
open Nat renaming reduceEqDiff -> rQ, reduceAdd -> rA
def JU(b:Nat)(s:St)(ov:AV)(PS:List Pr):Prop:=(ov=.nilsl/\PS=[])\/(∃ oid,b<=oid/\oid < s.next/\ov=.own oid 0 PS.length 1 none PS.length/\s.get oid=some (.row (PS.map fun x=>.ptr x.id 0)))
theorem JU.keep{b:Nat}{s s':St}{ov:AV}{PS:List Pr}(h:JU b s ov PS)(k:∀ j,b<=j->j < s.next->s'.get j=s.get j)(hn:s.next<=s'.next):JU b s' ov PS:=by
 rcases h with h|⟨oid,h1,h2,h3,h4⟩
 ·exact .inl h
 ·exact .inr ⟨oid,h1,by omega,h3,(k oid h1 h2).trans h4⟩
theorem JU.app{b:Nat}{s:St}{ov:AV}{PS:List Pr}(h:JU b s ov PS)(hb:PS.length < 100000)(mA:b<=s.next)(x:Pr):
  ∃ s' oid,VX 8 1 s ov 1 [.ptr x.id 0]=some (.own oid 0 (PS.length+1) 1 none (PS.length+1),s')/\JU b s' (.own oid 0 (PS.length+1) 1 none (PS.length+1)) (PS++[x])/\s.next<=s'.next/\∀ j,j < b->s'.get j=s.get j:=by
 rcases h with⟨rfl,rfl⟩|⟨oid,h1,h2,rfl,h⟩
 ·exact⟨s.new (.row [.ptr x.id 0]),s.next,rfl,.inr ⟨s.next,mA,by simp,rfl,by rw[St.get_new,Qm rfl];rfl⟩,by simp,fun j hj=>by rw[St.get_new,Qe (by omega)]⟩
 ·have hl:(PS.map fun x=>AV.ptr x.id 0).length=PS.length:=Qu ..
  refine⟨(s.del oid).new (.row ((PS.map fun x=>.ptr x.id 0)++[.ptr x.id 0])),s.next,?_,.inr ⟨s.next,mA,by simp,by simp,?_⟩,by simp,fun j hj=>?_⟩
  ·have e1:Nat.beq 1 0=false:=rfl
   have e5:Nat.ble (PS.length+1) PS.length=false:=by
    cases hx:Nat.ble (PS.length+1) PS.length with
    | false=>rfl
    | true=>have:=Qk hx;omega
   unfold VX
   simp only[e1,Qq,h,QD,Qo (show (PS.length+1)*8<=140737488355328 by omega),Qo (show PS.length+1<=140737488355328 by omega),Q7,XP,hl,Qo (Qw PS.length),Qy,Qi,KY,e5,QN,QW,AV.one]
  ·show ((s.del oid).new _).get (s.del oid).next=_
   rw[St.get_new,Qm rfl,QQ];rfl
  ·rw[St.get_new,Qe (by show j≠s.next;omega),St.get_del,Qe (by omega)]
theorem flat_le(l:List En){left out:List Int}(hp:(left++out).Perm (V6 l)):(out.flatMap (RK l)).length<=l.length:=by
 have h1:=(all_claims l (V6 l) (Wu l) (fun e he=>(YK _ _).2 ⟨e,he,rfl⟩)).1
 have h2:((left++out).flatMap (RK l)).length=((V6 l).flatMap (RK l)).length:=(hp.flatMap_right _).length_eq
 rw[X0,QJ] at h2
 omega
theorem b44:Nat.beq 4 4=true:=rfl
theorem b45:Nat.beq 4 5=false:=rfl
theorem b66:Nat.beq 6 6=true:=rfl
theorem b88:Nat.beq 8 8=true:=rfl
theorem bAA:Nat.beq 10 10=true:=rfl
theorem bs1p(x:Nat):VN [.nilptr] [(0,1,.ptr x 0)]=some [.ptr x 0]:=rfl
set_option maxHeartbeats 1000000 in
theorem loop31_run{m:Nat}{Y:Vi}{ro:Option Nat}{av:Fr}{s0:St}{A lim hi:Nat}{d:List Sp}{PL:List Pr}{x6 x8 x9 ci Th Tt lid k:Nat}{gj:AV}{L0:List Int}(hP:PrSt A lim hi d s0 PL)(h6:s0.get x6=some (.row [.map A]))(h8:s0.get x8=some (.row [.own Th 0 k 1 (some k) 0]))(h9:s0.get x9=some (.row [.own Tt 0 k 1 (some k) 0]))
  (qv:s0.get Th=some (.row (Vw k fun _=>0))) (qw:s0.get Tt=some (.row (Vw k fun i=>VF (RA d) i))) (jC:s0.get ci=some (.row [gj])) (jR:LfS s0 gj lid L0) (mj:L0.Perm (V6 (RA d)))
  (bc:∀ x∈PL,x.e.ok/\x.e.seen.length=k) (hk:∀ x∈PL,∀ c∈x.cl,0<=c.1/\c.1 < (k:Int)) (fU:(RA d).length<=4000) (hm:k+20000 < m)
  (lt:x6 < s0.next/\x8 < s0.next/\x9 < s0.next/\ci < s0.next/\Th < s0.next/\Tt < s0.next/\(L0≠[]->lid < s0.next)/\hi<=s0.next) (ge:hi<=x6/\hi<=x8/\hi<=x9/\hi<=ci/\hi<=Th/\hi<=Tt/\hi<=lid/\lim<=hi)
  (oK:Th≠x6/\Th≠x8/\Th≠x9/\Th≠ci/\Th≠Tt/\Th≠lid) (oM:ci≠x6/\ci≠x8/\ci≠x9/\ci≠Tt/\ci≠lid) (wB:lid≠x6/\lid≠x8/\lid≠x9/\lid≠Tt)
  (g6:av.get 6=some (.ptr x6 0)) (g8:av.get 8=some (.ptr x8 0)) (g9:av.get 9=some (.ptr x9 0)) (ip:av.get 14=some (.ptr ci 0)) (iq:av.get 15=some (.func (.func 72) [] [.ptr x6 0,.ptr x8 0,.ptr x9 0])) (iJ:av.get 16=some .nilsl):
  ∃ FR S ov PS lv,Vx (ac m Y T8 ro) m av s0=.exit 4 FR S/\Kq [71,72,73,17,74,75,76,77,78,79,80,81,18,82,83,84,85,86,87,88,89,90,91,92,93,94,95,96,20,97,98,99,100,101,102,103,104,105,106,107,108,16] av FR/\FR.get 16=some ov/\JU s0.next S ov PS/\PS.map (fun x=>x.e.prop)=(Y4 (RA d) L0.length L0 []).2/\(∀ x∈PS,x∈PL)/\S.get ci=some (.row [lv])/\LfS S lv lid (Y4 (RA d) L0.length L0 []).1/\s0.next<=S.next ∧
   (∀ j,j < s0.next->j≠Th->j≠ci->j≠lid->S.get j=s0.get j):=by
 obtain⟨t1,t2,t3,t4,t5,t6,t7,t8⟩:=lt
 obtain⟨e1,e2,e3,e4,e5,e6,e7,e8⟩:=ge
 obtain⟨a1,a2,a3,a4,a5,a6⟩:=oK
 obtain⟨b1,b2,b3,b4,b5⟩:=oM
 obtain⟨c1,c2,c3,c4⟩:=wB
 have hA:=hP.lim
 have jB:(PL.map fun x=>x.e.prop).Nodup:=by rw[hP.prs];exact Wu _
 have bC:(V6 (RA d)).length<=(RA d).length:=by
  have:∀ l:List En,(V6 l).length<=l.length:=fun l=>by
   induction l using JS with
   | nil=>simp[V6]
   | snoc l x ih=>
    rw[Yp]
    split
    ·simp;omega
    ·simp;omega
  exact this _
 have BP:L0.length<=4000:=by rw[mj.length_eq];omega
 obtain⟨q,rfl⟩:∃ q,m=q+2:=⟨m - 2,by omega⟩
 refine Ws (B:=ac (q+2) Y T8 ro) (N:=L0.length) (R3:=fun j f s=>Kq [71,72,73,17,74,75,76,77,78,79,80,81,18,82,83,84,85,86,87,88,89,90,91,92,93,94,95,96,20,97,98,99,100,101,102,103,104,105,106,107,108,16] av f/\s0.next<=s.next/\(∀ j,j < s0.next->j≠Th->j≠ci->j≠lid->s.get j=s0.get j)/\∃ left lv ov PS,f.get 16=some ov/\JU s0.next s ov PS/\(∀ x∈PS,x∈PL)/\s.get ci=some (.row [lv])/\LfS s lv lid left/\left.length=L0.length - j/\(left++PS.map fun x=>x.e.prop).Perm (V6 (RA d))/\Y4 (RA d) (L0.length - j) left (PS.map fun x=>x.e.prop)=Y4 (RA d) L0.length L0 []/\s.get Th=some (.row (Vw k fun i=>Wa (RA d) (PS.map fun x=>x.e.prop) i)))
  (Out:=fun r=>∃ FR S ov PS lv,r=.exit 4 FR S/\Kq [71,72,73,17,74,75,76,77,78,79,80,81,18,82,83,84,85,86,87,88,89,90,91,92,93,94,95,96,20,97,98,99,100,101,102,103,104,105,106,107,108,16] av FR/\FR.get 16=some ov/\JU s0.next S ov PS/\PS.map (fun x=>x.e.prop)=(Y4 (RA d) L0.length L0 []).2/\(∀ x∈PS,x∈PL)/\S.get ci=some (.row [lv])/\LfS S lv lid (Y4 (RA d) L0.length L0 []).1/\s0.next<=S.next ∧
   (∀ j,j < s0.next->j≠Th->j≠ci->j≠lid->S.get j=s0.get j)) ?_ L0.length 0 av s0 (q+2) (by omega) (by omega) ⟨Kq.refl.to,Qw _,fun _ _ _ _ _=>rfl,L0,gj,.nilsl,[],iJ,.inl ⟨rfl,rfl⟩,fun x hx=>by simp at hx,jC,jR,by omega,by simpa using mj,by simp,qv⟩
 intro j f s hj ⟨kf,hn,ho,left,lv,ov,PS,xn,gK,gL,uE,ml,d6,gg,xp,sTh⟩
 have f6:=kf.g 6 g6
 have f8:=kf.g 8 g8
 have f9:=kf.g 9 g9
 have uF:=kf.g 14 ip
 have uG:=kf.g 15 iq
 have uH:PrSt A lim hi d s PL:=hP.keep fun j hj=>ho j (by omega) (by omega) (by omega) (by omega)
 have s6:=(ho x6 t1 (by omega) (by omega) (by omega)).trans h6
 have s8:=(ho x8 t2 (by omega) (by omega) (by omega)).trans h8
 have s9:=(ho x9 t3 (by omega) (by omega) (by omega)).trans h9
 have sTt:=(ho Tt t6 (by omega) (by omega) (by omega)).trans qw
 have mr:∀ q∈left,∃ x∈PL,x.e.prop=q:=fun q hq=>by
  have:q∈V6 (RA d):=gg.mem_iff.1 (XC _ hq)
  rw[<-hP.prs] at this
  obtain⟨x,hx,he⟩:=Q6.1 this
  exact⟨x,hx,he⟩
 have nS:Vf false 1 s (.ptr ci 0)=some lv:=Vk uE rfl
 have l6:Vf false 1 s (.ptr x6 0)=some (.map A):=Vk s6 rfl
 have rO:((gT (q+2)).cg Y).fn 73 [lv,.func (.func 72) [] [.ptr x6 0,.ptr x8 0,.ptr x9 0]] s=_:=firstReady_run uH s6 s8 s9 sTh sTt bc ml mr (by omega) q Y (by omega)
 cases qx:left.findIdx? (Jp (RA d) (PS.map fun x=>x.e.prop)) with
 | none=>
  rw[qx] at rO
  have am:Vr false .lss (.int .i64 (.negSucc 0)) Z0=some (.bool true):=rfl
  have pb:Y4 (RA d) L0.length L0 []=(left,PS.map fun x=>x.e.prop):=by
   rw[<-xp]
   cases L0.length - j with
   | zero=>rfl
   | succ n=>unfold Y4;rw[qx]
  obtain⟨J1,H1,O1_17⟩:∃ aa,ar (q+2) Y wg31_15 f s=.ok aa s/\aa.get 17=some (.int .i64 (.negSucc 0)):=⟨_,by simp only[Rw,rQ,rA,uF,uG,wg31_15,nS,rO]<;>rfl,gh⟩
  obtain⟨J2,H2,O2_75⟩:∃ aa,ar (q+2) Y wg31_16 J1 s=.ok aa s/\aa.get 75=some (.bool true):=⟨_,by simp only[Rw,rQ,rA,O1_17,wg31_16,am]<;>rfl,gh⟩
  have kk:=(((kf.t (aq H1)).t (aq H2))).to (E:=[71,72,73,17,74,75,76,77,78,79,80,81,18,82,83,84,85,86,87,88,89,90,91,92,93,94,95,96,20,97,98,99,100,101,102,103,104,105,106,107,108,16])
  have qk:ac (q+2) Y T8 ro f s=.exit 4 J2 s:=by
   simp only[Rw,rQ,rA,T8,Rx,R5,R6,R7,b45,b66,H1,H2,O2_75]
  rw[qk]
  exact⟨_,_,ov,PS,lv,rfl,kk,(ag H2 (ag H1 xn)),gK,by rw[pb],gL,uE,by rw[pb];exact ml,hn,ho⟩
 | some i=>
  rw[qx] at rO
  obtain⟨dp,wY,_⟩:=XQ.1 qx
  have am:Vr false .lss (ZI i) Z0=some (.bool false):=by rw[Wt];simp
  have br:j < L0.length:=by omega
  have aL:left[i]?=some left[i]:=Qn dp
  have dk:=getD_some dp
  generalize oV:left[i]=q3 at *
  obtain⟨x,hx,gI⟩:=mr q3 (by rw[<-oV];exact Xu _)
  obtain⟨xa,xb,xc,xd,xf,xg,xu,xv⟩:=uH.one x hx
  have lk:=lookQ PL uH.all (q:=q3) (by rw[<-gI];exact Sk jB hx)
  obtain⟨pe,ie,bk⟩:=RE.at (ml.sl (by omega)) aL
  have ie:VC 1 lv (ZI i)=some pe:=ie
  have bk:=bk s (Vs.refl _ _)
  have aU:=WC (i:=i) (by omega)
  obtain⟨iw,s1,uI,qy,n1,o1⟩:=delete74_run ml (by omega) dp (q+1) Y
  have uI:((gT (q+2)).cg Y).fn 74 [lv,ZI i,ZI ((i+1))] s=.ret iw s1:=uI
  have uJ:lid < s0.next:=t7 fun h=>by rw[h] at br;simp at br
  have ai:Vt 1 s1 (.ptr ci 0) iw=some (s1.put ci (.row [iw])):=by
   have hc:iw.cells=[iw]/\AV.one iw=true:=by
    rcases qy with⟨h,_⟩|⟨_,_,h,_,_⟩<;>rw[h]<;>exact⟨rfl,rfl⟩
   exact V4 ((o1 ci b5).trans uE) (by rw[hc.1];rfl) (by rw[hc.1];rfl) (by simp) (by rw[hc.1];simp[hc.2])
  obtain⟨s2,bD⟩:∃ s2,s2=s1.put ci (.row [iw]):=⟨_,rfl⟩
  rw[<-bD] at ai
  have n2:s2.next=s.next:=by rw[bD];exact n1
  have o2:∀ j,j≠ci->j≠lid->s2.get j=s.get j:=fun j h1 h2=>by rw[bD,St.get_put,Qe h1];exact o1 j h2
  have s2_14:s2.get ci=some (.row [iw]):=by rw[bD,St.get_put,Qm rfl]
  have uK:LfS s2 iw lid (left.eraseIdx i):=qy.keep (by rw[bD,St.get_put,Qe (by omega)])
  have xrow:s2.get x.id=some (.row x.row):=(o2 x.id (by omega) (by omega)).trans xc
  have xcl:s2.get x.cid=some (.row (V9 x.cl)):=(o2 x.cid (by omega) (by omega)).trans xd
  have qu:Vf false 1 s2 (.ptr x.id 6)=some x.csl:=by
   obtain⟨a,b',c',gJ,_⟩:=x.e.d.cells_abc
   refine Vk xrow ?_
   unfold Pr.row YX;rw[gJ];rfl
  have dZ:x.cl.length<=4000:=by rw[xb];exact QY (clE_le _ _) fU
  have qz:ClS s2 x.csl x.cid x.cl:=.inr ⟨rfl,xcl⟩
  have bO:(bif VD 0 x.csl then Wm s2 x.csl else none)=some (ZI x.cl.length):=by
   have:=(qz.sl (by omega)).len s2
   rwa [Qu] at this
  have Ab:∀ i:Nat,Wa (RA d) (PS.map fun x=>x.e.prop) i < 1000000000:=fun i=>by
   have h1:=flat_le (RA d) gg
   have h2:=cntC_le ((PS.map fun x=>x.e.prop).flatMap (RK (RA d))) i
   rw[thereE_cnt];omega
  have nT:(left.eraseIdx i++(PS++[x]).map fun x=>x.e.prop).Perm (V6 (RA d)):=by
   have hp:=SC left i dp
   rw[dk] at hp
   rw[QQ,Q4,QZ,gI]
   refine List.Perm.trans ?_ ((hp.append_right _).symm.trans gg)
   rw[<-Xb]
   exact List.perm_append_comm.trans (Xp _)
  have uL:Y4 (RA d) (L0.length - (j+1)) (left.eraseIdx i) ((PS++[x]).map fun x=>x.e.prop)=Y4 (RA d) L0.length L0 []:=by
   rw[<-xp]
   obtain⟨n,lL⟩:∃ n,L0.length - j=n+1:=⟨L0.length - j - 1,by omega⟩
   rw[lL,show L0.length - (j+1)=n by omega]
   conv=>rhs;unfold Y4
   rw[qx]
   simp only
   rw[dk,QQ,Q4,QZ,gI]
  have Ac:PS.length<=4000:=by
   have:=gg.length_eq
   rw[QJ,Qu] at this
   omega
  obtain⟨J4,H4,O4_17⟩:∃ aa,ar (q+2) Y wg31_15 f s=.ok aa s/\aa.get 17=some (ZI i):=⟨_,by simp only[Rw,rQ,rA,uF,uG,wg31_15,nS,rO]<;>rfl,gh⟩
  have V4_14:=ag H4 uF
  have V4_15:=ag H4 uG
  obtain⟨J5,H5,O5_75⟩:∃ aa,ar (q+2) Y wg31_16 J4 s=.ok aa s/\aa.get 75=some (.bool false):=⟨_,by simp only[Rw,rQ,rA,O4_17,wg31_16,am]<;>rfl,gh⟩
  have V5_6:=ag H5 (ag H4 f6)
  have V5_14:=ag H5 V4_14
  have V5_17:=ag H5 O4_17
  obtain⟨J6,H6,K6,O6_18⟩:∃ aa,VK ((gT (q+2)).cg Y) wg31_17 [] J5 s=.ok aa s/\Kq [18,81,80,79,78,77,76] J5 aa/\aa.get 18=some (.ptr x.id 0):=⟨_,Wj rfl (by simp only[Rw,rQ,rA,V5_6,V5_14,V5_17,wg31_17,l6,nS,ie,bk,lk,JL]<;>rfl),Kq.refl.s.s.s.s.s.s.s,gh⟩
  have V6_6:=K6.g 6 V5_6
  have V6_8:=K6.g 8 (ag H5 (ag H4 f8))
  have V6_9:=K6.g 9 (ag H5 (ag H4 f9))
  have V6_14:=K6.g 14 V5_14
  have V6_15:=K6.g 15 (ag H5 V4_15)
  have V6_16:=K6.g 16 (ag H5 (ag H4 xn))
  have V6_17:=K6.g 17 V5_17
  obtain⟨J7,H7⟩:∃ aa,ar (q+2) Y wg31_18 J6 s=.ok aa s2:=⟨_,by simp only[Rw,rQ,rA,V6_14,V6_17,wg31_18,nS,aU,uI,ai]<;>rfl⟩
  have V7_14:=ag H7 V6_14
  have V7_18:=ag H7 O6_18
  obtain⟨J8,H8,O8_91,O8_92,O8_93⟩:∃ aa,ar (q+2) Y wg31_19 J7 s2=.ok aa s2/\aa.get 91=some (x.csl)/\aa.get 92=some (ZI x.cl.length)/\aa.get 93=some Z0:=⟨_,by simp only[Rw,rQ,rA,V7_18,wg31_19,Yq,RG,qu,bO]<;>rfl,gn (gn gh),gn gh,gh⟩
  have V8_8:=ag H8 (ag H7 V6_8)
  have V8_14:=ag H8 V7_14
  obtain⟨FR,s3,hL,kL,_,_,_,nL,tL,oL⟩:=there31_run (m:=q+2) (Y:=Y) (ro:=ro) (s:=s2) (fr:=J8) (csl:=x.csl) (cid:=x.cid) (cl:=x.cl) (T:=Th) (tp:=x8) (k:=k) (g:=fun i=>Wa (RA d) (PS.map fun x=>x.e.prop) i) qz (by omega) (by omega) (hk x hx)
   ((o2 x8 (by omega) (by omega)).trans s8) ((o2 Th (by omega) (by omega)).trans sTh) Ab ⟨by omega,by omega,by omega⟩ (by omega) (by omega) rfl O8_91 O8_92 O8_93 V8_8
  have L6:=kL.g 6 (ag H8 (ag H7 V6_6))
  have L8:=kL.g 8 V8_8
  have L9:=kL.g 9 (ag H8 (ag H7 V6_9))
  have L14:=kL.g 14 V8_14
  have L15:=kL.g 15 (ag H8 (ag H7 V6_15))
  have L16:=kL.g 16 (ag H8 (ag H7 V6_16))
  have L18:=kL.g 18 (ag H8 V7_18)
  have uM:JU s0.next s3 ov PS:=gK.keep (fun j h1 h2=>by rw[oL j (by omega) (by omega)];exact o2 j (by omega) (by omega)) (by omega)
  obtain⟨s4,oid,ap,nU,n4,o4⟩:=uM.app (by omega) (by omega) x
  have ct:Wd 1 s3 (.lst 1 [.ptr x.id 0] true)=some (1,[.ptr x.id 0]):=rfl
  have bs:=bs1p x.id
  have uN:(PS++[x]).length=PS.length+1:=by simp
  obtain⟨J9,H9,O9_16⟩:∃ aa,ar (q+2) Y wg31_24 FR s3=.ok aa s4/\aa.get 16=some (.own oid 0 (PS.length+1) 1 none (PS.length+1)):=⟨_,by simp only[Rw,rQ,rA,L16,L18,wg31_24,bs,ct,ap,tagN]<;>rfl,gh⟩
  have kk:=((((((((kf.t (aq H4)).t (aq H5)).t K6).t (aq H7)).t (aq H8)).t kL).t (aq H9))).to (E:=[71,72,73,17,74,75,76,77,78,79,80,81,18,82,83,84,85,86,87,88,89,90,91,92,93,94,95,96,20,97,98,99,100,101,102,103,104,105,106,107,108,16])
  have lj:ac (q+2) Y T8 ro f s=.norm J9 s4:=by
   simp only[Rw,rQ,rA,T8,Rx,R5,R6,R7,b45,b66,H4,H5,H6,H7,H8,hL,H9,O5_75]
  rw[lj]
  exact⟨br,kk,by omega,fun j h1 h2 h3 h4=>by rw[o4 j h1,oL j (by omega) h2,o2 j h3 h4];exact ho j h1 h2 h3 h4,left.eraseIdx i,iw,_,PS++[x],O9_16,nU,fun y hy=>by
    rcases QV.1 hy with hy | hy
    ·exact gL y hy
    ·rw[Xd.1 hy];exact hx,by rw[o4 ci t4,oL ci (by omega) (by omega)];exact s2_14,uK.keep (by rw[o4 lid uJ,oL lid (by omega) (by omega)]),by rw[List.length_eraseIdx_of_lt dp];omega,nT,uL,by
    rw[o4 Th t5,tL]
    congr 2
    refine Xn (Vw k) (funext fun i=>?_)
    rw[QQ,Q4,QZ,gI,thereE_snoc,xb,gI]
    rfl⟩
theorem t77:Ry 77=none:=by kernel_rfl
theorem insP_fst(x:Int × Int):∀ l:List (Int × Int),(insP x l).map Prod.fst=insI x.1 (l.map Prod.fst)
 | []=>rfl
 | y::ys=>by
  unfold insP
  simp only[Q4,insI]
  cases decide (x.1<=y.1)
  ·simp only[Qq,Q4,insP_fst x ys]
  ·rfl
theorem sortP_fst:∀ l:List (Int × Int),(VY l).map Prod.fst=Wn (l.map Prod.fst)
 | []=>rfl
 | x::l=>by
  unfold VY
  rw[insP_fst,sortP_fst l];rfl
theorem sort77_run{s:St}{cid:Nat}{cl:List (Int × Int)}(h:s.get cid=some (.row (V9 cl)))(hn:(cl.map Prod.fst).Nodup)(hl:cl.length<=4000)(m:Nat)(Y:Vi):
  R (m+1) Y 77 [.own cid 0 cl.length 2 none cl.length,.func (.func 78) [] []] s=.ret (.tuple []) (s.put cid (.row (V9 (VY cl)))):=by
 have hR:R (m+1) Y 77 [.own cid 0 cl.length 2 none cl.length,.func (.func 78) [] []] s=KJ 78 [.own cid 0 cl.length 2 none cl.length,.func (.func 78) [] []] s:=by
  unfold R
  simp only[Ji,t77]
  rfl
 have hb:Nat.ble cl.length 1000000000=true:=Qo (by omega)
 have Ad:Nat.beq 78 78=true:=rfl
 rw[hR]
 unfold KJ
 simp only[Ad,Qi,h,SB,QD,hb,sortP_fst,sortI_asc hn,Qy]
theorem YP.pre{d r:List En}(H:YP (d++r)):YP d:=fun a x b h=>H a x (b++r) (by rw[h];simp)
theorem leaf_nodup{l:List En}(H:YP l)(q:Int):((RK l q).map Prod.fst).Nodup:=by
 induction l using JS with
 | nil=>simp[RK]
 | snoc d x ih=>
  have h1:=ih H.pre
  rw[Tl,QQ]
  by_cases hx:x.prop=q
  ·rw[Qm hx]
   refine QS.2 ⟨h1,by simp,fun a ha b hb ek=>?_⟩
   obtain rfl:b=x.leaf:=by simpa using hb
   obtain⟨c,hc,rP⟩:=Q6.1 ha
   obtain⟨z,hz,z1,z2,z3⟩:=clE_mem.1 hc
   exact((H d x [] rfl).2.2.2 z hz (z1.trans hx.symm)).1 (by rw[z2,rP,ek])
  ·rw[Qe hx];simpa using h1
theorem b99:Nat.beq 9 9=true:=rfl
theorem bA11:Nat.beq 11 11=true:=rfl
set_option maxHeartbeats 1000000 in
theorem sorts31_run{m:Nat}{Y:Vi}{ro:Option Nat}{av:Fr}{s0:St}{A lim hi b:Nat}{d:List Sp}{PL PS:List Pr}{ov:AV}(hP:PrSt A lim hi d s0 PL)(gK:JU b s0 ov PS)(kg:hi<=b)(gL:∀ x∈PS,x∈PL)(jB:(PS.map fun x=>x.e.prop).Nodup)(bB:∀ x∈PL,(x.cl.map Prod.fst).Nodup/\x.cl.length<=4000)(hm:PS.length+10 < m)(BQ:PS.length<=4000)
  (g1:av.get 122=some ov) (g2:av.get 123=some (ZI PS.length)) (g3:av.get 124=some Z0):
  ∃ FR S,Vx (ac m Y TE ro) m av s0=.exit 10 FR S/\Kq [122,123,124,125,126,127,24,128,129,130,131,132,133,134] av FR/\S.next=s0.next/\(∀ j,(∀ x∈PS,j≠x.cid)->S.get j=s0.get j)/\∀ x∈PS,S.get x.cid=some (.row (V9 (VY x.cl))):=by
 obtain⟨q,rfl⟩:∃ q,m=q+1:=⟨m - 1,by omega⟩
 have jD:∀ x∈PL,∀ y∈PL,x.e.prop≠y.e.prop->x.cid≠y.cid/\x.id≠y.cid:=fun x hx y hy az=>by
  have BR:(PL.map fun x=>x.e.prop).Nodup:=by rw[hP.prs];exact Wu _
  have key:∀ l:List Pr,(l.flatMap fun x=>[x.id,x.cid]).Nodup->x∈l->y∈l->x.cid≠y.cid/\x.id≠y.cid:=by
   intro l
   induction l with
   | nil=>intro _ hx;simp at hx
   | cons z l ih=>
    intro hn hx hy
    rw[Xa,QS] at hn
    obtain⟨_,n2,n3⟩:=hn
    rcases Qx.1 hx with aL | aL
    ·rcases Qx.1 hy with bd | bd
     ·exact absurd (by rw[aL,bd]) az
     ·rw[aL];exact⟨n3 _ (by simp) _ (QO.2 ⟨y,bd,by simp⟩),n3 _ (by simp) _ (QO.2 ⟨y,bd,by simp⟩)⟩
    ·rcases Qx.1 hy with bd | bd
     ·rw[bd];exact⟨fun h=>n3 _ (by simp) _ (QO.2 ⟨x,aL,by simp⟩) h.symm,fun h=>n3 _ (by simp) _ (QO.2 ⟨x,aL,by simp⟩) h.symm⟩
     ·exact ih n2 aL bd
  exact key PL hP.ids hx hy
 have xq:∀ x∈PL,x.id≠x.cid:=fun x hx=>by
  have key:∀ l:List Pr,(l.flatMap fun x=>[x.id,x.cid]).Nodup->x∈l->x.id≠x.cid:=by
   intro l
   induction l with
   | nil=>intro _ h;simp at h
   | cons z l ih=>
    intro hn hx
    rw[Xa,QS] at hn
    rcases Qx.1 hx with h | h
    ·rw[h];simpa using hn.1
    ·exact ih hn.2.1 h
  exact key PL hP.ids hx
 -- the slice,by ak elements
 have bz:∀(j:Nat) (x:Pr) (s:St),PS[j]?=some x->(∀ j',b<=j'->s.get j'=s0.get j')->∃ p,VC 1 ov (ZI j)=some p/\Vf false 1 s p=some (.ptr x.id 0):=fun j x s hx hs=>by
  rcases gK with⟨_,h⟩|⟨oid,h1,h2,h3,h4⟩
  ·rw[h] at hx;simp at hx
  ·have hj:=(Qt.1 hx).1
   refine⟨.ptr oid j,by rw[h3];exact iaN hj none _,Vk ((hs oid h1).trans h4) ?_⟩
   rw[Q5,hx];rfl
 refine Ws (B:=ac (q+1) Y TE ro) (N:=PS.length) (R3:=fun j f s=>Kq [122,123,124,125,126,127,24,128,129,130,131,132,133,134] av f/\f.get 122=some ov/\f.get 123=some (ZI PS.length)/\f.get 124=some (ZI j)/\s.next=s0.next/\(∀ i,(∀ x∈PS.take j,i≠x.cid)->s.get i=s0.get i)/\∀ x∈PS.take j,s.get x.cid=some (.row (V9 (VY x.cl))))
  (Out:=fun r=>∃ FR S,r=.exit 10 FR S/\Kq [122,123,124,125,126,127,24,128,129,130,131,132,133,134] av FR/\S.next=s0.next/\(∀ j,(∀ x∈PS,j≠x.cid)->S.get j=s0.get j)/\∀ x∈PS,S.get x.cid=some (.row (V9 (VY x.cl)))) ?_ PS.length 0 av s0 (q+1) (by omega) (by omega) ⟨Kq.refl.to,g1,g2,g3,rfl,fun _ _=>rfl,fun x hx=>by simp at hx⟩
 intro j f s hj ⟨kf,f1,f2,f3,hn,ho,jE⟩
 have am:=Wt j PS.length
 by_cases br:j < PS.length
 ·have hx:PS[j]?=some PS[j]:=Qn br
  generalize PS[j]=x at hx
  have dK:=Qr hx
  have pc:=gL x dK
  obtain⟨xa,xb,xc,xd,xf,xg,xu,xv⟩:=hP.one x pc
  have cT:∀ y∈PS.take j,x.e.prop≠y.e.prop:=fun y hy he=>by
   obtain⟨i,hi,pq⟩:=List.mem_take_iff_getElem.1 hy
   have h1:(PS.map fun x=>x.e.prop)[i]?=some y.e.prop:=by rw[Q5,Qn (by omega),pq];rfl
   have h2:(PS.map fun x=>x.e.prop)[j]?=some x.e.prop:=by rw[Q5,hx];rfl
   have jN:i < j:=by omega
   rw[Qn (by rw[Qu];omega)] at h1 h2
   injection h1 with h1
   injection h2 with h2
   have:=List.pairwise_iff_getElem.1 jB i j (by rw[Qu];omega) (by rw[Qu];omega) jN
   exact this (by rw[h1,h2,he])
  obtain⟨pe,ie,bk⟩:=bz j x s hx (fun j' fN=>ho j' fun y hy=>by
   have:=(hP.one y (gL y (XE hy))).2.2.2.2.2.2.2
   omega)
  have sx:s.get x.id=some (.row x.row):=(ho x.id fun y hy=>(jD x pc y (gL y (XE hy)) (cT y hy)).2).trans xc
  have sc:s.get x.cid=some (.row (V9 x.cl)):=(ho x.cid fun y hy=>(jD x pc y (gL y (XE hy)) (cT y hy)).1).trans xd
  have qu:Vf false 1 s (.ptr x.id 6)=some (.own x.cid 0 x.cl.length 2 none x.cl.length):=by
   obtain⟨a,b',c',gJ,_⟩:=x.e.d.cells_abc
   refine Vk sx ?_
   unfold Pr.row YX;rw[gJ];rfl
  have Ae:((gT (q+1)).cg Y).fn 77 [.own x.cid 0 x.cl.length 2 none x.cl.length,.func (.func 78) [] []] s=.ret (.tuple []) (s.put x.cid (.row (V9 (VY x.cl)))):=sort77_run sc (bB x pc).1 (bB x pc).2 q Y
  have aU:=WC (i:=j) (by omega)
  rw[Qs br] at am
  obtain⟨J1,H1,O1_125⟩:∃ aa,ar (q+1) Y wg31_32 f s=.ok aa s/\aa.get 125=some (.bool true):=⟨_,by simp only[Rw,rQ,rA,f2,f3,wg31_32,am]<;>rfl,gh⟩
  have V1_122:=ag H1 f1
  have V1_124:=ag H1 f3
  obtain⟨J2,H2,O2_24⟩:∃ aa,ar (q+1) Y wg31_33 J1 s=.ok aa s/\aa.get 24=some (.ptr x.id 0):=⟨_,by simp only[Rw,rQ,rA,V1_122,V1_124,wg31_33,ie,bk]<;>rfl,gh⟩
  obtain⟨J3,H3⟩:∃ aa,ar (q+1) Y wg31_34 J2 s=.ok aa (s.put x.cid (.row (V9 (VY x.cl)))):=⟨_,by simp only[Rw,rQ,rA,O2_24,wg31_34,Yq,RG,qu,Ae]<;>rfl⟩
  obtain⟨J4,H4,O4_124⟩:∃ aa,ar (q+1) Y wg31_35 J3 (s.put x.cid (.row (V9 (VY x.cl))))=.ok aa (s.put x.cid (.row (V9 (VY x.cl))))/\aa.get 124=some (ZI ((j+1))):=⟨_,by simp only[Rw,rQ,rA,(ag H3 (ag H2 V1_124)),wg31_35,aU]<;>rfl,gh⟩
  have kk:=(((((kf.t (aq H1)).t (aq H2)).t (aq H3)).t (aq H4))).to (E:=[122,123,124,125,126,127,24,128,129,130,131,132,133,134])
  have nu:PS.take (j+1)=PS.take j++[x]:=by rw[QT,hx];rfl
  have dr:ac (q+1) Y TE ro f s=.norm J4 (s.put x.cid (.row (V9 (VY x.cl)))):=by
   simp only[Rw,rQ,rA,TE,Rx,R5,R6,R7,bAA,bA11,H1,H2,H3,H4,O1_125]
  rw[dr]
  exact⟨br,kk,(ag H4 (ag H3 (ag H2 V1_122))),(ag H4 (ag H3 (ag H2 (ag H1 f2)))),O4_124,hn,fun i hi=>by
    rw[nu] at hi
    rw[St.get_put,Qe (hi x (by simp))]
    exact ho i fun y hy=>hi y (XC _ hy),fun y hy=>by
    rw[nu] at hy
    rcases QV.1 hy with hy | hy
    ·rw[St.get_put,Qe (fun h=>(jD x pc y (gL y (XE hy)) (cT y hy)).1 h.symm)];exact jE y hy
    ·rw[Xd.1 hy,St.get_put,Qm rfl]⟩
 ·rw[Qp br] at am
  have b9:j=PS.length:=by omega
  rw[b9,QH] at ho jE
  obtain⟨J5,H5,O5_125⟩:∃ aa,ar (q+1) Y wg31_32 f s=.ok aa s/\aa.get 125=some (.bool false):=⟨_,by simp only[Rw,rQ,rA,f2,f3,wg31_32,am]<;>rfl,gh⟩
  have kk:=((kf.t (aq H5))).to (E:=[122,123,124,125,126,127,24,128,129,130,131,132,133,134])
  have bV:ac (q+1) Y TE ro f s=.exit 10 J5 s:=by
   simp only[Rw,rQ,rA,TE,Rx,R5,R6,R7,bAA,bA11,H5,O5_125]
  rw[bV]
  exact⟨_,_,rfl,kk,hn,ho,jE⟩
set_option maxHeartbeats 1000000 in
theorem circle31_run{F:Nat->Prop}{st:St}{jv:AV}{js:List (AV × List En)}(hj:YQ F st jv js)(m:Nat)(Y:Vi)(hn:fzJ js+5000 < m){fr:Fr}{s:St}{b ci c lid:Nat}{lv:AV}{left:List Int}(hF:Vs F st s)
  (hb:s.get b=some (.row [.nilsl])) (cF:s.get (b+1)=some (.row [Z0,Z0,Z0])) (jC:s.get ci=some (.row [lv])) (hc:s.get c=some (.row [jv])) (jR:LfS s lv lid left) (d6:left.length<=4000) (hl:left≠[]) (Af:∀ q∈left,q∈V6 (RA (Vq js)))
  (Ag:∀ i,F i->i < s.next) (lt:b+1 < s.next/\ci < s.next/\c < s.next/\lid < s.next)
  (g4:fr.get 4=some (.ptr b 0)) (g5:fr.get 5=some (.ptr (b+1) 0)) (ip:fr.get 14=some (.ptr ci 0)) (g113:fr.get 113=some (.func (.func 107) [] [.ptr c 0])):
  ∃ s' p i,ac (m+1) Y wr31_0 none fr s=.ret { fr with ds:=.coll::fr.ds } s'/\s'.get b=some (.row [.nilsl])/\s'.get (b+1)=some (.row [ZI 4,ZI p,ZI i])/\s.next<=s'.next/\∀ j,j < s.next->j≠b->j≠b+1->s'.get j=s.get j:=by
 obtain⟨l1,l2,l3,l4⟩:=lt
 obtain⟨s',hh⟩:=SI (ps:=[114,115]) (asg:=wa31_0) (body:=wy31_0) (fr:=fr) (s:=s) hj m Y (by omega) (x:=.t 113) (c:=c) (by show (fr.get 113).getD .undef=_;rw[g113];rfl) rfl (R3:=fun d s1=>Vd s s1/\∀ z∈d,z.2.2.prop∉left)
  (Fin:=fun s1=>∃ p i:Nat,s1.get b=some (.row [.nilsl])/\s1.get (b+1)=some (.row [ZI 4,ZI p,ZI i])/\s.next<=s1.next/\∀ j,j < s.next->j≠b->j≠b+1->s1.get j=s.get j)
  (fun d s1 h=>⟨hF.trans fun i hi=>h.1.2 i (Ag i hi),by rw[h.1.2 c l3];exact hc⟩) (fun d s1 s2 h k=>⟨h.1.trans k,h.2⟩)
  (fun d s1 l h=>⟨h.1.put _ _ (Qw _),h.2⟩) (fun s1 l h=>by
   obtain⟨p,i,y1,y2,y3,y4⟩:=h
   exact⟨p,i,by rw[St.get_put,Qe (by omega)];exact y1,by rw[St.get_put,Qe (by omega)];exact y2,y3,fun j h1 h2 h3=>by rw[St.get_put,Qe (by omega)];exact y4 j h1 h2 h3⟩) ⟨Vd.new s _,fun z hz=>by simp at hz⟩ (fun p q i e s1 hp hi ⟨k0,dU⟩ mj nD=>by
   have c9:=e.cells9
   obtain⟨fB,dV⟩:∃ fB,fB=VL [114,115] [atV p i,.agg e.cells] { fr with ds:=[] }:=⟨_,rfl⟩
   rw[<-dV]
   have gB114:fB.get 114=some (atV p i):=by rw[dV];simp only[VL,Fr.get_set,rQ,↓reduceIte]
   have gB115:fB.get 115=some (.agg e.cells):=by rw[dV];simp only[VL,Fr.get_set,rQ,↓reduceIte]
   have gB4:fB.get 4=some (.ptr b 0):=by rw[dV];simp only[VL,Fr.get_set,rQ,↓reduceIte];exact g4
   have gB5:fB.get 5=some (.ptr (b+1) 0):=by rw[dV];simp only[VL,Fr.get_set,rQ,↓reduceIte];exact g5
   have gB14:fB.get 14=some (.ptr ci 0):=by rw[dV];simp only[VL,Fr.get_set,rQ,↓reduceIte];exact ip
   have cZ:Vt 2 (s1.new (.row [Z0,Z0])) (.ptr s1.next 0) (atV p i)=some ((s1.new (.row [Z0,Z0])).put s1.next (.row [ZI p,ZI i])):=VQ rfl rfl rfl
   have k1a:Vd s1 ((s1.new (.row [Z0,Z0])).put s1.next (.row [ZI p,ZI i])):=(Vd.refl s1).newput _ _
   have g1a:((s1.new (.row [Z0,Z0])).put s1.next (.row [ZI p,ZI i])).get s1.next=some (.row [ZI p,ZI i]):=by rw[St.get_put,Qm rfl]
   have n1a:((s1.new (.row [Z0,Z0])).put s1.next (.row [ZI p,ZI i])).next=s1.next+1:=rfl
   generalize uu:(s1.new (.row [Z0,Z0])).put s1.next (.row [ZI p,ZI i])=s1a at cZ k1a g1a n1a
   have bG:Vt 9 (s1a.new (.row ze9)) (.ptr s1a.next 0) (.agg e.cells)=some ((s1a.new (.row ze9)).put s1a.next (.row e.cells)):=VQ rfl c9.1 c9.2
   have k2:Vd s1a ((s1a.new (.row ze9)).put s1a.next (.row e.cells)):=(Vd.refl s1a).newput _ _
   have g2b:((s1a.new (.row ze9)).put s1a.next (.row e.cells)).get s1a.next=some (.row e.cells):=by rw[St.get_put,Qm rfl]
   have n2b:((s1a.new (.row ze9)).put s1a.next (.row e.cells)).next=s1a.next+1:=rfl
   unfold ze9 at bG k2 g2b n2b
   generalize bD:(s1a.new (.row _)).put s1a.next (.row e.cells)=s2 at bG k2 g2b n2b
   rw[n1a] at bG g2b n2b
   obtain⟨J1,H1,O1_21⟩:∃ aa,ar (m+1) Y wg31_27 fB s1=.ok aa s1a/\aa.get 21=some (.ptr s1.next 0):=⟨_,by simp only[Rw,rQ,rA,gB114,wg31_27,cZ]<;>rfl,gh⟩
   have V1_14:=ag H1 gB14
   obtain⟨J2,H2,O2_22⟩:∃ aa,ar (m+1) Y wg31_28 J1 s1a=.ok aa s2/\aa.get 22=some (.ptr (s1.next+1) 0):=⟨_,by simp only[Rw,rQ,rA,(ag H1 gB115),wg31_28,bG,n1a]<;>rfl,gh⟩
   have V2_14:=ag H2 V1_14
   have gc:ac (m+1) Y wa31_0 (some s.next) fB s1=.norm J2 s2:=by
    simp only[Rw,rQ,rA,wa31_0,Rx,R5,R6,R7,H1,H2]
   have iG:=k1a.trans k2
   have L1:s2.get s.next=some (.loop .ready):=by rw[iG.2 _ nD];exact mj
   refine⟨_,_,gc,iG,?_⟩
   have g3:∀ k,k≠s.next->(s2.put s.next (.loop .busy)).get k=s2.get k:=fun k hk=>by rw[St.get_put,Qe hk]
   have g3L:(s2.put s.next (.loop .busy)).get s.next=some (.loop .busy):=by rw[St.get_put,Qm rfl]
   have n3:(s2.put s.next (.loop .busy)).next=s1.next+2:=by show s2.next=_;omega
   have k3:Vd s (s2.put s.next (.loop .busy)):=(k0.trans iG).put _ _ (Qw _)
   generalize s2.put s.next (.loop .busy)=s3 at g3 g3L n3 k3
   have a8:s3.get s1.next=some (.row [ZI p,ZI i]):=by rw[g3 _ (by omega),k2.2 _ (by omega)];exact g1a
   have a9:s3.get (s1.next+1)=some (.row e.cells):=by rw[g3 _ (by omega)];exact g2b
   have l8:=ld2r a8
   have e2:Vf false 1 s3 (.ptr (s1.next+1) 2)=some (.int .i64 e.prop):=Vk a9 rfl
   have nS:Vf false 1 s3 (.ptr ci 0)=some lv:=Vk ((k3.2 ci l2).trans jC) rfl
   obtain⟨q',gR⟩:∃ q',m+1=q'+2:=⟨m - 1,by omega⟩
   have xr:((gT (m+1)).cg Y).fn 75 [lv,.int .i64 e.prop] s3=.ret (.bool (left.contains e.prop)) s3:=by
    have:=contains75_run ((jR.keep (k3.2 lid l4)).sl (by omega)) e.prop q' Y (by omega)
    rw[<-gR] at this;exact this
   have aH:left.contains e.prop=true ↔ e.prop∈left:=by simp
   generalize left.contains e.prop=B at *
   cases B with
   | true=>
    refine .inr ?_
    obtain⟨sD,eL,cY⟩:=bad_run (.ofNat 4) (.ofNat p) (.ofNat i) m Y s3
    have eL:((gT (m+1)).cg Y).fn 76 [ZI 4,.agg [ZI p,ZI i]] s3=.ret (.agg [ZI 4,ZI p,ZI i]) sD:=eL
    have ai:Vt 1 sD (.ptr b 0) .nilsl=some (sD.put b (.row [.nilsl])):=V4 (((cY.2 _ (by omega)).trans ((k3.2 b (by omega)).trans hb))) rfl rfl (by simp) rfl
    have gD:(sD.put b (.row [.nilsl])).get (b+1)=some (.row [Z0,Z0,Z0]):=by rw[St.get_put,Qe (by omega),cY.2 _ (by omega),k3.2 _ l1];exact cF
    have st2:Vt 3 (sD.put b (.row [.nilsl])) (.ptr (b+1) 0) (.agg [ZI 4,ZI p,ZI i])=some ((sD.put b (.row [.nilsl])).put (b+1) (.row [ZI 4,ZI p,ZI i])):=V4 gD rfl rfl (by simp) rfl
    obtain⟨J4,H4,O4_119⟩:∃ aa,ar (m+1) Y wg31_29 J2 s3=.ok aa s3/\aa.get 119=some (.bool true):=⟨_,by simp only[Rw,rQ,rA,V2_14,O2_22,wg31_29,RG,nS,e2,xr]<;>rfl,gh⟩
    obtain⟨J5,H5⟩:∃ aa,ar (m+1) Y wg31_30 J4 s3=.ok aa ((sD.put b (.row [.nilsl])).put (b+1) (.row [ZI 4,ZI p,ZI i])):=⟨_,by simp only[Rw,rQ,rA,(ag H4 (ag H2 (ag H1 gB4))),(ag H4 (ag H2 (ag H1 gB5))),(ag H4 (ag H2 O1_21)),wg31_30,l8,eL,ai,st2]<;>rfl⟩
    have ed:ac (m+1) Y wy31_0 (some s.next) J2 s3=.ret J5 ((sD.put b (.row [.nilsl])).put (b+1) (.row [ZI 4,ZI p,ZI i])):=by
     simp only[Rw,rQ,rA,wy31_0,Rx,R5,R6,R7,H4,H5,O4_119]
    have BS:=cY.1
    exact⟨_,_,ed,by rw[St.get_put,Qe (by omega),St.get_put,Qe (by omega),cY.2 _ (by omega)];exact g3L,p,i,by rw[St.get_put,Qe (by omega),St.get_put,Qm rfl],by rw[St.get_put,Qm rfl],by show s.next<=sD.next;omega,fun j h1 h2 h3=>by rw[St.get_put,Qe h3,St.get_put,Qe h2,cY.2 _ (by omega)];exact k3.2 j h1⟩
   | false=>
    refine .inl ?_
    have az:e.prop∉left:=fun h=>by have:=aH.2 h;cases this
    obtain⟨J7,H7,O7_119⟩:∃ aa,ar (m+1) Y wg31_29 J2 s3=.ok aa s3/\aa.get 119=some (.bool false):=⟨_,by simp only[Rw,rQ,rA,V2_14,O2_22,wg31_29,RG,nS,e2,xr]<;>rfl,gh⟩
    have ed:ac (m+1) Y wy31_0 (some s.next) J2 s3=.norm J7 s3:=by
     simp only[Rw,rQ,rA,wy31_0,Rx,R5,R6,R7,b99,H7,O7_119]
    exact⟨_,_,ed,g3L,by omega,k3,fun z hz=>by
     rcases QV.1 hz with hz | hz
     ·exact dU z hz
     ·rw[Xd.1 hz];exact az⟩)
 rcases hh with⟨_,⟨_,dU⟩,_⟩|⟨hR,p,i,y1,y2,y3,y4⟩
 ·exfalso
  obtain⟨q,hq⟩:=List.exists_mem_of_ne_nil left hl
  obtain⟨e,he,dO⟩:=(YK _ _).1 (Af q hq)
  obtain⟨z,hz,rfl⟩:=Q6.1 he
  exact dU z hz (dO ▸ hq)
 ·exact⟨s',p,i,hR,y1,y2,y3,y4⟩
end Go.AM.D32
