import Derived.Test.YtejdliehekjicaaGreatAwWa16
set_option maxRecDepth 100000
set_option linter.unusedSimpArgs false
namespace Go.AM.D32
open Go Go.AM
open Nat renaming reduceEqDiff -> rQ, reduceAdd -> rA
structure PrSt(A lim hi:Nat)(d:List Sp)(s:St)(PL:List Pr):Prop where
 all:s.get A=some (.fmap (esP PL))
 prs:PL.map (fun x=>x.e.prop)=V6 (ens d)
 one:∀ x∈PL,d.find? (fun z=>z.2.2.prop==x.e.prop)=some (x.p,x.i,x.e)/\x.cl=clE (ens d) x.e.prop/\s.get x.id=some (.row x.row)/\s.get x.cid=some (.row (V9 x.cl))/\lim<=x.id/\lim<=x.cid/\x.id < hi/\x.cid < hi
 ids:(PL.flatMap fun x=>[x.id,x.cid]).Nodup
 lim:A < lim
theorem PrSt.keep{A lim hi:Nat}{d:List Sp}{s s':St}{PL:List Pr}(h:PrSt A lim hi d s PL)(k:∀ j,j=A\/(lim<=j/\j < hi)->s'.get j=s.get j):PrSt A lim hi d s' PL:=by
 refine⟨by rw[k _ (.inl rfl)];exact h.all,h.prs,fun x hx=>?_,h.ids,h.lim⟩
 obtain⟨a,b,c,e,f,g,i,j⟩:=h.one x hx
 exact⟨a,b,by rw[k _ (.inr ⟨f,i⟩)];exact c,by rw[k _ (.inr ⟨g,j⟩)];exact e,f,g,i,j⟩
theorem nodup_lt:∀(n:Nat) (l:List Nat),l.Nodup->(∀ x∈l,x < n)->l.length<=n
 | 0,l,_,h=>by
  cases l with
  | nil=>exact Qw _
  | cons x l=>exact absurd (h x (by simp)) (by omega)
 | n+1,l,hn,h=>by
  have h1:(l.erase n).length<=n:=nodup_lt n (l.erase n) (hn.erase n) fun x hx=>by
   have:=(hn.mem_erase_iff.1 hx)
   have:=h x this.2
   omega
  have:=List.length_erase (a:=n) (l:=l)
  split at this<;>omega
def YC(PL:List Pr)(ks:List Nat):List (Int × Int):=ks.flatMap fun i=>match PL[i]? with
 | some x=>x.cl
 | none=>[]
theorem clsOf_range(PL:List Pr):YC PL (List.range PL.length)=PL.flatMap (·.cl):=by
 unfold YC
 induction PL using JS with
 | nil=>rfl
 | snoc l x ih=>
  rw[QJ,Zu,List.range_succ,X0,X0]
  congr 1
  ·rw[<-ih,Zf,Zf]
   refine Xn List.flatten (QX fun i hi=>?_)
   rw[Xk (Xo.1 hi)]
  ·simp
theorem clsOf_le(PL:List Pr)(B:Nat)(hB:∀ x∈PL,x.cl.length<=B):∀ ks:List Nat,(YC PL ks).length<=ks.length*B
 | []=>by simp[YC]
 | i::ks=>by
  have ih:=clsOf_le PL B hB ks
  unfold YC at ih ⊢
  rw[Xa,QJ,QC,Xv,Nat.one_mul]
  have:(match PL[i]? with
   | some x=>x.cl
   | none=>[]).length<=B:=by
   split
   ·rename_i x hx;exact hB x (Qr hx)
   ·simp
  omega
theorem clsOf_snoc(PL:List Pr)(ks:List Nat)(i:Nat){x:Pr}(h:PL[i]?=some x):YC PL (ks++[i])=YC PL ks++x.cl:=by
 unfold YC;rw[X0];simp[h]
theorem extract0(a b:AV):WJ 0 (.tuple [a,b])=some a:=rfl
theorem extract1(a b:AV):WJ 1 (.tuple [a,b])=some b:=rfl
set_option maxHeartbeats 1000000 in
theorem total31{m:Nat}{Y:Vi}{ro:Option Nat}{fr:Fr}{s:St}{A lim hi:Nat}{d:List Sp}{PL:List Pr}{id0 T tp k:Nat}(hP:PrSt A lim hi d s PL)(hid:s.get id0=some (.iter A []))(htp:s.get tp=some (.row [.own T 0 k 1 (some k) 0]))(hT:s.get T=some (.row (Vw k fun _=>0)))
  (o1:hi<=id0) (o2:hi<=tp) (o3:hi<=T) (o4:id0≠tp) (o5:id0≠T) (o6:tp≠T) (o7:id0 < s.next/\tp < s.next/\T < s.next) (o8:lim<=hi)
  (hk:∀ x∈PL,∀ c∈x.cl,0<=c.1/\c.1 < (k:Int)) (hb:∀ x∈PL,x.cl.length<=4000) (hne:∀ x∈PL,x.cl≠[]) (hn:PL.length<=4000) (hm:5000 < m)
  (g44:fr.get 44=some (.ptr id0 0)) (g9:fr.get 9=some (.ptr tp 0)) (un:∀ j∈[45,46,47,48,11,49,50,51,52,53,54,55,56,57,13,59,60,61,62,63,64,65,66,58],fr.get j=none):
  ∃ F S,ac m Y wm31_1 ro fr s=.exit 0 F S/\(∀ j,j∉[44,45,46,47,48,11,49,50,51,52,53,54,55,56,57,58,13,59,60,61,62,63,64,65,66,55]->F.get j=fr.get j)/\F.ds=fr.ds/\PrSt A lim hi d S PL/\S.get T=some (.row (Vw k fun i=>VB (PL.flatMap (·.cl)) i))/\s.next<=S.next/\∀ j,j < s.next->j≠id0->j≠T->S.get j=s.get j:=by
 have hlen:(esP PL).length=PL.length:=by unfold esP;rw[Qu]
 obtain⟨F,S,h1,h2,h3,h4,h5⟩:=mrange_run (Γ:=gT m) (Y:=Y) (n:=m) (it:=44) (nx:=45) (more:=46) (out:=0) (cl:=[44,45,46,47,48,11,49,50,51,52,53,54,55,56,57,58,13,59,60,61,62,63,64,65,66,55]) (c:=wc31_1) (ro:=ro) (fr:=fr) (st:=s) (id:=id0) (m:=A) (es:=esP PL)
  (Q:=fun ks f s1=>(∀ j,j∉[44,45,46,47,48,11,49,50,51,52,53,54,55,56,57,58,13,59,60,61,62,63,64,65,66,55]->f.get j=fr.get j)/\f.ds=fr.ds/\(ks=[]->∀ j∈[45,46,47,48,11,49,50,51,52,53,54,55,56,57,13,59,60,61,62,63,64,65,66,58],f.get j=none)/\(ks≠[]->(∀ j∈[45,46,47,48,11,49,50,51,52,53,54,55,56,57,13,59,60,61,62,63,64,65,66],VR (ev f (.t j))=true)/\∃ a b:Int,f.get 58=some (.agg [.int .i64 a,.int .i64 b]))/\s1.next=s.next+(YC PL ks).length/\s1.get T=some (.row (Vw k fun i=>VB (YC PL ks) i))/\∀ j,j < s.next->j≠id0->j≠T->s1.get j=s.get j)
  (G:=fun j=>if j=T then some (.row (Vw k fun i=>VB (PL.flatMap (·.cl)) i)) else s.get j) (N:=s.next+(PL.flatMap (·.cl)).length) (sh:=fun j=>if j=58/\PL≠[] then some 2 else none)
  g44 hid hP.all (by decide) ⟨by simp,by simp⟩ ⟨fun _ _=>rfl,rfl,fun _=>un,fun h=>absurd rfl h,rfl,by simpa [YC,VB] using hT,fun _ _ _ _=>rfl⟩
  (fun ks i f s1 hi' hnk hks hdup fi ⟨q1,q2,q3,q4,q5,q6,q7⟩=>by
   rw[hlen] at hi' hks
   have hx:PL[i]?=some PL[i]:=Qn hi'
   generalize PL[i]=x at hx
   have hxm:=Qr hx
   obtain⟨xa,xb,xc,xd,xf,xg,xu,xv⟩:=hP.one x hxm
   have hkl:ks.length<=PL.length:=nodup_lt PL.length ks hdup hks
   have hcb:(YC PL ks).length<=16000000:=by
    have h1:=clsOf_le PL 4000 hb ks
    have h2:ks.length<=4000:=by omega
    omega
   obtain⟨s2,hs2⟩:∃ s2,s2=s1.put id0 (.iter A (ks++[i])):=⟨_,rfl⟩
   have p2:∀ j,j≠id0->s2.get j=s1.get j:=fun j hj=>by rw[hs2,St.get_put,Qe hj]
   have p2i:s2.get id0=some (.iter A (ks++[i])):=by rw[hs2,St.get_put,Qm rfl]
   have n2:s2.next=s.next+(YC PL ks).length:=by rw[hs2];exact q5
   rw[<-hs2]
   have hA:=hP.lim
   have p0:∀ j,j < s.next->j≠id0->j≠T->s2.get j=s.get j:=fun j h1 h2 h3=>(p2 j h2).trans (q7 j h1 h2 h3)
   have eA:s2.get A=some (.fmap (esP PL)):=(p0 A (by omega) (by omega) (by omega)).trans hP.all
   have een:entA s2 (.ptr id0 0)=some (.tuple [.int .i64 x.e.prop,.ptr x.id 0]):=by
    have:(esP PL)[i]?=some (.int .i64 x.e.prop,.ptr x.id 0):=by unfold esP;rw[Q5,hx];rfl
    simp only[entA,p2i,List.getLast?_append,List.getLast?_singleton,Option.some_or,eA,this,Ql]
   have lx6:Vf false 1 s2 (.ptr x.id 6)=some x.csl:=by
    obtain⟨a,b',c',hda,_⟩:=x.e.d.cells_abc
    refine Vk ((p0 x.id (by omega) (by omega) (by omega)).trans xc) ?_
    unfold Pr.row YX;rw[hda];rfl
   have hln:(bif VD 0 x.csl then Wm s2 x.csl else none)=some (ZI x.cl.length):=by
    have h0:ClS s2 x.csl x.cid x.cl:=.inr ⟨rfl,(p0 x.cid (by omega) (by omega) (by omega)).trans xd⟩
    have:=(h0.sl (by have:=hb x hxm;omega)).len s2
    rwa [Qu] at this
   obtain⟨f1,hf1⟩:∃ f1,f1=(f.set 45 (some .top)).set 46 (some .top):=⟨_,rfl⟩
   rw[<-hf1]
   have kf1:Kq [46,45] f f1:=by rw[hf1];exact Kq.refl.s.s
   have u44:=kf1.g 44 fi
   have u9:f1.get 9=some (.ptr tp 0):=kf1.g 9 ((q1 9 (by decide)).trans g9)
   have u45:f1.get 45=some .top:=by rw[hf1,Fr.get_set,Qe (by decide),Fr.get_set,Qm rfl]
   have u46:f1.get 46=some .top:=by rw[hf1,Fr.get_set,Qm rfl]
   obtain⟨J1,H1,O1_47,O1_48,O1_11⟩:∃ fr',ar m Y wg31_6 f1 s2=.ok fr' s2/\fr'.get 47=some (.tuple [.int .i64 x.e.prop,.ptr x.id 0])/\fr'.get 48=some (.ptr x.id 0)/\fr'.get 11=some (.ptr x.id 0):=⟨_,by simp only[amE,rQ,rA,u44,wg31_6,een,extract1,nd_ent]<;>rfl,gn (gn gh),gn gh,gh⟩
   obtain⟨J2,H2,O2_49,O2_50,O2_51,O2_52,O2_53,O2_54,O2_55⟩:∃ fr',ar m Y wg31_7 J1 s2=.ok fr' s2/\fr'.get 49=some (.ptr x.id 0)/\fr'.get 50=some (.ptr x.id 0)/\fr'.get 51=some (.ptr x.id 0)/\fr'.get 52=some (.ptr x.id 6)/\fr'.get 53=some (x.csl)/\fr'.get 54=some (ZI x.cl.length)/\fr'.get 55=some Z0:=⟨_,by simp only[amE,rQ,rA,O1_11,wg31_7,Yq,faP,lx6,hln]<;>rfl,gn (gn (gn (gn (gn (gn gh))))),gn (gn (gn (gn (gn gh)))),gn (gn (gn (gn gh))),gn (gn (gn gh)),gn (gn gh),gn gh,gh⟩
   obtain⟨FR,s',hL,kL,cL,fL,⟨bb,bL⟩,nL,tL,oL⟩:=tot31_run (m:=m) (Y:=Y) (ro:=ro) (s:=s2) (fr:=J2) (csl:=x.csl) (cid:=x.cid) (cl:=x.cl) (T:=T) (tp:=tp) (k:=k) (g:=fun i=>VB (YC PL ks) i) (.inr ⟨rfl,(p0 x.cid (by omega) (by omega) (by omega)).trans xd⟩) (by have:=hb x hxm;omega) (by have:=hb x hxm;omega) (hk x hxm)
    ((p0 tp (by omega) (by omega) (by omega)).trans htp) ((p2 T (by omega)).trans q6) (fun j=>by have:=cntC_le (YC PL ks) j;omega) ⟨by omega,by omega,by omega⟩ (by omega) (by omega) rfl O2_53 O2_54 O2_55 (ag H2 (ag H1 u9))
   have L44:=kL.g 44 (ag H2 (ag H1 u44))
   have L45:=kL.g 45 (ag H2 (ag H1 u45))
   have L46:=kL.g 46 (ag H2 (ag H1 u46))
   have L47:=kL.g 47 (ag H2 O1_47)
   have L48:=kL.g 48 (ag H2 O1_48)
   have L11:=kL.g 11 (ag H2 O1_11)
   have L49:=kL.g 49 O2_49
   have L50:=kL.g 50 O2_50
   have L51:=kL.g 51 O2_51
   have L52:=kL.g 52 O2_52
   have L53:=kL.g 53 O2_53
   have L54:=kL.g 54 O2_54
   have kk:=((((kf1.t (aq H1)).t (aq H2)).t kL)).to (E:=[44,45,46,47,48,11,49,50,51,52,53,54,55,56,57,58,13,59,60,61,62,63,64,65,66,55])
   have hI:ac m Y wc31_1 ro f1 s2=.norm FR s':=by
    simp only[amE,rQ,rA,wc31_1,b00,b11,b22,b33,H1,H2,hL]
   refine⟨FR,s',hI,L44,?_,fun j hj=>?_,?_,fun h=>absurd h (by simp),fun _=>⟨fun j hj=>?_,(cL (hne x hxm)).2⟩,?_,?_,fun j h1 h2 h3=>?_⟩
   ·rw[oL _ (by omega) (by omega)];exact p2i
   ·rw[kk.2 j hj];exact q1 j hj
   ·exact kk.1.trans q2
   ·simp only[Qx,QI,Xh] at hj
    rcases hj with rfl | rfl | rfl | rfl | rfl | rfl | rfl | rfl | rfl | rfl | rfl | rfl | rfl | rfl | rfl | rfl | rfl | rfl | rfl | rfl | rfl | rfl | rfl
    ·exact nag L45
    ·exact nag L46
    ·exact nag L47
    ·exact nag L48
    ·exact nag L11
    ·exact nag L49
    ·exact nag L50
    ·exact nag L51
    ·exact nag L52
    ·exact nag L53
    ·exact nag L54
    ·exact nag fL
    ·exact nag bL
    ·exact(cL (hne x hxm)).1 57 (by decide)
    ·exact(cL (hne x hxm)).1 13 (by decide)
    ·exact(cL (hne x hxm)).1 59 (by decide)
    ·exact(cL (hne x hxm)).1 60 (by decide)
    ·exact(cL (hne x hxm)).1 61 (by decide)
    ·exact(cL (hne x hxm)).1 62 (by decide)
    ·exact(cL (hne x hxm)).1 63 (by decide)
    ·exact(cL (hne x hxm)).1 64 (by decide)
    ·exact(cL (hne x hxm)).1 65 (by decide)
    ·exact(cL (hne x hxm)).1 66 (by decide)
   ·rw[nL,n2,clsOf_snoc PL ks i hx,QJ];omega
   ·rw[tL,clsOf_snoc PL ks i hx]
    congr 2
    exact Xn (Vw k) (funext fun q=>(cntC_app _ _ q).symm)
   ·rw[oL _ (by omega) h3];exact p0 j h1 h2 h3)
  (fun l f s1 hl fi ⟨q1,q2,q3,q4,q5,q6,q7⟩=>by
   rw[hlen] at hl
   have hpm:(YC PL l).Perm (PL.flatMap (·.cl)):=by rw[<-clsOf_range];unfold YC;exact hl.flatMap_right _
   refine⟨q1,q2,fun j hj hji=>?_,?_,fun j h1 h2=>?_⟩
   ·by_cases hl0:l=[]
    ·have hPL:PL=[]:=by
      subst hl0
      have:=hl.length_eq
      rw[Zo] at this
      exact XU.1 this.symm
     rw[Qe (by simp[hPL])]
     show VR ((f.get j).getD .undef)=true
     have hjm:j∈[45,46,47,48,11,49,50,51,52,53,54,55,56,57,13,59,60,61,62,63,64,65,66,58]:=by
      simp only[Qx,QI,Xh] at hj ⊢
      omega
     rw[q3 hl0 j hjm];rfl
    ·have hPL:PL≠[]:=fun h=>hl0 (by
      subst h;exact XU.1 (by rw[hl.length_eq];rfl))
     obtain⟨c1,a,b,c2⟩:=q4 hl0
     by_cases h58:j=58
     ·subst h58
      rw[Qm ⟨rfl,hPL⟩]
      refine⟨[.int .i64 a,.int .i64 b],?_,rfl,rfl⟩
      show (f.get 58).getD .undef=_
      rw[c2];rfl
     ·rw[Qe (fun h=>h58 h.1)]
      refine c1 j ?_
      simp only[Qx,QI,Xh] at hj ⊢
      omega
   ·rw[q5,hpm.length_eq]
   ·show s1.get j=if j=T then _ else s.get j
    by_cases hj:j=T
    ·subst hj
     rw[Qm rfl,q6]
     congr 2
     exact Xn (Vw k) (funext fun q=>cntC_perm hpm q)
    ·rw[Qe hj];exact q7 j h1 h2 hj)
 have hA:=hP.lim
 refine⟨F,S,h1,h2,h3,hP.keep fun j hj=>?_,?_,by omega,fun j a1 a2 a3=>?_⟩
 ·rw[h5 j (by omega) (by omega),Qe (by omega)]
 ·rw[h5 T o7.2.2 (fun e=>o5 e.symm),Qm rfl]
 ·rw[h5 j a1 a2,Qe a3]
noncomputable section
open Nat renaming reduceEqDiff -> rQ, reduceAdd -> rA
def LfS(s:St)(lv:AV)(id:Nat)(L:List Int):Prop:=(lv=.nilsl/\L=[])\/(∃ rest lo,lv=.own id 0 L.length 1 none lo/\L.length<=lo/\s.get id=some (.row (L.map (AV.int .i64)++rest)))
theorem LfS.sl{s:St}{lv:AV}{id:Nat}{L:List Int}(h:LfS s lv id L)(hb:L.length < 100000):SlI (fun i=>i=id) s lv L:=by
 rcases h with⟨rfl,rfl⟩|⟨rest,lo,rfl,h1,h2⟩
 ·exact SlN.nil (by omega) _ _
 ·have hfl:((L.map (AV.int .i64)).map fun x=>[x]).flatten=L.map (AV.int .i64):=by
   induction L.map (AV.int .i64) with
   | nil=>rfl
   | cons x l ih=>simp only[Q4,Xc,ih];rfl
  refine⟨by omega,fun x hx=>?_,by simp;omega,.inr (.inr ⟨id,none,lo,rest,by simp,rfl,by rw[hfl];exact h2⟩)⟩
  obtain⟨y,hy,rfl⟩:=Q6.1 hx
  obtain⟨z,_,rfl⟩:=Q6.1 hy
  exact⟨rfl,rfl⟩
theorem LfS.keep{s s':St}{lv:AV}{id:Nat}{L:List Int}(h:LfS s lv id L)(k:s'.get id=s.get id):LfS s' lv id L:=by
 rcases h with h|⟨rest,lo,h1,h2,h3⟩
 ·exact .inl h
 ·exact .inr ⟨rest,lo,h1,h2,k.trans h3⟩
def wg71_0:List Vc:=[ZO 1 (.box false (.t 0)),ZM 2 (.c .nilfn)]
def wg71_1:List Vc:=[ZO 3 (.mkfn 118 [] [(.t 1)]),ZV 2 3]
def wf71:Vm:=⟨4,(ZQ wg71_0 (ZR wg71_1)),[.t 2]⟩
theorem t71:tbl 71=some wf71:=by kernel_rfl
theorem keys71_run(A:Nat)(m:Nat)(Y:Vi)(st:St):R (m+1) Y 71 [.map A] st=.ret (.func (.func 118) [] [.ptr st.next 0]) (st.new (.row [.map A])):=by
 obtain⟨fA1,hA1⟩:∃ fA,fA=Vo 0 [.map A] Fr.nil:=⟨_,rfl⟩
 have gA1_0:=gAt hA1 0
 have dA1:fA1.ds=[]:=by rw[hA1];rfl
 obtain⟨J2,H2,O2_1⟩:∃ fr',ar m Y wg71_0 fA1 st=.ok fr' (st.new (.row [.map A]))/\fr'.get 1=some (.ptr st.next 0):=⟨_,by simp only[amE,rQ,rA,gA1_0,wg71_0]<;>rfl,gn gh⟩
 have W2:=ad H2 dA1
 obtain⟨J3,H3,O3_2⟩:∃ fr',ar m Y wg71_1 J2 (st.new (.row [.map A]))=.ok fr' (st.new (.row [.map A]))/\fr'.get 2=some (.func (.func 118) [] [.ptr st.next 0]):=⟨_,by simp only[amE,rQ,rA,O2_1,wg71_1,Jy]<;>rfl,gh⟩
 have W3:=ad H3 W2
 refine Ve (mf:=wf71) (fr:=J3) t71 rfl (.inl ?q3) W3 (by simp only[wf71,amE,O3_2])
 case q3=>
  rw[<-hA1]
  simp only[amE,rQ,rA,wf71,b00,b11,b22,b33,H2,H3]
theorem t70:tbl 70=none:=by kernel_rfl
theorem in64_ok{x:Int}(h:okN x=true):in64 x=true:=by
 obtain⟨h1,h2⟩:=(Tb x).1 h
 obtain⟨n,rfl⟩:∃ n:Nat,x=.ofNat n:=⟨x.toNat,by show x=((x.toNat:Nat):Int);omega⟩
 have h2:(n:Int)<=2147483647:=h2
 exact Qo (by omega)
theorem keysI_esP(PL:List Pr)(h:∀ x∈PL,okN x.e.prop=true):keysI (esP PL)=some (PL.map fun x=>x.e.prop):=by
 unfold esP
 induction PL with
 | nil=>rfl
 | cons x PL ih=>
  simp only[Q4,keysI,in64_ok (h x (by simp)),Qi,ih (fun y hy=>h y (by simp[hy])),Ql]
theorem sorted70_run{PL:List Pr}{A c:Nat}{st:St}(hc:st.get c=some (.row [.map A]))(hA:st.get A=some (.fmap (esP PL)))(hk:∀ x∈PL,okN x.e.prop=true)(hn:(PL.map fun x=>x.e.prop).Nodup)(hl:PL.length<=4000)(m:Nat)(Y:Vi):
  ∃ lv st',R (m+1) Y 70 [.func (.func 118) [] [.ptr c 0]] st=.ret lv st'/\LfS st' lv st.next (Wn (PL.map fun x=>x.e.prop))/\st.next<=st'.next/\(∀ j,j < st.next->st'.get j=st.get j)/\(Wn (PL.map fun x=>x.e.prop)≠[]->st.next < st'.next)/\(Wn (PL.map fun x=>x.e.prop)=[]->lv=.nilsl):=by
 have hR:R (m+1) Y 70 [.func (.func 118) [] [.ptr c 0]] st=Ui 118 [.func (.func 118) [] [.ptr c 0]] st:=by
  unfold R
  simp only[Ji,t70]
  rfl
 have hes:esOf st A=some (esP PL):=by unfold esOf;rw[hA]
 have hlen:(PL.map fun x=>x.e.prop).length=PL.length:=Qu ..
 have hb:Nat.ble (PL.map fun x=>x.e.prop).length 1000000=true:=Qo (by omega)
 rw[hR]
 unfold Ui
 have h118:Nat.beq 118 118=true:=rfl
 simp only[h118,Qi,hc,hes,Qg,keysI_esP PL hk,sortI_asc hn,hb,Qy]
 generalize hL:Wn (PL.map fun x=>x.e.prop)=L
 cases L with
 | nil=>exact⟨_,_,rfl,.inl ⟨rfl,rfl⟩,Qw _,fun _ _=>rfl,(fun h=>absurd rfl h),fun _=>rfl⟩
 | cons x l=>exact⟨_,_,rfl,.inr ⟨[],_,rfl,Qw _,by rw[St.get_new,Qm rfl,QG]⟩,by simp,fun j hj=>by rw[St.get_new,Qe (by omega)],(fun _=>by simp),fun h=>by cases h⟩
def wg74_0:List Vc:=[ZM 6 (.c .nilsl)]
def wg74_1:List Vc:=[ZV 8 0,ZV 9 1,ZV 10 2,ZV 11 0,ZN 12 11,ZO 13 (.slice 1 (.t 8) (some (.t 9)) (some (.t 10)) (some (.t 12)))]
def wg74_2:List Vc:=[ZV 14 1,ZV 15 2,ZO 16 (.bin false .eql (.t 14) (.t 15))]
def wg74_3:List Vc:=[ZV 17 0,ZV 6 17]
def wg74_4:List Vc:=[ZV 18 0,ZN 19 18,ZV 7 19]
def wg74_5:List (Vc × Nat):=[(ZV 20 0,0),(ZV 21 1,0),(ZO 22 (.slice 1 (.t 20) none (some (.t 21)) none),3),(ZV 23 0,0),(ZV 24 2,0),(ZO 25 (.slice 1 (.t 23) (some (.t 24)) none none),24),(ZO 26 (.append 8 1 none (.t 22) (.t 25)),63),(ZV 0 26,127)]
def wg74_6:List Vc:=[ZV 27 0,ZV 28 0,ZN 29 28,ZV 30 7,ZO 31 (.slice 1 (.t 27) (some (.t 29)) (some (.t 30)) none),⟨none,.clr 1 [Z0] (.t 31),none⟩]
def wg74_7:List Vc:=[ZV 32 0,ZV 6 32]
def wf74:Vm:=⟨33,(ZQ wg74_0 (ZQ wg74_1 (.seq (ZQ wg74_2 (.cond (.t 16) (ZR wg74_3) .skip)) (ZQ wg74_4 (.seq (.draw wg74_5 []) (ZQ wg74_6 (ZR wg74_7))))))),[.t 6]⟩
theorem t74:tbl 74=some wf74:=by kernel_rfl
theorem bnd_i(n:Nat):JC (some (ZI n))=some (some n):=rfl
theorem delete74_run{s:St}{lv:AV}{id:Nat}{L:List Int}(h:LfS s lv id L)(hb:L.length<=4000){i:Nat}(hi:i < L.length)(m:Nat)(Y:Vi):
  ∃ lv' s',R (m+1) Y 74 [lv,ZI i,ZI ((i+1))] s=.ret lv' s'/\LfS s' lv' id (L.eraseIdx i)/\s'.next=s.next/\∀ j,j≠id->s'.get j=s.get j:=by
 rcases h with⟨rfl,rfl⟩|⟨rest,lo,rfl,hlo,hg⟩
 ·simp at hi
 have hel:(L.eraseIdx i).length=L.length - 1:=List.length_eraseIdx_of_lt hi
 obtain⟨n,hn⟩:∃ n,L.length=n+1:=⟨L.length - 1,by omega⟩
 have hcl:(L.map (AV.int .i64)).length=n+1:=by rw[Qu,hn]
 have l1:∀ k lo' st',(bif VD 0 (.own id 0 k 1 none lo') then Wm st' (.own id 0 k 1 none lo') else none)=some (ZI k):=fun k lo' st'=>rfl
 have s1:Ys 1 (.own id 0 (n+1) 1 none lo) (some (ZI i)) (some (ZI ((i+1)))) (some (ZI ((n+1))))=some (.own id (0+i*1) (i+1 - i) 1 (some (n+1 - i)) 0):=by
  simp only[Ys,bnd_i,Qg,TF,Q9,QD,Qo (show i<=i+1 by omega),hiOk,Qo (show i+1<=n+1 by omega),QU,Qy,Qi,Qo (Qw (n+1)),Option.isSome_some,XS]
 have s2:Ys 1 (.own id 0 (n+1) 1 none lo) none (some (ZI i)) none=some (.own id (0+0*1) (i - 0) 1 none (lo - 0)):=by
  simp only[Ys,bnd_i,JC,Ql,Qg,TF,Q9,X5,QD,Qo (X3 i),hiOk,Qo (show i<=n+1 by omega),QU,Qy,Qi,bndA]
 rw[Nat.sub_zero,Nat.sub_zero] at s2
 have s2:Ys 1 (.own id 0 (n+1) 1 none lo) none (some (ZI i)) none=some (.own id 0 i 1 none lo):=s2
 have eql:Vr false .eql (ZI i) (ZI ((i+1)))=some (.bool false):=by
  rw[eqlI];congr 2;simp;omega
 have s4:Ys 1 (.own id 0 n 1 none lo) (some (ZI n)) (some (ZI ((n+1)))) none=some (.own id (0+n*1) (n+1 - n) 1 none (lo - n)):=by
  simp only[Ys,bnd_i,JC,Ql,Qg,TF,Q9,X5,QD,Qo (show n<=n+1 by omega),hiOk,Qo (show n+1<=lo by omega),XS,Qy,Qi,bndA,Qo (Qw (n+1))]
 rw[Q7,XP,show n+1 - n=1 by omega] at s4
 -- the row behind it
 have key:∃ sA v25 c25,Ys 1 (.own id 0 (n+1) 1 none lo) (some (ZI ((i+1)))) none none=some v25/\Wd 1 s v25=some c25/\VX 8 1 s (.own id 0 i 1 none lo) c25.1 c25.2=some (.own id 0 n 1 none lo,sA)/\sA.next=s.next/\(∀ j,j≠id->sA.get j=s.get j)/\∃ z,sA.get id=some (.row ((L.eraseIdx i).map (AV.int .i64)++z::rest)):=by
  have hrow:(L.map (AV.int .i64)++rest).length=n+1+rest.length:=by rw[QJ,hcl]
  by_cases hin:i=n
  ·subst hin
   refine⟨s,.lst 0 [] false,(0,[]),?_,rfl,rfl,rfl,fun _ _=>rfl,?_⟩
   ·have hb1:Nat.ble (i+1+1) (i+1)=false:=by
     cases hx:Nat.ble (i+1+1) (i+1) with
     | false=>rfl
     | true=>have:=Qk hx;omega
    have hb2:Nat.beq (i+1) 0=false:=rfl
    simp only[Ys,bnd_i,JC,Ql,Qg,TF,Q9,X5,QD,Qo (Qw (i+1)),hiOk,QU,Qy,Qi,bndA,hb1,hb2,Bool.or_false,Qq]
   ·obtain⟨L',x,rfl⟩:∃ L' x,L=L'++[x]:=⟨L.dropLast,L.getLast (by intro h;simp[h] at hn),(List.dropLast_concat_getLast _).symm⟩
    have hL':L'.length=i:=by simp at hn;exact hn
    refine⟨.int .i64 x,?_⟩
    rw[hg]
    subst hL'
    simp[List.eraseIdx_append_of_length_le]
  ·have hlt:i < n:=by omega
   refine⟨s.put id (.row (setCells (L.map (AV.int .i64)++rest) i (((L.map (AV.int .i64)++rest).drop (i+1)).take (n - i)))),.own id (i+1) (n - i) 1 none (lo - (i+1)),(n - i,((L.map (AV.int .i64)++rest).drop (i+1)).take (n - i)),?_,?_,?_,rfl,fun j hj=>by rw[St.get_put,Qe hj],?_⟩
   ·have hb2:Nat.beq (i+1) 0=false:=rfl
    have:Ys 1 (.own id 0 (n+1) 1 none lo) (some (ZI ((i+1)))) none none=some (.own id (0+(i+1)*1) (n+1 - (i+1)) 1 none (lo - (i+1))):=by
     simp only[Ys,bnd_i,JC,Ql,Qg,TF,Q9,X5,QD,Qo (show i+1<=n+1 by omega),hiOk,Qo (Qw (n+1)),QU,Qy,Qi,bndA,Qo (show i+1+1<=n+1 by omega),XS]
    rw[this,Q7,XP,show n+1 - (i+1)=n - i by omega]
   ·simp only[Wd,hg,QD,XP,Qo (show i+1+(n - i)<=(L.map (AV.int .i64)++rest).length by omega),Qy,Qi]
   ·have hall:(((L.map (AV.int .i64)++rest).drop (i+1)).take (n - i)).all AV.one=true:=by
     rw[List.drop_append_of_le_length (by omega),XG (by rw[List.length_drop,hcl];omega),QB]
     intro x hx
     obtain⟨y,_,rfl⟩:=Q6.1 (List.mem_of_mem_drop (XE hx))
     rfl
    have hb3:Nat.beq (n - i) 0=false:=by
     cases hx:n - i with
     | zero=>omega
     | succ q=>rfl
    have hin2:i+(n - i)=n:=by omega
    unfold VX
    simp only[hb3,Qq,hg,QD,hin2,Q7,XP,Qo (show n*8<=140737488355328 by omega),Qo (show n<=140737488355328 by omega),Qo (show i<=(L.map (AV.int .i64)++rest).length by omega),hall,Qy,Qi,KY,Qo (show n<=lo by omega),Qo (show n<=(L.map (AV.int .i64)++rest).length by omega)]
   ·obtain⟨L',x,rfl⟩:∃ L' x,L=L'++[x]:=⟨L.dropLast,L.getLast (by intro h;simp[h] at hn),(List.dropLast_concat_getLast _).symm⟩
    have hL':L'.length=n:=by simp at hn;exact hn
    refine⟨.int .i64 x,?_⟩
    rw[St.get_put,Qm rfl]
    congr 2
    unfold setCells
    have e1:((L'++[x]).map (AV.int .i64)++rest).take i=(L'.map (AV.int .i64)).take i:=by
     rw[QQ,Xb,XG (by simp;omega)]
    have e2:(((L'++[x]).map (AV.int .i64)++rest).drop (i+1)).take (n - i)=(L'.map (AV.int .i64)).drop (i+1)++[AV.int .i64 x]:=by
     rw[QQ,Xb,List.drop_append_of_le_length (by simp;omega),List.take_append,Xx (by simp;omega)]
     congr 1
     rw[show n - i - ((L'.map (AV.int .i64)).drop (i+1)).length=1 by simp;omega]
     rfl
    rw[e1,e2]
    have e3:((L'++[x]).map (AV.int .i64)++rest).drop (i+((L'.map (AV.int .i64)).drop (i+1)++[AV.int .i64 x]).length)=AV.int .i64 x::rest:=by
     have:i+((L'.map (AV.int .i64)).drop (i+1)++[AV.int .i64 x]).length=(L'.map (AV.int .i64)).length:=by simp;omega
     rw[this,QQ,Xb,List.drop_left];rfl
    rw[e3,List.eraseIdx_append_of_lt_length (by omega),QQ,List.eraseIdx_eq_take_drop_succ,QQ,List.map_take,List.map_drop]
    simp
 obtain⟨sA,v25,c25,k1,k2,k3,k4,k5,z,k6⟩:=key
 have clr:clearA 1 [Z0] sA (.own id n 1 1 none (lo - n))=some (sA.put id (.row (setCells ((L.eraseIdx i).map (AV.int .i64)++z::rest) n [Z0]))):=by
  have hz:Yl [ZI 0] 1=[Z0]:=rfl
  simp only[clearA,k6,QD,hz,QC,X2,Q7,XP,Qo (show n+1<=((L.eraseIdx i).map (AV.int .i64)++z::rest).length by simp[hel];omega),Qy,Qi,QN,QW,AV.one]
 have hfin:LfS (sA.put id (.row (setCells ((L.eraseIdx i).map (AV.int .i64)++z::rest) n [Z0]))) (.own id 0 n 1 none lo) id (L.eraseIdx i):=by
  refine .inr ⟨Z0::rest,lo,by rw[hel,hn];rfl,by omega,?_⟩
  rw[St.get_put,Qm rfl]
  congr 2
  have hl2:((L.eraseIdx i).map (AV.int .i64)).length=n:=by rw[Qu,hel];omega
  unfold setCells
  rw[List.take_left' hl2,<-hl2,ZZ]
  simp
 rw[hn]
 obtain⟨fA4,hA4⟩:∃ fA,fA=Vo 0 [.own id 0 (n+1) 1 none lo,ZI i,ZI ((i+1))] Fr.nil:=⟨_,rfl⟩
 have gA4_0:=gAt hA4 0
 have gA4_1:=gAt hA4 1
 have gA4_2:=gAt hA4 2
 have dA4:fA4.ds=[]:=by rw[hA4];rfl
 obtain⟨J5,H5⟩:∃ fr',ar m Y wg74_0 fA4 s=.ok fr' s:=⟨_,by simp only[amE,rQ,rA,wg74_0]<;>rfl⟩
 have V5_0:=ag H5 gA4_0
 have V5_1:=ag H5 gA4_1
 have V5_2:=ag H5 gA4_2
 have W5:=ad H5 dA4
 obtain⟨J6,H6⟩:∃ fr',ar m Y wg74_1 J5 s=.ok fr' s:=⟨_,by simp only[amE,rQ,rA,V5_0,V5_1,V5_2,wg74_1,l1,s1,Kx,Qc,Qb]<;>rfl⟩
 have V6_1:=ag H6 V5_1
 have V6_2:=ag H6 V5_2
 have W6:=ad H6 W5
 obtain⟨J7,H7,O7_16⟩:∃ fr',ar m Y wg74_2 J6 s=.ok fr' s/\fr'.get 16=some (.bool false):=⟨_,by simp only[amE,rQ,rA,V6_1,V6_2,wg74_2,eql]<;>rfl,gh⟩
 have V7_0:=ag H7 (ag H6 V5_0)
 obtain⟨J8,H8,O8_7⟩:∃ fr',ar m Y wg74_4 J7 s=.ok fr' s/\fr'.get 7=some (ZI ((n+1))):=⟨_,by simp only[amE,rQ,rA,V7_0,wg74_4,l1]<;>rfl,gh⟩
 have V8_0:=ag H8 V7_0
 have V8_1:=ag H8 (ag H7 V6_1)
 have V8_2:=ag H8 (ag H7 V6_2)
 have W8:=ad H8 (ad H7 W6)
 obtain⟨J9,H9,K9,O9_0⟩:∃ fr',VK ((gT m).cg Y) wg74_5 [] J8 s=.ok fr' sA/\Kp [1,2,16,7] J8 fr'/\fr'.get 0=some (.own id 0 n 1 none lo):=⟨_,Wj rfl (by simp only[amE,rQ,rA,V8_0,V8_1,V8_2,wg74_5,s2,k1,k2,k3,tagN,Option.map_none,Kx,Qc,Qb]<;>rfl),Kp.refl.s.s.s.s.s.s.s.s,gh⟩
 have V9_7:=K9.g 7 O8_7
 have W9:=K9.1.trans W8
 obtain⟨J10,H10⟩:∃ fr',ar m Y wg74_6 J9 sA=.ok fr' (sA.put id (.row (setCells ((L.eraseIdx i).map (AV.int .i64)++z::rest) n [Z0]))):=⟨_,by simp only[amE,rQ,rA,V9_7,O9_0,wg74_6,l1,s4,clr,Option.map_none,OpR.of2,nd_clr,Kx,Qc,Qb]<;>rfl⟩
 have V10_0:=ag H10 O9_0
 obtain⟨J11,H11,O11_6⟩:∃ fr',ar m Y wg74_7 J10 (sA.put id (.row (setCells ((L.eraseIdx i).map (AV.int .i64)++z::rest) n [Z0])))=.ok fr' (sA.put id (.row (setCells ((L.eraseIdx i).map (AV.int .i64)++z::rest) n [Z0])))/\fr'.get 6=some (.own id 0 n 1 none lo):=⟨_,by simp only[amE,rQ,rA,V10_0,wg74_7]<;>rfl,gh⟩
 have W11:=ad H11 (ad H10 W9)
 refine⟨_,_,Ve (mf:=wf74) (fr:=J11) t74 rfl (.inl ?q11) W11 (by simp only[wf74,amE,O11_6]),hfin,k4,fun j hj=>by rw[St.get_put,Qe hj];exact k5 j hj⟩
 case q11=>
  rw[<-hA4]
  simp only[amE,rQ,rA,wf74,b00,b11,b22,b33,H5,H6,H7,H8,H9,H10,H11,O7_16]
end
noncomputable section
open Nat renaming reduceEqDiff -> rQ, reduceAdd -> rA
theorem iaN{T k i:Nat}(h:i < k)(c:Option Nat)(lo:Nat):VC 1 (.own T 0 k 1 c lo) (ZI i)=some (.ptr T i):=by
 show (bif (i+1).ble k&&(1:Nat).beq 1 then some (AV.ptr T (0+i*1)) else none)=_
 rw[Qo (by omega)];simp
theorem lookQ(PL:List Pr){s:St}{A:Nat}(h:s.get A=some (.fmap (esP PL))){x:Pr}{q:Int}(hx:PL.find? (fun x=>x.e.prop==q)=some x):JP false .nilptr false s (.map A) (.int .i64 q)=some (.ptr x.id 0):=by
 unfold JP
 simp only[h]
 unfold esP
 rw[Sh (fun x:Pr=>x.e.prop) (fun x=>AV.ptr x.id 0),hx];rfl
theorem Sk{PL:List Pr}(hn:(PL.map fun x=>x.e.prop).Nodup){x:Pr}(hx:x∈PL):PL.find? (fun y=>y.e.prop==x.e.prop)=some x:=by
 induction PL with
 | nil=>simp at hx
 | cons z l ih=>
  rw[Q4,Zz] at hn
  rcases Qx.1 hx with h | h
  ·rw[List.find?_cons,h];simp
  ·have hne:(z.e.prop==x.e.prop)=false:=by
    have:z.e.prop≠x.e.prop:=fun he=>hn.1 (Q6.2 ⟨x,h,he.symm⟩)
    simpa using this
   rw[List.find?_cons,hne];exact ih hn.2 h
theorem min_if(a b:Int):(if b < a then b else a)=min a b:=by
 by_cases h:b < a
 ·rw[Qm h];omega
 ·rw[Qe h];omega
def rdyN(th tt:Nat->Nat)(l:List Int):Bool:=l.zipIdx.all fun z=>!decide ((th z.2:Int) < min z.1 (tt z.2))
def wg72_0:List Vc:=[ZM 5 (ZB false)]
def wg72_1:List Vc:=[ZL 8 1,ZV 9 0,ZO 10 (.lookup false .nilptr false (.t 8) (.t 9)),ZO 11 (.nilchk (.t 10)),ZA 12 9 11,ZL 13 12,ZN 14 13,ZM 15 (ZC 0)]
def wg72_2:List Vc:=[ZO 16 (.bin false .lss (.t 15) (.t 14))]
def wg72_3:List Vc:=[ZV 17 15,ZP 18 1 13 15,ZL 19 18,ZV 6 17,ZV 7 19]
def wg72_4:List (Vc × Nat):=[(ZL 20 2,0),(ZV 21 6,0),(ZP 22 1 20 21,3),(ZL 23 22,7),(ZV 24 7,0),(ZL 25 3,0),(ZV 26 6,0),(ZP 27 1 25 26,96),(ZL 28 27,224),(ZO 29 (.min (.t 24) [(.t 28)]),496),(ZO 30 (.bin false .lss (.t 23) (.t 29)),1023)]
def wg72_5:List Vc:=[ZM 5 (ZB false)]
def wg72_6:List Vc:=[ZO 31 (.bin false .add (.t 15) (ZC 1)),ZV 15 31]
def wg72_7:List Vc:=[ZM 5 (ZB true)]
def Kk:Vn:=(ZQ wg72_2 (.seq (.cond (.t 16) .skip (.exit 0)) (.seq (.block 1 (ZQ wg72_3 (.seq (.draw wg72_4 []) (.cond (.t 30) (ZR wg72_5) .skip)))) (.region wg72_6))))
def wf72:Vm:=⟨32,(ZQ wg72_0 (.seq (ZQ wg72_1 (.block 0 (.loop Kk))) (ZR wg72_7))),[.t 5]⟩
theorem t72:tbl 72=some wf72:=by kernel_rfl
theorem ready72_run{s:St}{A lim hi:Nat}{d:List Sp}{PL:List Pr}(hP:PrSt A lim hi d s PL){x6 x8 x9 Th Tt k:Nat}{th tt:Nat->Nat}(h6:s.get x6=some (.row [.map A]))(h8:s.get x8=some (.row [.own Th 0 k 1 (some k) 0]))(h9:s.get x9=some (.row [.own Tt 0 k 1 (some k) 0]))
  (hTh:s.get Th=some (.row (Vw k th))) (hTt:s.get Tt=some (.row (Vw k tt))) {x:Pr} (hx:x∈PL) (hok:x.e.ok) (hlen:x.e.seen.length=k) (m:Nat) (Y:Vi) (hm:k < m):
  R (m+1) Y 72 [.int .i64 x.e.prop,.ptr x6 0,.ptr x8 0,.ptr x9 0] s=.ret (.bool (rdyN th tt x.e.seen)) s:=by
 obtain⟨xa,xb,xc,xd,xf,xg,xu,xv⟩:=hP.one x hx
 have hn:(PL.map fun x=>x.e.prop).Nodup:=by rw[hP.prs];exact Wu _
 have lk:=lookQ PL hP.all (Sk hn hx)
 have l6:Vf false 1 s (.ptr x6 0)=some (.map A):=Vk h6 rfl
 have l8:Vf false 1 s (.ptr x8 0)=some (.own Th 0 k 1 (some k) 0):=Vk h8 rfl
 have l9:Vf false 1 s (.ptr x9 0)=some (.own Tt 0 k 1 (some k) 0):=Vk h9 rfl
 have l99:Vf false 1 s (.ptr x.id 9)=some x.e.ssl:=by
  obtain⟨a,b',c',hda,_⟩:=x.e.d.cells_abc
  refine Vk xc ?_
  unfold Pr.row YX;rw[hda];rfl
 obtain⟨o1,o2,o3,o4,o5,o6⟩:=hok
 have hS:=JA x.e.snl x.e.sex x.e.seen o5 o6 (fun _=>False) s
 have hl:(bif VD 0 x.e.ssl then Wm s x.e.ssl else none)=some (ZI x.e.seen.length):=SlI.len hS s
 unfold rdyN
 generalize hpr:(fun z:Int × Nat=>!decide ((th z.2:Int) < min z.1 (tt z.2)))=pr
 have hL:∀(fr:Fr),fr.ds=[]->fr.get 2=some (.ptr x8 0)->fr.get 3=some (.ptr x9 0)->fr.get 13=some x.e.ssl->fr.get 14=some (ZI x.e.seen.length)->fr.get 15=some Z0->∃ FR,FR.ds=[] ∧
   ((Vx (ac m Y Kk none) m fr s=.exit 0 FR s/\x.e.seen.zipIdx.all pr=true)\/(Vx (ac m Y Kk none) m fr s=.ret FR s/\FR.get 5=some (.bool false)/\x.e.seen.zipIdx.all pr=false)):=by
  intro fr d0 g2 g3 g13 g14 g15
  refine Ws (B:=ac m Y Kk none) (N:=x.e.seen.length) (Inv:=fun j fr st1=>fr.ds=[]/\fr.get 2=some (.ptr x8 0)/\fr.get 3=some (.ptr x9 0)/\fr.get 13=some x.e.ssl/\fr.get 14=some (ZI x.e.seen.length)/\fr.get 15=some (ZI j)/\st1=s/\(x.e.seen.zipIdx.take j).all pr=true)
   (Out:=fun r=>∃ FR,FR.ds=[]/\((r=.exit 0 FR s/\x.e.seen.zipIdx.all pr=true)\/(r=.ret FR s/\FR.get 5=some (.bool false)/\x.e.seen.zipIdx.all pr=false))) ?_ x.e.seen.length 0 fr s m (by omega) (by omega) ⟨d0,g2,g3,g13,g14,g15,rfl,rfl⟩
  intro j fr st1 hj ⟨d0,g2,g3,g13,g14,g15,e1,hall⟩
  subst e1
  have hlt:=Wt j x.e.seen.length
  by_cases hjN:j < x.e.seen.length
  ·have hx1:x.e.seen[j]?=some x.e.seen[j]:=Qn hjN
   generalize x.e.seen[j]=n at hx1
   have hz:x.e.seen.zipIdx[j]?=some (n,j):=by rw[List.getElem?_zipIdx,hx1];simp
   obtain⟨pe,ie,lde⟩:=SlI.at hS hx1
   have ie:VC 1 x.e.ssl (ZI j)=some pe:=ie
   have lde:=lde st1 (Vs.refl _ _)
   have i8:=iaN (T:=Th) (k:=k) (i:=j) (by omega) (some k) 0
   have i9:=iaN (T:=Tt) (k:=k) (i:=j) (by omega) (some k) 0
   have lt8:Vf false 1 st1 (.ptr Th j)=some (ZI ((th j))):=Vk hTh (Jv (by omega))
   have lt9:Vf false 1 st1 (.ptr Tt j)=some (ZI ((tt j))):=Vk hTt (Jv (by omega))
   have mn:foldA minA (.int .i64 n) [ZI ((tt j))]=some (.int .i64 (min n (tt j))):=by
    show some (AV.int .i64 (if (.ofNat (tt j)) < n then .ofNat (tt j) else n))=_
    rw[min_if];rfl
   have ls:=lssI (.ofNat (th j)) (min n (tt j))
   have had:=WC (i:=j) (by omega)
   have hat:=YR pr x.e.seen.zipIdx j (n,j) hz
   rw[hall,Q3] at hat
   have hpj:pr (n,j)=!decide (Int.ofNat (th j) < min n (tt j)):=by rw[<-hpr];rfl
   rw[hpj] at hat
   rw[Qs hjN] at hlt
   generalize decide (Int.ofNat (th j) < min n (tt j))=B at *
   obtain⟨J1,H1,O1_16⟩:∃ fr',ar m Y wg72_2 fr st1=.ok fr' st1/\fr'.get 16=some (.bool true):=⟨_,by simp only[amE,rQ,rA,g14,g15,wg72_2,hlt]<;>rfl,gh⟩
   have V1_13:=ag H1 g13
   have V1_15:=ag H1 g15
   obtain⟨J2,H2,O2_6,O2_7⟩:∃ fr',ar m Y wg72_3 J1 st1=.ok fr' st1/\fr'.get 6=some (ZI j)/\fr'.get 7=some (.int .i64 n):=⟨_,by simp only[amE,rQ,rA,V1_13,V1_15,wg72_3,ie,lde]<;>rfl,gn gh,gh⟩
   have V2_2:=ag H2 (ag H1 g2)
   have V2_3:=ag H2 (ag H1 g3)
   have W2:=ad H2 (ad H1 d0)
   obtain⟨J3,H3,K3,O3_30⟩:∃ fr',VK ((gT m).cg Y) wg72_4 [] J2 st1=.ok fr' st1/\Kp [2,3,13,14,15,16,6,7] J2 fr'/\fr'.get 30=some (.bool B):=⟨_,Wj rfl (by simp only[amE,rQ,rA,V2_2,V2_3,O2_6,O2_7,wg72_4,l8,l9,i8,i9,lt8,lt9,mn,ls,Q4,QZ,nd_min]<;>rfl),Kp.refl.s.s.s.s.s.s.s.s.s.s.s,gh⟩
   have V3_2:=K3.g 2 V2_2
   have V3_3:=K3.g 3 V2_3
   have V3_13:=K3.g 13 (ag H2 V1_13)
   have V3_14:=K3.g 14 (ag H2 (ag H1 g14))
   have V3_15:=K3.g 15 (ag H2 V1_15)
   have W3:=K3.1.trans W2
   cases B with
   | true=>
    obtain⟨J4,H4,O4_5⟩:∃ fr',ar m Y wg72_5 J3 st1=.ok fr' st1/\fr'.get 5=some (.bool false):=⟨_,by simp only[amE,rQ,rA,wg72_5]<;>rfl,gh⟩
    have hI4:ac m Y Kk none fr st1=.ret J4 st1:=by
     simp only[amE,rQ,rA,Kk,b00,b11,b22,b33,H1,H2,H3,H4,O1_16,O3_30]
    rw[hI4]
    exact⟨_,(ad H4 W3),.inr ⟨rfl,O4_5,WV (k:=j+1) (by rw[hat];rfl)⟩⟩
   | false=>
    obtain⟨J5,H5,O5_15⟩:∃ fr',ar m Y wg72_6 J3 st1=.ok fr' st1/\fr'.get 15=some (ZI ((j+1))):=⟨_,by simp only[amE,rQ,rA,V3_15,wg72_6,had]<;>rfl,gh⟩
    have V5_2:=ag H5 V3_2
    have V5_14:=ag H5 V3_14
    have W5:=ad H5 W3
    have hI5:ac m Y Kk none fr st1=.norm J5 st1:=by
     simp only[amE,rQ,rA,Kk,b00,b11,b22,b33,H1,H2,H3,H5,O1_16,O3_30]
    rw[hI5]
    exact⟨hjN,W5,V5_2,(ag H5 V3_3),(ag H5 V3_13),V5_14,O5_15,rfl,by rw[hat];rfl⟩
  ·rw[Qp hjN] at hlt
   have hjl:j=x.e.seen.length:=by omega
   rw[Xx (by rw[List.length_zipIdx];omega)] at hall
   obtain⟨J6,H6,O6_16⟩:∃ fr',ar m Y wg72_2 fr st1=.ok fr' st1/\fr'.get 16=some (.bool false):=⟨_,by simp only[amE,rQ,rA,g14,g15,wg72_2,hlt]<;>rfl,gh⟩
   have W6:=ad H6 d0
   have hI6:ac m Y Kk none fr st1=.exit 0 J6 st1:=by
    simp only[amE,rQ,rA,Kk,b00,b11,b22,b33,H6,O6_16]
   rw[hI6]
   exact⟨_,W6,.inl ⟨rfl,hall⟩⟩
 obtain⟨fA7,hA7⟩:∃ fA,fA=Vo 0 [.int .i64 x.e.prop,.ptr x6 0,.ptr x8 0,.ptr x9 0] Fr.nil:=⟨_,rfl⟩
 have gA7_0:=gAt hA7 0
 have gA7_1:=gAt hA7 1
 have gA7_2:=gAt hA7 2
 have gA7_3:=gAt hA7 3
 have dA7:fA7.ds=[]:=by rw[hA7];rfl
 obtain⟨J8,H8⟩:∃ fr',ar m Y wg72_0 fA7 s=.ok fr' s:=⟨_,by simp only[amE,rQ,rA,wg72_0]<;>rfl⟩
 have V8_0:=ag H8 gA7_0
 have V8_1:=ag H8 gA7_1
 have V8_2:=ag H8 gA7_2
 have W8:=ad H8 dA7
 obtain⟨J9,H9,O9_13,O9_14,O9_15⟩:∃ fr',ar m Y wg72_1 J8 s=.ok fr' s/\fr'.get 13=some (x.e.ssl)/\fr'.get 14=some (ZI x.e.seen.length)/\fr'.get 15=some Z0:=⟨_,by simp only[amE,rQ,rA,V8_0,V8_1,wg72_1,l6,lk,Yq,faP,l99,hl,JL]<;>rfl,gn (gn gh),gn gh,gh⟩
 have W9:=ad H9 W8
 obtain⟨FR,dF,hL⟩:=hL J9 W9 (ag H9 V8_2) (ag H9 (ag H8 gA7_3)) O9_13 O9_14 O9_15
 rcases hL with⟨hL,he⟩|⟨hL,F5,he⟩
 ·rw[he]
  obtain⟨J11,H11,O11_5⟩:∃ fr',ar m Y wg72_7 FR s=.ok fr' s/\fr'.get 5=some (.bool true):=⟨_,by simp only[amE,rQ,rA,wg72_7]<;>rfl,gh⟩
  have W11:=ad H11 dF
  refine Ve (mf:=wf72) (fr:=J11) t72 rfl (.inl ?q11) W11 (by simp only[wf72,amE,O11_5])
  case q11=>
   rw[<-hA7]
   simp only[amE,rQ,rA,wf72,b00,b11,b22,b33,H8,H9,hL,H11]
 ·rw[he]
  refine Ve (mf:=wf72) (fr:=FR) t72 rfl (.inl ?q12) dF (by simp only[wf72,amE,F5])
  case q12=>
   rw[<-hA7]
   simp only[amE,rQ,rA,wf72,b00,b11,b22,b33,H8,H9,hL]
theorem seenE_find{d:List Sp}{q:Int}{p i:Nat}{e:En}(h:d.find? (fun z=>z.2.2.prop==q)=some (p,i,e)):seenE (ens d) q=e.seen:=by
 have:(ens d).find? (fun e=>e.prop==q)=some e:=by
  unfold ens
  rw[List.find?_map]
  have h2:((fun e:En=>e.prop==q) ∘ fun z:Sp=>z.2.2)=fun z=>z.2.2.prop==q:=rfl
  rw[h2,h];rfl
 unfold seenE;rw[this]
theorem firstReady_run{s:St}{A lim hi:Nat}{d:List Sp}{PL:List Pr}(hP:PrSt A lim hi d s PL){x6 x8 x9 Th Tt k:Nat}{out:List Int}(h6:s.get x6=some (.row [.map A]))(h8:s.get x8=some (.row [.own Th 0 k 1 (some k) 0]))(h9:s.get x9=some (.row [.own Tt 0 k 1 (some k) 0]))
  (hTh:s.get Th=some (.row (Vw k fun i=>Wa (ens d) out i))) (hTt:s.get Tt=some (.row (Vw k fun i=>VF (ens d) i))) (hok:∀ x∈PL,x.e.ok/\x.e.seen.length=k) {lv:AV} {lid:Nat} {L:List Int} (hL:LfS s lv lid L) (hLP:∀ q∈L,∃ x∈PL,x.e.prop=q) (hb:L.length<=4000) (m:Nat) (Y:Vi) (hm:k+5000 < m):
  R (m+2) Y 73 [lv,.func (.func 72) [] [.ptr x6 0,.ptr x8 0,.ptr x9 0]] s=.ret (.int .i64 (match L.findIdx? (Jp (ens d) out) with
   | none=>.negSucc 0
   | some i=>.ofNat i)) s:=by
 have hrd:∀ x∈PL,rdyN (fun i=>Wa (ens d) out i) (fun i=>VF (ens d) i) x.e.seen=Jp (ens d) out x.e.prop:=fun x hx=>by
  unfold Jp
  rw[seenE_find (hP.one x hx).1];rfl
 obtain⟨r,s',hr,hc⟩:=idx73_run (q:=72) (n:=m+1) (Y:=Y) (caps:=[.ptr x6 0,.ptr x8 0,.ptr x9 0]) (hL.sl (by omega)) (Inv:=fun j s'=>s'=s/\(L.take j).all (fun q=>!Jp (ens d) out q)=true) (Fin:=fun j s'=>s'=s/\(L.take j).all (fun q=>!Jp (ens d) out q)=true/\∃ q,L[j]?=some q/\Jp (ens d) out q=true)
  (fun j s' h=>by rw[h.1];exact Vs.refl _ _) (fun j q s' hq ⟨h1,h2⟩=>by
   subst h1
   obtain⟨x,hx,hxq⟩:=hLP q (Qr hq)
   obtain⟨hx1,hx2⟩:=hok x hx
   refine⟨Jp (ens d) out q,s',?_,fun h=>⟨rfl,h2,q,hq,h⟩,fun h=>⟨rfl,?_⟩⟩
   ·rw[<-hxq,<-hrd x hx]
    exact ready72_run hP h6 h8 h9 hTh hTt hx hx1 hx2 m Y (by omega)
   ·rw[YR _ _ _ _ hq,h2,h];rfl) s ⟨rfl,rfl⟩ (by omega)
 rw[hr]
 rcases hc with⟨rfl,h1,h2⟩|⟨j,rfl,hj,h1,h2,q,h3,h4⟩
 ·subst h1
  rw[QH] at h2
  have:L.findIdx? (Jp (ens d) out)=none:=List.findIdx?_eq_none_iff.2 fun q hq=>by
   have:=QB.1 h2 q hq
   simpa using this
  rw[this]
 ·subst h1
  have:L.findIdx? (Jp (ens d) out)=some j:=by
   refine XQ.2 ⟨hj,?_,fun i hi=>?_⟩
   ·have:=Qn hj
    rw[h3] at this;injection this with this;rw[<-this];exact h4
   ·have hm:L[i]∈L.take j:=by
     rw[List.mem_take_iff_getElem]
     exact⟨i,by omega,rfl⟩
    have:=QB.1 h2 _ hm
    simpa using this
  rw[this]
def wg119_0:List Vc:=[ZM 4 (ZC 0)]
def wg119_1:List Vc:=[ZV 6 0,ZN 7 6,ZM 8 (ZC 0)]
def wg119_2:List Vc:=[ZO 9 (.bin false .lss (.t 8) (.t 7))]
def wg119_3:List Vc:=[ZV 10 8,ZV 5 10]
def wg119_4:List Vc:=[ZV 11 1,ZV 12 0,ZV 13 5,ZP 14 1 12 13,ZL 15 14,ZO 16 (.bin false .eql (.t 11) (.t 15))]
def wg119_5:List Vc:=[ZV 17 5,ZV 4 17]
def wg119_6:List Vc:=[ZO 18 (.bin false .add (.t 8) (ZC 1)),ZV 8 18]
def wg119_7:List Vc:=[ZM 4 (.c (.int .i64 (.negSucc 0)))]
def Jw:Vn:=(ZQ wg119_2 (.seq (.cond (.t 9) .skip (.exit 0)) (.seq (.block 1 (ZQ wg119_3 (ZQ wg119_4 (.cond (.t 16) (ZR wg119_5) .skip)))) (.region wg119_6))))
def wf119:Vm:=⟨19,(ZQ wg119_0 (.seq (ZQ wg119_1 (.block 0 (.loop Jw))) (ZR wg119_7))),[.t 4]⟩
theorem t119:tbl 119=some wf119:=by kernel_rfl
theorem index119_run{F:Nat->Prop}{st:St}{sl:AV}{xs:List Int}(hx:SlI F st sl xs)(q:Int)(m:Nat)(Y:Vi)(hn:xs.length < m):∃ r,R (m+1) Y 119 [sl,.int .i64 q] st=.ret (.int .i64 r) st/\decide (r>=0)=xs.contains q:=by
 have n1:=SlI.len hx st
 have hB:=SlI.bound hx
 have hL:∀(fr:Fr),fr.ds=[]->fr.get 0=some sl->fr.get 1=some (.int .i64 q)->fr.get 7=some (ZI xs.length)->fr.get 8=some Z0->∃ FR,FR.ds=[] ∧
   ((Vx (ac m Y Jw none) m fr st=.exit 0 FR st/\xs.contains q=false)\/(∃ j:Nat,Vx (ac m Y Jw none) m fr st=.ret FR st/\FR.get 4=some (ZI j)/\xs.contains q=true)):=by
  intro fr d0 g0 g1 g7 g8
  refine Ws (B:=ac m Y Jw none) (N:=xs.length) (Inv:=fun j fr st1=>fr.ds=[]/\fr.get 0=some sl/\fr.get 1=some (.int .i64 q)/\fr.get 7=some (ZI xs.length)/\fr.get 8=some (ZI j)/\st1=st/\(xs.take j).all (fun x=>!(q==x))=true)
   (Out:=fun r=>∃ FR,FR.ds=[]/\((r=.exit 0 FR st/\xs.contains q=false)\/(∃ j:Nat,r=.ret FR st/\FR.get 4=some (ZI j)/\xs.contains q=true))) ?_ xs.length 0 fr st m (by omega) (by omega) ⟨d0,g0,g1,g7,g8,rfl,rfl⟩
  intro j fr st1 hj ⟨d0,g0,g1,g7,g8,e1,hall⟩
  subst e1
  have hlt:=Wt j xs.length
  by_cases hjN:j < xs.length
  ·have hx1:xs[j]?=some xs[j]:=Qn hjN
   generalize xs[j]=x at hx1
   obtain⟨pe,ie,lde⟩:=SlI.at hx hx1
   have ie:VC 1 sl (ZI j)=some pe:=ie
   have lde:=lde st1 (Vs.refl _ _)
   have eq:=eqlI q x
   have had:=WC (i:=j) (by omega)
   have hat:=YR (fun x=>!(q==x)) xs j x hx1
   rw[hall,Q3] at hat
   rw[Qs hjN] at hlt
   have hyes:(q==x)=true->xs.contains q=true:=fun h=>by
    have:q=x:=by simpa using h
    subst this
    simpa using Qr hx1
   generalize (q==x)=B at *
   obtain⟨J13,H13,O13_9⟩:∃ fr',ar m Y wg119_2 fr st1=.ok fr' st1/\fr'.get 9=some (.bool true):=⟨_,by simp only[amE,rQ,rA,g7,g8,wg119_2,hlt]<;>rfl,gh⟩
   have V13_8:=ag H13 g8
   obtain⟨J14,H14,O14_5⟩:∃ fr',ar m Y wg119_3 J13 st1=.ok fr' st1/\fr'.get 5=some (ZI j):=⟨_,by simp only[amE,rQ,rA,V13_8,wg119_3]<;>rfl,gh⟩
   have V14_0:=ag H14 (ag H13 g0)
   have V14_1:=ag H14 (ag H13 g1)
   obtain⟨J15,H15,O15_16⟩:∃ fr',ar m Y wg119_4 J14 st1=.ok fr' st1/\fr'.get 16=some (.bool B):=⟨_,by simp only[amE,rQ,rA,V14_0,V14_1,O14_5,wg119_4,ie,lde,eq]<;>rfl,gh⟩
   have V15_8:=ag H15 (ag H14 V13_8)
   have V15_5:=ag H15 O14_5
   have W15:=ad H15 (ad H14 (ad H13 d0))
   cases B with
   | true=>
    obtain⟨J16,H16,O16_4⟩:∃ fr',ar m Y wg119_5 J15 st1=.ok fr' st1/\fr'.get 4=some (ZI j):=⟨_,by simp only[amE,rQ,rA,V15_5,wg119_5]<;>rfl,gh⟩
    have hI16:ac m Y Jw none fr st1=.ret J16 st1:=by
     simp only[amE,rQ,rA,Jw,b00,b11,b22,b33,H13,H14,H15,H16,O13_9,O15_16]
    rw[hI16]
    exact⟨_,(ad H16 W15),.inr ⟨j,rfl,O16_4,hyes rfl⟩⟩
   | false=>
    obtain⟨J17,H17,O17_8⟩:∃ fr',ar m Y wg119_6 J15 st1=.ok fr' st1/\fr'.get 8=some (ZI ((j+1))):=⟨_,by simp only[amE,rQ,rA,V15_8,wg119_6,had]<;>rfl,gh⟩
    have hI17:ac m Y Jw none fr st1=.norm J17 st1:=by
     simp only[amE,rQ,rA,Jw,b00,b11,b22,b33,H13,H14,H15,H17,O13_9,O15_16]
    rw[hI17]
    exact⟨hjN,(ad H17 W15),(ag H17 (ag H15 V14_0)),(ag H17 (ag H15 V14_1)),(ag H17 (ag H15 (ag H14 (ag H13 g7)))),O17_8,rfl,by rw[hat];rfl⟩
  ·rw[Qp hjN] at hlt
   have hjl:j=xs.length:=by omega
   rw[hjl,QH] at hall
   have hno:xs.contains q=false:=by
    rw[Bool.eq_false_iff]
    intro h
    have hm:q∈xs:=by simpa using h
    have:=QB.1 hall q hm
    simp at this
   obtain⟨J18,H18,O18_9⟩:∃ fr',ar m Y wg119_2 fr st1=.ok fr' st1/\fr'.get 9=some (.bool false):=⟨_,by simp only[amE,rQ,rA,g7,g8,wg119_2,hlt]<;>rfl,gh⟩
   have hI18:ac m Y Jw none fr st1=.exit 0 J18 st1:=by
    simp only[amE,rQ,rA,Jw,b00,b11,b22,b33,H18,O18_9]
   rw[hI18]
   exact⟨_,(ad H18 d0),.inl ⟨rfl,hno⟩⟩
 obtain⟨fA19,hA19⟩:∃ fA,fA=Vo 0 [sl,.int .i64 q] Fr.nil:=⟨_,rfl⟩
 have gA19_0:=gAt hA19 0
 have gA19_1:=gAt hA19 1
 have dA19:fA19.ds=[]:=by rw[hA19];rfl
 obtain⟨J20,H20⟩:∃ fr',ar m Y wg119_0 fA19 st=.ok fr' st:=⟨_,by simp only[amE,rQ,rA,wg119_0]<;>rfl⟩
 have V20_0:=ag H20 gA19_0
 obtain⟨J21,H21,O21_7,O21_8⟩:∃ fr',ar m Y wg119_1 J20 st=.ok fr' st/\fr'.get 7=some (ZI xs.length)/\fr'.get 8=some Z0:=⟨_,by simp only[amE,rQ,rA,V20_0,wg119_1,n1]<;>rfl,gn gh,gh⟩
 obtain⟨FR,dF,hL⟩:=hL J21 (ad H21 (ad H20 dA19)) (ag H21 V20_0) (ag H21 (ag H20 gA19_1)) O21_7 O21_8
 rcases hL with⟨hL,he⟩|⟨j,hL,F4,he⟩
 ·rw[he]
  obtain⟨J23,H23,O23_4⟩:∃ fr',ar m Y wg119_7 FR st=.ok fr' st/\fr'.get 4=some (.int .i64 (.negSucc 0)):=⟨_,by simp only[amE,rQ,rA,wg119_7]<;>rfl,gh⟩
  refine⟨.negSucc 0,Ve (mf:=wf119) (fr:=J23) t119 rfl (.inl ?q23) (ad H23 dF) (by simp only[wf119,amE,O23_4]),rfl⟩
  case q23=>
   rw[<-hA19]
   simp only[amE,rQ,rA,wf119,b00,b11,b22,b33,H20,H21,hL,H23]
 ·rw[he]
  refine⟨.ofNat j,Ve (mf:=wf119) (fr:=FR) t119 rfl (.inl ?q24) dF (by simp only[wf119,amE,F4]),rfl⟩
  case q24=>
   rw[<-hA19]
   simp only[amE,rQ,rA,wf119,b00,b11,b22,b33,H20,H21,hL]
def wg75_0:List Vc:=[ZM 4 (ZB false)]
def wg75_1:List Vc:=[ZV 5 0,ZV 6 1,ZX 7 119 [(.t 5),(.t 6)],ZO 8 (.bin false .geq (.t 7) (ZC 0)),ZV 4 8]
def wf75:Vm:=⟨9,(ZQ wg75_0 (ZR wg75_1)),[.t 4]⟩
theorem t75:tbl 75=some wf75:=by kernel_rfl
theorem contains75_run{F:Nat->Prop}{st:St}{sl:AV}{xs:List Int}(hx:SlI F st sl xs)(q:Int)(m:Nat)(Y:Vi)(hn:xs.length < m):R (m+2) Y 75 [sl,.int .i64 q] st=.ret (.bool (xs.contains q)) st:=by
 obtain⟨r,hr,hc⟩:=index119_run hx q m Y hn
 have hr':((gT (m+1)).cg Y).fn 119 [sl,.int .i64 q] st=.ret (.int .i64 r) st:=hr
 have hg:Vr false .geq (.int .i64 r) Z0=some (.bool (decide (r>=0))):=rfl
 rw[hc] at hg
 obtain⟨fA25,hA25⟩:∃ fA,fA=Vo 0 [sl,.int .i64 q] Fr.nil:=⟨_,rfl⟩
 have gA25_0:=gAt hA25 0
 have gA25_1:=gAt hA25 1
 have dA25:fA25.ds=[]:=by rw[hA25];rfl
 obtain⟨J26,H26⟩:∃ fr',ar (m+1) Y wg75_0 fA25 st=.ok fr' st:=⟨_,by simp only[amE,rQ,rA,wg75_0]<;>rfl⟩
 have V26_0:=ag H26 gA25_0
 have V26_1:=ag H26 gA25_1
 obtain⟨J27,H27,O27_4⟩:∃ fr',ar (m+1) Y wg75_1 J26 st=.ok fr' st/\fr'.get 4=some (.bool (xs.contains q)):=⟨_,by simp only[amE,rQ,rA,V26_0,V26_1,wg75_1,hr',hg]<;>rfl,gh⟩
 refine Ve (mf:=wf75) (fr:=J27) t75 rfl (.inl ?q27) (ad H27 (ad H26 dA25)) (by simp only[wf75,amE,O27_4])
 case q27=>
  rw[<-hA25]
  simp only[amE,rQ,rA,wf75,b00,b11,b22,b33,H26,H27]
end
open Nat renaming reduceEqDiff -> rQ, reduceAdd -> rA
def JU(b:Nat)(s:St)(ov:AV)(PS:List Pr):Prop:=(ov=.nilsl/\PS=[])\/(∃ oid,b<=oid/\oid < s.next/\ov=.own oid 0 PS.length 1 none PS.length/\s.get oid=some (.row (PS.map fun x=>.ptr x.id 0)))
theorem JU.keep{b:Nat}{s s':St}{ov:AV}{PS:List Pr}(h:JU b s ov PS)(k:∀ j,b<=j->j < s.next->s'.get j=s.get j)(hn:s.next<=s'.next):JU b s' ov PS:=by
 rcases h with h|⟨oid,h1,h2,h3,h4⟩
 ·exact .inl h
 ·exact .inr ⟨oid,h1,by omega,h3,(k oid h1 h2).trans h4⟩
theorem JU.app{b:Nat}{s:St}{ov:AV}{PS:List Pr}(h:JU b s ov PS)(hb:PS.length < 100000)(hbn:b<=s.next)(x:Pr):
  ∃ s' oid,VX 8 1 s ov 1 [.ptr x.id 0]=some (.own oid 0 (PS.length+1) 1 none (PS.length+1),s')/\JU b s' (.own oid 0 (PS.length+1) 1 none (PS.length+1)) (PS++[x])/\s.next<=s'.next/\∀ j,j < b->s'.get j=s.get j:=by
 rcases h with⟨rfl,rfl⟩|⟨oid,h1,h2,rfl,h⟩
 ·exact⟨s.new (.row [.ptr x.id 0]),s.next,rfl,.inr ⟨s.next,hbn,by simp,rfl,by rw[St.get_new,Qm rfl];rfl⟩,by simp,fun j hj=>by rw[St.get_new,Qe (by omega)]⟩
 ·have hl:(PS.map fun x=>AV.ptr x.id 0).length=PS.length:=Qu ..
  refine⟨(s.del oid).new (.row ((PS.map fun x=>.ptr x.id 0)++[.ptr x.id 0])),s.next,?_,.inr ⟨s.next,hbn,by simp,by simp,?_⟩,by simp,fun j hj=>?_⟩
  ·have e1:Nat.beq 1 0=false:=rfl
   have e5:Nat.ble (PS.length+1) PS.length=false:=by
    cases hx:Nat.ble (PS.length+1) PS.length with
    | false=>rfl
    | true=>have:=Qk hx;omega
   unfold VX
   simp only[e1,Qq,h,QD,Qo (show (PS.length+1)*8<=140737488355328 by omega),Qo (show PS.length+1<=140737488355328 by omega),Q7,XP,hl,Qo (Qw PS.length),Qy,Qi,KY,e5,QN,QW,AV.one]
  ·show ((s.del oid).new _).get (s.del oid).next=_
   rw[St.get_new,Qm rfl,QQ];rfl
  ·rw[St.get_new,Qe (by show j≠s.next;omega),St.get_del,Qe (by omega)]
theorem flat_le(l:List En){left out:List Int}(hp:(left++out).Perm (V6 l)):(out.flatMap (clE l)).length<=l.length:=by
 have h1:=(all_claims l (V6 l) (Wu l) (fun e he=>(YK _ _).2 ⟨e,he,rfl⟩)).1
 have h2:((left++out).flatMap (clE l)).length=((V6 l).flatMap (clE l)).length:=(hp.flatMap_right _).length_eq
 rw[X0,QJ] at h2
 omega
theorem b44:Nat.beq 4 4=true:=rfl
theorem b45:Nat.beq 4 5=false:=rfl
theorem b66:Nat.beq 6 6=true:=rfl
theorem b88:Nat.beq 8 8=true:=rfl
theorem bAA:Nat.beq 10 10=true:=rfl
theorem bs1p(x:Nat):VN [.nilptr] [(0,1,.ptr x 0)]=some [.ptr x 0]:=rfl
set_option maxHeartbeats 1000000 in
theorem loop31_run{m:Nat}{Y:Vi}{ro:Option Nat}{fr0:Fr}{s0:St}{A lim hi:Nat}{d:List Sp}{PL:List Pr}{x6 x8 x9 x14 Th Tt lid k:Nat}{lv0:AV}{L0:List Int}(hP:PrSt A lim hi d s0 PL)(h6:s0.get x6=some (.row [.map A]))(h8:s0.get x8=some (.row [.own Th 0 k 1 (some k) 0]))(h9:s0.get x9=some (.row [.own Tt 0 k 1 (some k) 0]))
  (hTh:s0.get Th=some (.row (Vw k fun _=>0))) (hTt:s0.get Tt=some (.row (Vw k fun i=>VF (ens d) i))) (h14:s0.get x14=some (.row [lv0])) (hlv:LfS s0 lv0 lid L0) (hL0:L0.Perm (V6 (ens d)))
  (hok:∀ x∈PL,x.e.ok/\x.e.seen.length=k) (hk:∀ x∈PL,∀ c∈x.cl,0<=c.1/\c.1 < (k:Int)) (hens:(ens d).length<=4000) (hm:k+20000 < m)
  (lt:x6 < s0.next/\x8 < s0.next/\x9 < s0.next/\x14 < s0.next/\Th < s0.next/\Tt < s0.next/\(L0≠[]->lid < s0.next)/\hi<=s0.next) (ge:hi<=x6/\hi<=x8/\hi<=x9/\hi<=x14/\hi<=Th/\hi<=Tt/\hi<=lid/\lim<=hi)
  (ne1:Th≠x6/\Th≠x8/\Th≠x9/\Th≠x14/\Th≠Tt/\Th≠lid) (ne2:x14≠x6/\x14≠x8/\x14≠x9/\x14≠Tt/\x14≠lid) (ne3:lid≠x6/\lid≠x8/\lid≠x9/\lid≠Tt)
  (g6:fr0.get 6=some (.ptr x6 0)) (g8:fr0.get 8=some (.ptr x8 0)) (g9:fr0.get 9=some (.ptr x9 0)) (g14:fr0.get 14=some (.ptr x14 0)) (g15:fr0.get 15=some (.func (.func 72) [] [.ptr x6 0,.ptr x8 0,.ptr x9 0])) (g16:fr0.get 16=some .nilsl):
  ∃ FR S ov PS lv,Vx (ac m Y T8 ro) m fr0 s0=.exit 4 FR S/\Kq [71,72,73,17,74,75,76,77,78,79,80,81,18,82,83,84,85,86,87,88,89,90,91,92,93,94,95,96,20,97,98,99,100,101,102,103,104,105,106,107,108,16] fr0 FR/\FR.get 16=some ov/\JU s0.next S ov PS/\PS.map (fun x=>x.e.prop)=(Y4 (ens d) L0.length L0 []).2/\(∀ x∈PS,x∈PL)/\S.get x14=some (.row [lv])/\LfS S lv lid (Y4 (ens d) L0.length L0 []).1/\s0.next<=S.next ∧
   (∀ j,j < s0.next->j≠Th->j≠x14->j≠lid->S.get j=s0.get j):=by
 obtain⟨t1,t2,t3,t4,t5,t6,t7,t8⟩:=lt
 obtain⟨e1,e2,e3,e4,e5,e6,e7,e8⟩:=ge
 obtain⟨a1,a2,a3,a4,a5,a6⟩:=ne1
 obtain⟨b1,b2,b3,b4,b5⟩:=ne2
 obtain⟨c1,c2,c3,c4⟩:=ne3
 have hA:=hP.lim
 have hdup:(PL.map fun x=>x.e.prop).Nodup:=by rw[hP.prs];exact Wu _
 have hpl:(V6 (ens d)).length<=(ens d).length:=by
  have:∀ l:List En,(V6 l).length<=l.length:=fun l=>by
   induction l using JS with
   | nil=>simp[V6]
   | snoc l x ih=>
    rw[Yp]
    split
    ·simp;omega
    ·simp;omega
  exact this _
 have hLn:L0.length<=4000:=by rw[hL0.length_eq];omega
 obtain⟨q,rfl⟩:∃ q,m=q+2:=⟨m - 2,by omega⟩
 refine Ws (B:=ac (q+2) Y T8 ro) (N:=L0.length) (Inv:=fun j f s=>Kq [71,72,73,17,74,75,76,77,78,79,80,81,18,82,83,84,85,86,87,88,89,90,91,92,93,94,95,96,20,97,98,99,100,101,102,103,104,105,106,107,108,16] fr0 f/\s0.next<=s.next/\(∀ j,j < s0.next->j≠Th->j≠x14->j≠lid->s.get j=s0.get j)/\∃ left lv ov PS,f.get 16=some ov/\JU s0.next s ov PS/\(∀ x∈PS,x∈PL)/\s.get x14=some (.row [lv])/\LfS s lv lid left/\left.length=L0.length - j/\(left++PS.map fun x=>x.e.prop).Perm (V6 (ens d))/\Y4 (ens d) (L0.length - j) left (PS.map fun x=>x.e.prop)=Y4 (ens d) L0.length L0 []/\s.get Th=some (.row (Vw k fun i=>Wa (ens d) (PS.map fun x=>x.e.prop) i)))
  (Out:=fun r=>∃ FR S ov PS lv,r=.exit 4 FR S/\Kq [71,72,73,17,74,75,76,77,78,79,80,81,18,82,83,84,85,86,87,88,89,90,91,92,93,94,95,96,20,97,98,99,100,101,102,103,104,105,106,107,108,16] fr0 FR/\FR.get 16=some ov/\JU s0.next S ov PS/\PS.map (fun x=>x.e.prop)=(Y4 (ens d) L0.length L0 []).2/\(∀ x∈PS,x∈PL)/\S.get x14=some (.row [lv])/\LfS S lv lid (Y4 (ens d) L0.length L0 []).1/\s0.next<=S.next ∧
   (∀ j,j < s0.next->j≠Th->j≠x14->j≠lid->S.get j=s0.get j)) ?_ L0.length 0 fr0 s0 (q+2) (by omega) (by omega) ⟨Kq.refl.to,Qw _,fun _ _ _ _ _=>rfl,L0,lv0,.nilsl,[],g16,.inl ⟨rfl,rfl⟩,fun x hx=>by simp at hx,h14,hlv,by omega,by simpa using hL0,by simp,hTh⟩
 intro j f s hj ⟨kf,hn,ho,left,lv,ov,PS,f16,hov,hPS,s14,hlf,hll,hpm,hpk,sTh⟩
 have f6:=kf.g 6 g6
 have f8:=kf.g 8 g8
 have f9:=kf.g 9 g9
 have f14:=kf.g 14 g14
 have f15:=kf.g 15 g15
 have hPs:PrSt A lim hi d s PL:=hP.keep fun j hj=>ho j (by omega) (by omega) (by omega) (by omega)
 have s6:=(ho x6 t1 (by omega) (by omega) (by omega)).trans h6
 have s8:=(ho x8 t2 (by omega) (by omega) (by omega)).trans h8
 have s9:=(ho x9 t3 (by omega) (by omega) (by omega)).trans h9
 have sTt:=(ho Tt t6 (by omega) (by omega) (by omega)).trans hTt
 have hleft:∀ q∈left,∃ x∈PL,x.e.prop=q:=fun q hq=>by
  have:q∈V6 (ens d):=hpm.mem_iff.1 (XC _ hq)
  rw[<-hP.prs] at this
  obtain⟨x,hx,he⟩:=Q6.1 this
  exact⟨x,hx,he⟩
 have l14:Vf false 1 s (.ptr x14 0)=some lv:=Vk s14 rfl
 have l6:Vf false 1 s (.ptr x6 0)=some (.map A):=Vk s6 rfl
 have c73:((gT (q+2)).cg Y).fn 73 [lv,.func (.func 72) [] [.ptr x6 0,.ptr x8 0,.ptr x9 0]] s=_:=firstReady_run hPs s6 s8 s9 sTh sTt hok hlf hleft (by omega) q Y (by omega)
 cases hfi:left.findIdx? (Jp (ens d) (PS.map fun x=>x.e.prop)) with
 | none=>
  rw[hfi] at c73
  have hlt:Vr false .lss (.int .i64 (.negSucc 0)) Z0=some (.bool true):=rfl
  have hpe:Y4 (ens d) L0.length L0 []=(left,PS.map fun x=>x.e.prop):=by
   rw[<-hpk]
   cases L0.length - j with
   | zero=>rfl
   | succ n=>unfold Y4;rw[hfi]
  obtain⟨J1,H1,O1_17⟩:∃ fr',ar (q+2) Y wg31_15 f s=.ok fr' s/\fr'.get 17=some (.int .i64 (.negSucc 0)):=⟨_,by simp only[amE,rQ,rA,f14,f15,wg31_15,l14,c73]<;>rfl,gh⟩
  obtain⟨J2,H2,O2_75⟩:∃ fr',ar (q+2) Y wg31_16 J1 s=.ok fr' s/\fr'.get 75=some (.bool true):=⟨_,by simp only[amE,rQ,rA,O1_17,wg31_16,hlt]<;>rfl,gh⟩
  have kk:=(((kf.t (aq H1)).t (aq H2))).to (E:=[71,72,73,17,74,75,76,77,78,79,80,81,18,82,83,84,85,86,87,88,89,90,91,92,93,94,95,96,20,97,98,99,100,101,102,103,104,105,106,107,108,16])
  have hI2:ac (q+2) Y T8 ro f s=.exit 4 J2 s:=by
   simp only[amE,rQ,rA,T8,b00,b11,b22,b33,b45,b66,H1,H2,O2_75]
  rw[hI2]
  exact⟨_,_,ov,PS,lv,rfl,kk,(ag H2 (ag H1 f16)),hov,by rw[hpe],hPS,s14,by rw[hpe];exact hlf,hn,ho⟩
 | some i=>
  rw[hfi] at c73
  obtain⟨hil,hri,_⟩:=XQ.1 hfi
  have hlt:Vr false .lss (ZI i) Z0=some (.bool false):=by rw[Wt];simp
  have hjN:j < L0.length:=by omega
  have hx1:left[i]?=some left[i]:=Qn hil
  have hgd:=getD_some hil
  generalize hq0:left[i]=q0 at *
  obtain⟨x,hx,hxq⟩:=hleft q0 (by rw[<-hq0];exact Xu _)
  obtain⟨xa,xb,xc,xd,xf,xg,xu,xv⟩:=hPs.one x hx
  have lk:=lookQ PL hPs.all (q:=q0) (by rw[<-hxq];exact Sk hdup hx)
  obtain⟨pe,ie,lde⟩:=SlI.at (hlf.sl (by omega)) hx1
  have ie:VC 1 lv (ZI i)=some pe:=ie
  have lde:=lde s (Vs.refl _ _)
  have had:=WC (i:=i) (by omega)
  obtain⟨lv',s1,c74,hlf1,n1,o1⟩:=delete74_run hlf (by omega) hil (q+1) Y
  have c74:((gT (q+2)).cg Y).fn 74 [lv,ZI i,ZI ((i+1))] s=.ret lv' s1:=c74
  have hlid:lid < s0.next:=t7 fun h=>by rw[h] at hjN;simp at hjN
  have st1:Vt 1 s1 (.ptr x14 0) lv'=some (s1.put x14 (.row [lv'])):=by
   have hc:lv'.cells=[lv']/\AV.one lv'=true:=by
    rcases hlf1 with⟨h,_⟩|⟨_,_,h,_,_⟩<;>rw[h]<;>exact⟨rfl,rfl⟩
   exact V4 ((o1 x14 b5).trans s14) (by rw[hc.1];rfl) (by rw[hc.1];rfl) (by simp) (by rw[hc.1];simp[hc.2])
  obtain⟨s2,hs2⟩:∃ s2,s2=s1.put x14 (.row [lv']):=⟨_,rfl⟩
  rw[<-hs2] at st1
  have n2:s2.next=s.next:=by rw[hs2];exact n1
  have o2:∀ j,j≠x14->j≠lid->s2.get j=s.get j:=fun j h1 h2=>by rw[hs2,St.get_put,Qe h1];exact o1 j h2
  have s2_14:s2.get x14=some (.row [lv']):=by rw[hs2,St.get_put,Qm rfl]
  have hlf2:LfS s2 lv' lid (left.eraseIdx i):=hlf1.keep (by rw[hs2,St.get_put,Qe (by omega)])
  have xrow:s2.get x.id=some (.row x.row):=(o2 x.id (by omega) (by omega)).trans xc
  have xcl:s2.get x.cid=some (.row (V9 x.cl)):=(o2 x.cid (by omega) (by omega)).trans xd
  have lx6:Vf false 1 s2 (.ptr x.id 6)=some x.csl:=by
   obtain⟨a,b',c',hda,_⟩:=x.e.d.cells_abc
   refine Vk xrow ?_
   unfold Pr.row YX;rw[hda];rfl
  have hcb:x.cl.length<=4000:=by rw[xb];exact QY (clE_le _ _) hens
  have hcl2:ClS s2 x.csl x.cid x.cl:=.inr ⟨rfl,xcl⟩
  have hln:(bif VD 0 x.csl then Wm s2 x.csl else none)=some (ZI x.cl.length):=by
   have:=(hcl2.sl (by omega)).len s2
   rwa [Qu] at this
  have hth:∀ i:Nat,Wa (ens d) (PS.map fun x=>x.e.prop) i < 1000000000:=fun i=>by
   have h1:=flat_le (ens d) hpm
   have h2:=cntC_le ((PS.map fun x=>x.e.prop).flatMap (clE (ens d))) i
   rw[thereE_cnt];omega
  have hperm2:(left.eraseIdx i++(PS++[x]).map fun x=>x.e.prop).Perm (V6 (ens d)):=by
   have hp:=SC left i hil
   rw[hgd] at hp
   rw[QQ,Q4,QZ,hxq]
   refine List.Perm.trans ?_ ((hp.append_right _).symm.trans hpm)
   rw[<-Xb]
   exact List.perm_append_comm.trans (Xp _)
  have hpk2:Y4 (ens d) (L0.length - (j+1)) (left.eraseIdx i) ((PS++[x]).map fun x=>x.e.prop)=Y4 (ens d) L0.length L0 []:=by
   rw[<-hpk]
   obtain⟨n,hn'⟩:∃ n,L0.length - j=n+1:=⟨L0.length - j - 1,by omega⟩
   rw[hn',show L0.length - (j+1)=n by omega]
   conv=>rhs;unfold Y4
   rw[hfi]
   simp only
   rw[hgd,QQ,Q4,QZ,hxq]
  have hPSl:PS.length<=4000:=by
   have:=hpm.length_eq
   rw[QJ,Qu] at this
   omega
  obtain⟨J3,H3,O3_17⟩:∃ fr',ar (q+2) Y wg31_15 f s=.ok fr' s/\fr'.get 17=some (ZI i):=⟨_,by simp only[amE,rQ,rA,f14,f15,wg31_15,l14,c73]<;>rfl,gh⟩
  have V3_14:=ag H3 f14
  have V3_15:=ag H3 f15
  obtain⟨J4,H4,O4_75⟩:∃ fr',ar (q+2) Y wg31_16 J3 s=.ok fr' s/\fr'.get 75=some (.bool false):=⟨_,by simp only[amE,rQ,rA,O3_17,wg31_16,hlt]<;>rfl,gh⟩
  have V4_6:=ag H4 (ag H3 f6)
  have V4_14:=ag H4 V3_14
  have V4_17:=ag H4 O3_17
  obtain⟨J5,H5,K5,O5_18⟩:∃ fr',VK ((gT (q+2)).cg Y) wg31_17 [] J4 s=.ok fr' s/\Kq [18,81,80,79,78,77,76] J4 fr'/\fr'.get 18=some (.ptr x.id 0):=⟨_,Wj rfl (by simp only[amE,rQ,rA,V4_6,V4_14,V4_17,wg31_17,l6,l14,ie,lde,lk,JL]<;>rfl),Kq.refl.s.s.s.s.s.s.s,gh⟩
  have V5_6:=K5.g 6 V4_6
  have V5_8:=K5.g 8 (ag H4 (ag H3 f8))
  have V5_9:=K5.g 9 (ag H4 (ag H3 f9))
  have V5_14:=K5.g 14 V4_14
  have V5_15:=K5.g 15 (ag H4 V3_15)
  have V5_16:=K5.g 16 (ag H4 (ag H3 f16))
  have V5_17:=K5.g 17 V4_17
  obtain⟨J6,H6⟩:∃ fr',ar (q+2) Y wg31_18 J5 s=.ok fr' s2:=⟨_,by simp only[amE,rQ,rA,V5_14,V5_17,wg31_18,l14,had,c74,st1]<;>rfl⟩
  have V6_14:=ag H6 V5_14
  have V6_18:=ag H6 O5_18
  obtain⟨J7,H7,O7_91,O7_92,O7_93⟩:∃ fr',ar (q+2) Y wg31_19 J6 s2=.ok fr' s2/\fr'.get 91=some (x.csl)/\fr'.get 92=some (ZI x.cl.length)/\fr'.get 93=some Z0:=⟨_,by simp only[amE,rQ,rA,V6_18,wg31_19,Yq,faP,lx6,hln]<;>rfl,gn (gn gh),gn gh,gh⟩
  have V7_8:=ag H7 (ag H6 V5_8)
  have V7_14:=ag H7 V6_14
  obtain⟨FR,s3,hL,kL,_,_,_,nL,tL,oL⟩:=there31_run (m:=q+2) (Y:=Y) (ro:=ro) (s:=s2) (fr:=J7) (csl:=x.csl) (cid:=x.cid) (cl:=x.cl) (T:=Th) (tp:=x8) (k:=k) (g:=fun i=>Wa (ens d) (PS.map fun x=>x.e.prop) i) hcl2 (by omega) (by omega) (hk x hx)
   ((o2 x8 (by omega) (by omega)).trans s8) ((o2 Th (by omega) (by omega)).trans sTh) hth ⟨by omega,by omega,by omega⟩ (by omega) (by omega) rfl O7_91 O7_92 O7_93 V7_8
  have L6:=kL.g 6 (ag H7 (ag H6 V5_6))
  have L8:=kL.g 8 V7_8
  have L9:=kL.g 9 (ag H7 (ag H6 V5_9))
  have L14:=kL.g 14 V7_14
  have L15:=kL.g 15 (ag H7 (ag H6 V5_15))
  have L16:=kL.g 16 (ag H7 (ag H6 V5_16))
  have L18:=kL.g 18 (ag H7 V6_18)
  have hov3:JU s0.next s3 ov PS:=hov.keep (fun j h1 h2=>by rw[oL j (by omega) (by omega)];exact o2 j (by omega) (by omega)) (by omega)
  obtain⟨s4,oid,ap,hov4,n4,o4⟩:=hov3.app (by omega) (by omega) x
  have ct:Wd 1 s3 (.lst 1 [.ptr x.id 0] true)=some (1,[.ptr x.id 0]):=rfl
  have bs:=bs1p x.id
  have hP4:(PS++[x]).length=PS.length+1:=by simp
  obtain⟨J9,H9,O9_16⟩:∃ fr',ar (q+2) Y wg31_24 FR s3=.ok fr' s4/\fr'.get 16=some (.own oid 0 (PS.length+1) 1 none (PS.length+1)):=⟨_,by simp only[amE,rQ,rA,L16,L18,wg31_24,bs,ct,ap,tagN]<;>rfl,gh⟩
  have kk:=((((((((kf.t (aq H3)).t (aq H4)).t K5).t (aq H6)).t (aq H7)).t kL).t (aq H9))).to (E:=[71,72,73,17,74,75,76,77,78,79,80,81,18,82,83,84,85,86,87,88,89,90,91,92,93,94,95,96,20,97,98,99,100,101,102,103,104,105,106,107,108,16])
  have hI9:ac (q+2) Y T8 ro f s=.norm J9 s4:=by
   simp only[amE,rQ,rA,T8,b00,b11,b22,b33,b45,b66,H3,H4,H5,H6,H7,hL,H9,O4_75]
  rw[hI9]
  exact⟨hjN,kk,by omega,fun j h1 h2 h3 h4=>by rw[o4 j h1,oL j (by omega) h2,o2 j h3 h4];exact ho j h1 h2 h3 h4,left.eraseIdx i,lv',_,PS++[x],O9_16,hov4,fun y hy=>by
    rcases QV.1 hy with hy | hy
    ·exact hPS y hy
    ·rw[Xd.1 hy];exact hx,by rw[o4 x14 t4,oL x14 (by omega) (by omega)];exact s2_14,hlf2.keep (by rw[o4 lid hlid,oL lid (by omega) (by omega)]),by rw[List.length_eraseIdx_of_lt hil];omega,hperm2,hpk2,by
    rw[o4 Th t5,tL]
    congr 2
    refine Xn (Vw k) (funext fun i=>?_)
    rw[QQ,Q4,QZ,hxq,thereE_snoc,xb,hxq]
    rfl⟩
open Nat renaming reduceEqDiff -> rQ, reduceAdd -> rA
theorem t77:tbl 77=none:=by kernel_rfl
theorem insP_fst(x:Int × Int):∀ l:List (Int × Int),(insP x l).map Prod.fst=insI x.1 (l.map Prod.fst)
 | []=>rfl
 | y::ys=>by
  unfold insP
  simp only[Q4,insI]
  cases decide (x.1<=y.1)
  ·simp only[Qq,Q4,insP_fst x ys]
  ·rfl
theorem sortP_fst:∀ l:List (Int × Int),(VY l).map Prod.fst=Wn (l.map Prod.fst)
 | []=>rfl
 | x::l=>by
  unfold VY
  rw[insP_fst,sortP_fst l];rfl
theorem sort77_run{s:St}{cid:Nat}{cl:List (Int × Int)}(h:s.get cid=some (.row (V9 cl)))(hn:(cl.map Prod.fst).Nodup)(hl:cl.length<=4000)(m:Nat)(Y:Vi):
  R (m+1) Y 77 [.own cid 0 cl.length 2 none cl.length,.func (.func 78) [] []] s=.ret (.tuple []) (s.put cid (.row (V9 (VY cl)))):=by
 have hR:R (m+1) Y 77 [.own cid 0 cl.length 2 none cl.length,.func (.func 78) [] []] s=KJ 78 [.own cid 0 cl.length 2 none cl.length,.func (.func 78) [] []] s:=by
  unfold R
  simp only[Ji,t77]
  rfl
 have hb:Nat.ble cl.length 1000000000=true:=Qo (by omega)
 have h78:Nat.beq 78 78=true:=rfl
 rw[hR]
 unfold KJ
 simp only[h78,Qi,h,SB,QD,hb,sortP_fst,sortI_asc hn,Qy]
theorem YP.pre{d r:List En}(H:YP (d++r)):YP d:=fun a x b h=>H a x (b++r) (by rw[h];simp)
theorem leaf_nodup{l:List En}(H:YP l)(q:Int):((clE l q).map Prod.fst).Nodup:=by
 induction l using JS with
 | nil=>simp[clE]
 | snoc d x ih=>
  have h1:=ih H.pre
  rw[Tl,QQ]
  by_cases hx:x.prop=q
  ·rw[Qm hx]
   refine QS.2 ⟨h1,by simp,fun a ha b hb hab=>?_⟩
   obtain rfl:b=x.leaf:=by simpa using hb
   obtain⟨c,hc,hca⟩:=Q6.1 ha
   obtain⟨z,hz,z1,z2,z3⟩:=clE_mem.1 hc
   exact((H d x [] rfl).2.2.2 z hz (z1.trans hx.symm)).1 (by rw[z2,hca,hab])
  ·rw[Qe hx];simpa using h1
theorem b99:Nat.beq 9 9=true:=rfl
theorem bA11:Nat.beq 11 11=true:=rfl
set_option maxHeartbeats 1000000 in
theorem sorts31_run{m:Nat}{Y:Vi}{ro:Option Nat}{fr0:Fr}{s0:St}{A lim hi b:Nat}{d:List Sp}{PL PS:List Pr}{ov:AV}(hP:PrSt A lim hi d s0 PL)(hov:JU b s0 ov PS)(hbh:hi<=b)(hPS:∀ x∈PS,x∈PL)(hdup:(PS.map fun x=>x.e.prop).Nodup)(hcl:∀ x∈PL,(x.cl.map Prod.fst).Nodup/\x.cl.length<=4000)(hm:PS.length+10 < m)(hPl:PS.length<=4000)
  (g1:fr0.get 122=some ov) (g2:fr0.get 123=some (ZI PS.length)) (g3:fr0.get 124=some Z0):
  ∃ FR S,Vx (ac m Y TE ro) m fr0 s0=.exit 10 FR S/\Kq [122,123,124,125,126,127,24,128,129,130,131,132,133,134] fr0 FR/\S.next=s0.next/\(∀ j,(∀ x∈PS,j≠x.cid)->S.get j=s0.get j)/\∀ x∈PS,S.get x.cid=some (.row (V9 (VY x.cl))):=by
 obtain⟨q,rfl⟩:∃ q,m=q+1:=⟨m - 1,by omega⟩
 have hcids:∀ x∈PL,∀ y∈PL,x.e.prop≠y.e.prop->x.cid≠y.cid/\x.id≠y.cid:=fun x hx y hy hne=>by
  have hdp:(PL.map fun x=>x.e.prop).Nodup:=by rw[hP.prs];exact Wu _
  have key:∀ l:List Pr,(l.flatMap fun x=>[x.id,x.cid]).Nodup->x∈l->y∈l->x.cid≠y.cid/\x.id≠y.cid:=by
   intro l
   induction l with
   | nil=>intro _ hx;simp at hx
   | cons z l ih=>
    intro hn hx hy
    rw[Xa,QS] at hn
    obtain⟨_,n2,n3⟩:=hn
    rcases Qx.1 hx with hx1 | hx1
    ·rcases Qx.1 hy with hy1 | hy1
     ·exact absurd (by rw[hx1,hy1]) hne
     ·rw[hx1];exact⟨n3 _ (by simp) _ (QO.2 ⟨y,hy1,by simp⟩),n3 _ (by simp) _ (QO.2 ⟨y,hy1,by simp⟩)⟩
    ·rcases Qx.1 hy with hy1 | hy1
     ·rw[hy1];exact⟨fun h=>n3 _ (by simp) _ (QO.2 ⟨x,hx1,by simp⟩) h.symm,fun h=>n3 _ (by simp) _ (QO.2 ⟨x,hx1,by simp⟩) h.symm⟩
     ·exact ih n2 hx1 hy1
  exact key PL hP.ids hx hy
 have hself:∀ x∈PL,x.id≠x.cid:=fun x hx=>by
  have key:∀ l:List Pr,(l.flatMap fun x=>[x.id,x.cid]).Nodup->x∈l->x.id≠x.cid:=by
   intro l
   induction l with
   | nil=>intro _ h;simp at h
   | cons z l ih=>
    intro hn hx
    rw[Xa,QS] at hn
    rcases Qx.1 hx with h | h
    ·rw[h];simpa using hn.1
    ·exact ih hn.2.1 h
  exact key PL hP.ids hx
 -- the slice,by its elements
 have hat:∀(j:Nat) (x:Pr) (s:St),PS[j]?=some x->(∀ j',b<=j'->s.get j'=s0.get j')->∃ p,VC 1 ov (ZI j)=some p/\Vf false 1 s p=some (.ptr x.id 0):=fun j x s hx hs=>by
  rcases hov with⟨_,h⟩|⟨oid,h1,h2,h3,h4⟩
  ·rw[h] at hx;simp at hx
  ·have hj:=(Qt.1 hx).1
   refine⟨.ptr oid j,by rw[h3];exact iaN hj none _,Vk ((hs oid h1).trans h4) ?_⟩
   rw[Q5,hx];rfl
 refine Ws (B:=ac (q+1) Y TE ro) (N:=PS.length) (Inv:=fun j f s=>Kq [122,123,124,125,126,127,24,128,129,130,131,132,133,134] fr0 f/\f.get 122=some ov/\f.get 123=some (ZI PS.length)/\f.get 124=some (ZI j)/\s.next=s0.next/\(∀ i,(∀ x∈PS.take j,i≠x.cid)->s.get i=s0.get i)/\∀ x∈PS.take j,s.get x.cid=some (.row (V9 (VY x.cl))))
  (Out:=fun r=>∃ FR S,r=.exit 10 FR S/\Kq [122,123,124,125,126,127,24,128,129,130,131,132,133,134] fr0 FR/\S.next=s0.next/\(∀ j,(∀ x∈PS,j≠x.cid)->S.get j=s0.get j)/\∀ x∈PS,S.get x.cid=some (.row (V9 (VY x.cl)))) ?_ PS.length 0 fr0 s0 (q+1) (by omega) (by omega) ⟨Kq.refl.to,g1,g2,g3,rfl,fun _ _=>rfl,fun x hx=>by simp at hx⟩
 intro j f s hj ⟨kf,f1,f2,f3,hn,ho,hdone⟩
 have hlt:=Wt j PS.length
 by_cases hjN:j < PS.length
 ·have hx:PS[j]?=some PS[j]:=Qn hjN
  generalize PS[j]=x at hx
  have hxm:=Qr hx
  have hxP:=hPS x hxm
  obtain⟨xa,xb,xc,xd,xf,xg,xu,xv⟩:=hP.one x hxP
  have hnew:∀ y∈PS.take j,x.e.prop≠y.e.prop:=fun y hy he=>by
   obtain⟨i,hi,hie⟩:=List.mem_take_iff_getElem.1 hy
   have h1:(PS.map fun x=>x.e.prop)[i]?=some y.e.prop:=by rw[Q5,Qn (by omega),hie];rfl
   have h2:(PS.map fun x=>x.e.prop)[j]?=some x.e.prop:=by rw[Q5,hx];rfl
   have hij:i < j:=by omega
   rw[Qn (by rw[Qu];omega)] at h1 h2
   injection h1 with h1
   injection h2 with h2
   have:=List.pairwise_iff_getElem.1 hdup i j (by rw[Qu];omega) (by rw[Qu];omega) hij
   exact this (by rw[h1,h2,he])
  obtain⟨pe,ie,lde⟩:=hat j x s hx (fun j' hj'=>ho j' fun y hy=>by
   have:=(hP.one y (hPS y (XE hy))).2.2.2.2.2.2.2
   omega)
  have sx:s.get x.id=some (.row x.row):=(ho x.id fun y hy=>(hcids x hxP y (hPS y (XE hy)) (hnew y hy)).2).trans xc
  have sc:s.get x.cid=some (.row (V9 x.cl)):=(ho x.cid fun y hy=>(hcids x hxP y (hPS y (XE hy)) (hnew y hy)).1).trans xd
  have lx6:Vf false 1 s (.ptr x.id 6)=some (.own x.cid 0 x.cl.length 2 none x.cl.length):=by
   obtain⟨a,b',c',hda,_⟩:=x.e.d.cells_abc
   refine Vk sx ?_
   unfold Pr.row YX;rw[hda];rfl
  have c77:((gT (q+1)).cg Y).fn 77 [.own x.cid 0 x.cl.length 2 none x.cl.length,.func (.func 78) [] []] s=.ret (.tuple []) (s.put x.cid (.row (V9 (VY x.cl)))):=sort77_run sc (hcl x hxP).1 (hcl x hxP).2 q Y
  have had:=WC (i:=j) (by omega)
  rw[Qs hjN] at hlt
  obtain⟨J1,H1,O1_125⟩:∃ fr',ar (q+1) Y wg31_32 f s=.ok fr' s/\fr'.get 125=some (.bool true):=⟨_,by simp only[amE,rQ,rA,f2,f3,wg31_32,hlt]<;>rfl,gh⟩
  have V1_122:=ag H1 f1
  have V1_124:=ag H1 f3
  obtain⟨J2,H2,O2_24⟩:∃ fr',ar (q+1) Y wg31_33 J1 s=.ok fr' s/\fr'.get 24=some (.ptr x.id 0):=⟨_,by simp only[amE,rQ,rA,V1_122,V1_124,wg31_33,ie,lde]<;>rfl,gh⟩
  obtain⟨J3,H3⟩:∃ fr',ar (q+1) Y wg31_34 J2 s=.ok fr' (s.put x.cid (.row (V9 (VY x.cl)))):=⟨_,by simp only[amE,rQ,rA,O2_24,wg31_34,Yq,faP,lx6,c77]<;>rfl⟩
  have V3_124:=ag H3 (ag H2 V1_124)
  obtain⟨J4,H4,O4_124⟩:∃ fr',ar (q+1) Y wg31_35 J3 (s.put x.cid (.row (V9 (VY x.cl))))=.ok fr' (s.put x.cid (.row (V9 (VY x.cl))))/\fr'.get 124=some (ZI ((j+1))):=⟨_,by simp only[amE,rQ,rA,V3_124,wg31_35,had]<;>rfl,gh⟩
  have kk:=(((((kf.t (aq H1)).t (aq H2)).t (aq H3)).t (aq H4))).to (E:=[122,123,124,125,126,127,24,128,129,130,131,132,133,134])
  have htk:PS.take (j+1)=PS.take j++[x]:=by rw[QT,hx];rfl
  have hI4:ac (q+1) Y TE ro f s=.norm J4 (s.put x.cid (.row (V9 (VY x.cl)))):=by
   simp only[amE,rQ,rA,TE,b00,b11,b22,b33,bAA,bA11,H1,H2,H3,H4,O1_125]
  rw[hI4]
  exact⟨hjN,kk,(ag H4 (ag H3 (ag H2 V1_122))),(ag H4 (ag H3 (ag H2 (ag H1 f2)))),O4_124,hn,fun i hi=>by
    rw[htk] at hi
    rw[St.get_put,Qe (hi x (by simp))]
    exact ho i fun y hy=>hi y (XC _ hy),fun y hy=>by
    rw[htk] at hy
    rcases QV.1 hy with hy | hy
    ·rw[St.get_put,Qe (fun h=>(hcids x hxP y (hPS y (XE hy)) (hnew y hy)).1 h.symm)];exact hdone y hy
    ·rw[Xd.1 hy,St.get_put,Qm rfl]⟩
 ·rw[Qp hjN] at hlt
  have hjl:j=PS.length:=by omega
  rw[hjl,QH] at ho hdone
  obtain⟨J5,H5,O5_125⟩:∃ fr',ar (q+1) Y wg31_32 f s=.ok fr' s/\fr'.get 125=some (.bool false):=⟨_,by simp only[amE,rQ,rA,f2,f3,wg31_32,hlt]<;>rfl,gh⟩
  have kk:=((kf.t (aq H5))).to (E:=[122,123,124,125,126,127,24,128,129,130,131,132,133,134])
  have hI5:ac (q+1) Y TE ro f s=.exit 10 J5 s:=by
   simp only[amE,rQ,rA,TE,b00,b11,b22,b33,bAA,bA11,H5,O5_125]
  rw[hI5]
  exact⟨_,_,rfl,kk,hn,ho,hdone⟩
set_option maxHeartbeats 1000000 in
theorem circle31_run{F:Nat->Prop}{st:St}{jv:AV}{js:List (AV × List En)}(hj:YQ F st jv js)(m:Nat)(Y:Vi)(hn:fzJ js+5000 < m){fr:Fr}{s:St}{b x14 c lid:Nat}{lv:AV}{left:List Int}(hF:Vs F st s)
  (hb:s.get b=some (.row [.nilsl])) (hb1:s.get (b+1)=some (.row [Z0,Z0,Z0])) (h14:s.get x14=some (.row [lv])) (hc:s.get c=some (.row [jv])) (hlv:LfS s lv lid left) (hll:left.length<=4000) (hl:left≠[]) (hlm:∀ q∈left,q∈V6 (ens (Vq js)))
  (hFl:∀ i,F i->i < s.next) (lt:b+1 < s.next/\x14 < s.next/\c < s.next/\lid < s.next)
  (g4:fr.get 4=some (.ptr b 0)) (g5:fr.get 5=some (.ptr (b+1) 0)) (g14:fr.get 14=some (.ptr x14 0)) (g113:fr.get 113=some (.func (.func 107) [] [.ptr c 0])):
  ∃ s' p i,ac (m+1) Y wr31_0 none fr s=.ret { fr with ds:=.coll::fr.ds } s'/\s'.get b=some (.row [.nilsl])/\s'.get (b+1)=some (.row [ZI 4,ZI p,ZI i])/\s.next<=s'.next/\∀ j,j < s.next->j≠b->j≠b+1->s'.get j=s.get j:=by
 obtain⟨l1,l2,l3,l4⟩:=lt
 obtain⟨s',hh⟩:=SI (ps:=[114,115]) (asg:=wa31_0) (body:=wy31_0) (fr:=fr) (s:=s) hj m Y (by omega) (x:=.t 113) (c:=c) (by show (fr.get 113).getD .undef=_;rw[g113];rfl) rfl (Inv:=fun d s1=>Vd s s1/\∀ z∈d,z.2.2.prop∉left)
  (Fin:=fun s1=>∃ p i:Nat,s1.get b=some (.row [.nilsl])/\s1.get (b+1)=some (.row [ZI 4,ZI p,ZI i])/\s.next<=s1.next/\∀ j,j < s.next->j≠b->j≠b+1->s1.get j=s.get j)
  (fun d s1 h=>⟨hF.trans fun i hi=>h.1.2 i (hFl i hi),by rw[h.1.2 c l3];exact hc⟩) (fun d s1 s2 h k=>⟨h.1.trans k,h.2⟩)
  (fun d s1 l h=>⟨h.1.put _ _ (Qw _),h.2⟩) (fun s1 l h=>by
   obtain⟨p,i,y1,y2,y3,y4⟩:=h
   exact⟨p,i,by rw[St.get_put,Qe (by omega)];exact y1,by rw[St.get_put,Qe (by omega)];exact y2,y3,fun j h1 h2 h3=>by rw[St.get_put,Qe (by omega)];exact y4 j h1 h2 h3⟩) ⟨Vd.new s _,fun z hz=>by simp at hz⟩ (fun p q i e s1 hp hi ⟨k0,hno⟩ hL0 hL1=>by
   have c9:=e.cells9
   obtain⟨fB,hfB⟩:∃ fB,fB=VL [114,115] [atV p i,.agg e.cells] { fr with ds:=[] }:=⟨_,rfl⟩
   rw[<-hfB]
   have gB114:fB.get 114=some (atV p i):=by rw[hfB];simp only[VL,Fr.get_set,rQ,↓reduceIte]
   have gB115:fB.get 115=some (.agg e.cells):=by rw[hfB];simp only[VL,Fr.get_set,rQ,↓reduceIte]
   have gB4:fB.get 4=some (.ptr b 0):=by rw[hfB];simp only[VL,Fr.get_set,rQ,↓reduceIte];exact g4
   have gB5:fB.get 5=some (.ptr (b+1) 0):=by rw[hfB];simp only[VL,Fr.get_set,rQ,↓reduceIte];exact g5
   have gB14:fB.get 14=some (.ptr x14 0):=by rw[hfB];simp only[VL,Fr.get_set,rQ,↓reduceIte];exact g14
   have sto1:Vt 2 (s1.new (.row [Z0,Z0])) (.ptr s1.next 0) (atV p i)=some ((s1.new (.row [Z0,Z0])).put s1.next (.row [ZI p,ZI i])):=VQ rfl rfl rfl
   have k1a:Vd s1 ((s1.new (.row [Z0,Z0])).put s1.next (.row [ZI p,ZI i])):=(Vd.refl s1).newput _ _
   have g1a:((s1.new (.row [Z0,Z0])).put s1.next (.row [ZI p,ZI i])).get s1.next=some (.row [ZI p,ZI i]):=by rw[St.get_put,Qm rfl]
   have n1a:((s1.new (.row [Z0,Z0])).put s1.next (.row [ZI p,ZI i])).next=s1.next+1:=rfl
   generalize hs1a:(s1.new (.row [Z0,Z0])).put s1.next (.row [ZI p,ZI i])=s1a at sto1 k1a g1a n1a
   have sto2:Vt 9 (s1a.new (.row ze9)) (.ptr s1a.next 0) (.agg e.cells)=some ((s1a.new (.row ze9)).put s1a.next (.row e.cells)):=VQ rfl c9.1 c9.2
   have k2:Vd s1a ((s1a.new (.row ze9)).put s1a.next (.row e.cells)):=(Vd.refl s1a).newput _ _
   have g2b:((s1a.new (.row ze9)).put s1a.next (.row e.cells)).get s1a.next=some (.row e.cells):=by rw[St.get_put,Qm rfl]
   have n2b:((s1a.new (.row ze9)).put s1a.next (.row e.cells)).next=s1a.next+1:=rfl
   unfold ze9 at sto2 k2 g2b n2b
   generalize hs2:(s1a.new (.row _)).put s1a.next (.row e.cells)=s2 at sto2 k2 g2b n2b
   rw[n1a] at sto2 g2b n2b
   obtain⟨J6,H6,O6_21⟩:∃ fr',ar (m+1) Y wg31_27 fB s1=.ok fr' s1a/\fr'.get 21=some (.ptr s1.next 0):=⟨_,by simp only[amE,rQ,rA,gB114,wg31_27,sto1]<;>rfl,gh⟩
   have V6_14:=ag H6 gB14
   have V6_115:=ag H6 gB115
   obtain⟨J7,H7,O7_22⟩:∃ fr',ar (m+1) Y wg31_28 J6 s1a=.ok fr' s2/\fr'.get 22=some (.ptr (s1.next+1) 0):=⟨_,by simp only[amE,rQ,rA,V6_115,wg31_28,sto2,n1a]<;>rfl,gh⟩
   have V7_14:=ag H7 V6_14
   have hI1:ac (m+1) Y wa31_0 (some s.next) fB s1=.norm J7 s2:=by
    simp only[amE,rQ,rA,wa31_0,b00,b11,b22,b33,H6,H7]
   have k12:=k1a.trans k2
   have L1:s2.get s.next=some (.loop .ready):=by rw[k12.2 _ hL1];exact hL0
   refine⟨_,_,hI1,k12,?_⟩
   have g3:∀ k,k≠s.next->(s2.put s.next (.loop .busy)).get k=s2.get k:=fun k hk=>by rw[St.get_put,Qe hk]
   have g3L:(s2.put s.next (.loop .busy)).get s.next=some (.loop .busy):=by rw[St.get_put,Qm rfl]
   have n3:(s2.put s.next (.loop .busy)).next=s1.next+2:=by show s2.next=_;omega
   have k3:Vd s (s2.put s.next (.loop .busy)):=(k0.trans k12).put _ _ (Qw _)
   generalize s2.put s.next (.loop .busy)=s3 at g3 g3L n3 k3
   have a8:s3.get s1.next=some (.row [ZI p,ZI i]):=by rw[g3 _ (by omega),k2.2 _ (by omega)];exact g1a
   have a9:s3.get (s1.next+1)=some (.row e.cells):=by rw[g3 _ (by omega)];exact g2b
   have l8:=ld2r a8
   have e2:Vf false 1 s3 (.ptr (s1.next+1) 2)=some (.int .i64 e.prop):=Vk a9 rfl
   have l14:Vf false 1 s3 (.ptr x14 0)=some lv:=Vk ((k3.2 x14 l2).trans h14) rfl
   obtain⟨q',hq'⟩:∃ q',m+1=q'+2:=⟨m - 1,by omega⟩
   have c75:((gT (m+1)).cg Y).fn 75 [lv,.int .i64 e.prop] s3=.ret (.bool (left.contains e.prop)) s3:=by
    have:=contains75_run ((hlv.keep (k3.2 lid l4)).sl (by omega)) e.prop q' Y (by omega)
    rw[<-hq'] at this;exact this
   have hmem:left.contains e.prop=true ↔ e.prop∈left:=by simp
   generalize left.contains e.prop=B at *
   cases B with
   | true=>
    refine .inr ?_
    obtain⟨sD,c76,k76⟩:=bad_run (.ofNat 4) (.ofNat p) (.ofNat i) m Y s3
    have c76:((gT (m+1)).cg Y).fn 76 [ZI 4,.agg [ZI p,ZI i]] s3=.ret (.agg [ZI 4,ZI p,ZI i]) sD:=c76
    have st1:Vt 1 sD (.ptr b 0) .nilsl=some (sD.put b (.row [.nilsl])):=V4 (((k76.2 _ (by omega)).trans ((k3.2 b (by omega)).trans hb))) rfl rfl (by simp) rfl
    have gD:(sD.put b (.row [.nilsl])).get (b+1)=some (.row [Z0,Z0,Z0]):=by rw[St.get_put,Qe (by omega),k76.2 _ (by omega),k3.2 _ l1];exact hb1
    have st2:Vt 3 (sD.put b (.row [.nilsl])) (.ptr (b+1) 0) (.agg [ZI 4,ZI p,ZI i])=some ((sD.put b (.row [.nilsl])).put (b+1) (.row [ZI 4,ZI p,ZI i])):=V4 gD rfl rfl (by simp) rfl
    obtain⟨J8,H8,O8_119⟩:∃ fr',ar (m+1) Y wg31_29 J7 s3=.ok fr' s3/\fr'.get 119=some (.bool true):=⟨_,by simp only[amE,rQ,rA,V7_14,O7_22,wg31_29,faP,l14,e2,c75]<;>rfl,gh⟩
    have V8_4:=ag H8 (ag H7 (ag H6 gB4))
    have V8_5:=ag H8 (ag H7 (ag H6 gB5))
    have V8_21:=ag H8 (ag H7 O6_21)
    obtain⟨J9,H9⟩:∃ fr',ar (m+1) Y wg31_30 J8 s3=.ok fr' ((sD.put b (.row [.nilsl])).put (b+1) (.row [ZI 4,ZI p,ZI i])):=⟨_,by simp only[amE,rQ,rA,V8_4,V8_5,V8_21,wg31_30,l8,c76,st1,st2]<;>rfl⟩
    have hI2:ac (m+1) Y wy31_0 (some s.next) J7 s3=.ret J9 ((sD.put b (.row [.nilsl])).put (b+1) (.row [ZI 4,ZI p,ZI i])):=by
     simp only[amE,rQ,rA,wy31_0,b00,b11,b22,b33,H8,H9,O8_119]
    have n76:=k76.1
    exact⟨_,_,hI2,by rw[St.get_put,Qe (by omega),St.get_put,Qe (by omega),k76.2 _ (by omega)];exact g3L,p,i,by rw[St.get_put,Qe (by omega),St.get_put,Qm rfl],by rw[St.get_put,Qm rfl],by show s.next<=sD.next;omega,fun j h1 h2 h3=>by rw[St.get_put,Qe h3,St.get_put,Qe h2,k76.2 _ (by omega)];exact k3.2 j h1⟩
   | false=>
    refine .inl ?_
    have hne:e.prop∉left:=fun h=>by have:=hmem.2 h;cases this
    obtain⟨J10,H10,O10_119⟩:∃ fr',ar (m+1) Y wg31_29 J7 s3=.ok fr' s3/\fr'.get 119=some (.bool false):=⟨_,by simp only[amE,rQ,rA,V7_14,O7_22,wg31_29,faP,l14,e2,c75]<;>rfl,gh⟩
    have hI2:ac (m+1) Y wy31_0 (some s.next) J7 s3=.norm J10 s3:=by
     simp only[amE,rQ,rA,wy31_0,b00,b11,b22,b33,b99,H10,O10_119]
    exact⟨_,_,hI2,g3L,by omega,k3,fun z hz=>by
     rcases QV.1 hz with hz | hz
     ·exact hno z hz
     ·rw[Xd.1 hz];exact hne⟩)
 rcases hh with⟨_,⟨_,hno⟩,_⟩|⟨hR,p,i,y1,y2,y3,y4⟩
 ·exfalso
  obtain⟨q,hq⟩:=List.exists_mem_of_ne_nil left hl
  obtain⟨e,he,heq⟩:=(YK _ _).1 (hlm q hq)
  obtain⟨z,hz,rfl⟩:=Q6.1 he
  exact hno z hz (heq ▸ hq)
 ·exact⟨s',p,i,hR,y1,y2,y3,y4⟩
end Go.AM.D32
