import Derived.Test.YtejdliehekjicaaGreatAwWa23
set_option maxRecDepth 100000
set_option linter.unusedSimpArgs false
namespace Go.AM.D32
open Go Go.AM
noncomputable section
open Nat renaming reduceEqDiff -> rQ, reduceAdd -> rA
def GrW(z b:Nat)(s:St)(ov:AV)(xs:List (List AV)):Prop:=(∀ x∈xs,x.length=z/\x.all AV.one=true)/\((ov=.nilsl/\xs=[])\/∃ oid,b<=oid/\oid < s.next/\ov=.own oid 0 xs.length z none xs.length/\s.get oid=some (.row xs.flatten))
def hO(ov:AV)(i:Nat):Prop:=∃ n z c l,ov=.own i 0 n z c l
theorem flatY_len{z:Nat}{xs:List (List AV)}(h:∀ x∈xs,x.length=z/\x.all AV.one=true):xs.flatten.length=xs.length*z:=by
 induction xs with
 | nil=>simp
 | cons y ys ih=>
  simp only[Xc,QJ,QC]
  rw[ih fun x hx=>h x (by simp[hx]),(h y (by simp)).1,Xv];omega
theorem GrW.app{bytes z b:Nat}{s s2:St}{ov:AV}{xs:List (List AV)}{y:List AV}(h:GrW z b s ov xs)(hb:b<=s.next)(xC:(xs.length+1)*bytes<=140737488355328)(bw:xs.length+1<=140737488355328)(k:Vd s s2)(hy:y.length=z/\y.all AV.one=true):
  ∃ s3,VX bytes z s2 ov 1 y=some (.own s2.next 0 (xs.length+1) z none (xs.length+1),s3)/\s3.next=s2.next+1/\(∀ j,j < s2.next->¬ hO ov j->s3.get j=s2.get j)/\GrW z b s3 (.own s2.next 0 (xs.length+1) z none (xs.length+1)) (xs++[y]):=by
 obtain⟨hx,hc⟩:=h
 have aK:∀ x∈xs++[y],x.length=z/\x.all AV.one=true:=fun x dK=>by
  rcases QV.1 dK with h | h
  ·exact hx x h
  ·rw[Xd.1 h];exact hy
 have hk:=k.1
 rcases hc with⟨rfl,rfl⟩|⟨oid,h1,h2,rfl,h4⟩
 ·refine⟨s2.new (.row y),?_,rfl,fun j hj _=>by rw[St.get_new,Qe (by omega)],aK,.inr ⟨s2.next,by omega,by simp,by simp,by rw[St.get_new,Qm rfl];simp⟩⟩
  unfold VX
  simp only[show Nat.beq 1 0=false from rfl,Qq,Qo (show 1*bytes<=140737488355328 by simpa using xC),show Nat.ble 1 140737488355328=true from rfl,Qy,Qi]
  rfl
 ·have jm:s2.get oid=some (.row xs.flatten):=(k.2 oid h2).trans h4
  have hl:=flatY_len hx
  have e5:Nat.ble (xs.length+1) xs.length=false:=by
   cases Ax:Nat.ble (xs.length+1) xs.length with
   | false=>rfl
   | true=>have:=Qk Ax;omega
  refine⟨(s2.del oid).new (.row (xs.flatten++y)),?_,rfl,fun j hj hn=>?_,aK,.inr ⟨s2.next,by omega,by simp,by simp,?_⟩⟩
  ·unfold VX
   simp only[show Nat.beq 1 0=false from rfl,Qq,jm,QD,Qo xC,Qo bw,Q7,hl,Qo (Qw (xs.length*z)),hy.2,Qy,Qi,KY,e5,Qq]
  ·rw[St.get_new,Qe (by show j≠s2.next;omega),St.get_del,Qe (fun e=>hn ⟨_,_,_,_,by rw[e]⟩)]
  ·show ((s2.del oid).new _).get (s2.del oid).next=_
   rw[St.get_new,Qm rfl];simp
theorem GrW.sln{z b:Nat}{s:St}{ov:AV}{xs:List (List AV)}(h:GrW z b s ov xs)(hz:0 < z)(hb:xs.length<=4611686018427387904):RB z (fun i=>b<=i/\i < s.next) s ov xs:=by
 obtain⟨hx,hc⟩:=h
 refine⟨hz,hx,hb,?_⟩
 rcases hc with h|⟨oid,h1,h2,h3,h4⟩
 ·exact .inl h
 ·exact .inr (.inr ⟨oid,none,xs.length,[],h3,⟨h1,h2⟩,by rw[QG];exact h4⟩)
def MvR(G:Nat->Prop)(s:St)(x:Pr)(ys:List AV):Prop:=∃ sv xv cs,ys=[.int .i64 x.e.prop,.int .i64 x.e.gate,sv]++cs++[x.csl]/\RL G s sv xv/\Vy G s x.e.vals xv/\VU G s x.e.d cs
theorem MvR.mono{F G:Nat->Prop}{s a:St}{x:Pr}{ys:List AV}(h:MvR F s x ys)(k:Vs F s a)(g:∀ i,F i->G i):MvR G a x ys:=by
 obtain⟨sv,xv,cs,h1,h2,h3,h4⟩:=h
 exact⟨sv,xv,cs,h1,h2.mono k g,Vy.mono k g _ _ h3,VU.mono k g _ _ h4⟩
theorem cnt7{s:St}{y:List AV}(h:y.length=7):Wd 7 s (.lst 1 y true)=some (1,y):=by
 unfold Wd
 simp only[h,show Nat.ble (1*7) 7=true from rfl,Qi]
 rw[Xx (by omega)]
theorem fl7{y:List AV}(h:y.length=7):VN [Z0,Z0,.nilsl,Z0,.nilsl,.nilsl,.nilsl] [(0,7,.agg y)]=some y:=by
 have h1:(AV.agg y).cells=y:=rfl
 have h2:setCells [Z0,Z0,.nilsl,Z0,.nilsl,.nilsl,.nilsl] 0 y=y:=by
  unfold setCells
  rw[Xe,QR,XX (by simp[h]),QG]
 simp only[VN,h1,h2,h,QD,QC,X2,Q7,rA,show Nat.ble 7 7=true from rfl,Qy,Qi]
def wg32_0:List Vc:=[ZM 2 (.c .nilsl)]
def wg32_1:List Vc:=[ZM 3 (.c .nilsl)]
def wg32_2:List Vc:=[ZV 7 0,ZN 8 7,ZM 9 (ZC 0)]
def wg32_3:List Vc:=[ZO 10 (.bin false .lss (.t 9) (.t 8))]
def wg32_4:List Vc:=[ZP 11 1 7 9,ZL 12 11,ZV 5 12]
def wg32_5:List Vc:=[ZV 13 5,ZO 14 (.nilchk (.t 13)),ZA 15 0 14,ZK 16 7 15,ZO 6 (.alloc [Z0,Z0,.nilsl,Z0,.nilsl,.nilsl,.nilsl]),ZS 7 6 16]
def wg32_6:List (Vc × Nat):=[(ZA 17 1 6,0),(ZK 18 2 17,1),(ZX 19 54 [(.t 18)],3),(ZA 20 3 6,0),(ZK 21 3 20,8),(ZX 22 80 [(.t 21)],31),(ZA 23 1 6,31),(ZS 2 23 19,127),(ZA 24 3 6,255),(ZS 3 24 22,511)]
def wg32_7:List Vc:=[ZV 25 3,ZK 26 7 6,ZO 27 (.bslice 1 [Z0,Z0,.nilsl,Z0,.nilsl,.nilsl,.nilsl] [(0,7,(.t 26))]),ZO 28 (.append 120 7 none (.t 25) (.t 27)),ZV 3 28]
def wg32_8:List Vc:=[ZO 29 (.bin false .add (.t 9) (ZC 1)),ZV 9 29]
def wg32_9:List Vc:=[ZV 30 3,ZV 2 30]
def Tq:Vn:=(ZQ wg32_3 (.seq (.cond (.t 10) .skip (.exit 0)) (.seq (.block 1 (ZQ wg32_4 (ZQ wg32_5 (.seq (.draw wg32_6 [(4,some 2),(4,some 5)]) (.region wg32_7))))) (.region wg32_8))))
def wf32:Vm:=⟨31,(ZQ wg32_0 (ZQ wg32_1 (.seq (ZQ wg32_2 (.block 0 (.loop Tq))) (ZR wg32_9)))),[.t 2]⟩
theorem t32:Ry 32=some wf32:=by kernel_rfl
set_option maxHeartbeats 1000000 in
theorem moves32_run{st:St}{b:Nat}{ov:AV}{PS:List Pr}(gK:JU b st ov PS)(gL:∀ x∈PS,st.get x.id=some (.row x.row)/\x.id < st.next/\x.e.ok/\RV x.e.vals=true/\x.e.vals.length<=8/\Dv.good gr x.e.d=true)(hn:PS.length<=4000)(m:Nat)(Y:Vi)(hm:PS.length+10 < m)(bv:∀ x∈PS,x.e.fz < m):
  ∃ mv rows af,R (m+1) Y 32 [ov] st=.ret mv af/\Vd st af/\RB 7 (fun i=>st.next<=i/\i < af.next) af mv rows/\rows.length=PS.length/\(∀(j:Nat) (x:Pr) (ys:List AV),PS[j]?=some x->rows[j]?=some ys->MvR (fun i=>st.next<=i/\i < af.next) af x ys)/\(PS=[]->mv=.nilsl):=by
 obtain⟨q,rfl⟩:∃ q,m=q+1:=⟨m - 1,by omega⟩
 have bO:(bif VD 0 ov then Wm st ov else none)=some (ZI PS.length):=by
  rcases gK with⟨h1,h2⟩|⟨oid,_,_,h3,_⟩
  ·rw[h1,h2];rfl
  ·rw[h3];rfl
 have bz:∀(j:Nat) (x:Pr) (s:St),PS[j]?=some x->Vd st s->∃ p,VC 1 ov (ZI j)=some p/\Vf false 1 s p=some (.ptr x.id 0):=fun j x s hx hs=>by
  rcases gK with⟨_,h⟩|⟨oid,h1,h2,h3,h4⟩
  ·rw[h] at hx;simp at hx
  ·have hj:=(Qt.1 hx).1
   refine⟨.ptr oid j,by rw[h3];exact iaN hj none _,Vk ((hs.2 oid h2).trans h4) ?_⟩
   rw[Q5,hx];rfl
 have hL:∀(fr:Fr),fr.ds=[]->fr.get 3=some .nilsl->fr.get 7=some ov->fr.get 8=some (ZI PS.length)->fr.get 9=some Z0 ->
   ∃ FR s' mv rows,Vx (ac (q+1) Y Tq none) (q+1) fr st=.exit 0 FR s'/\FR.ds=[]/\FR.get 3=some mv/\Vd st s'/\GrW 7 st.next s' mv rows/\rows.length=PS.length/\(rows=[]->mv=.nilsl)/\∀(j:Nat) (x:Pr) (ys:List AV),PS[j]?=some x->rows[j]?=some ys->MvR (fun i=>st.next<=i/\i < s'.next/\¬ hO mv i) s' x ys:=by
  intro fr d0 g3 g7 g8 g9
  refine Ws (B:=ac (q+1) Y Tq none) (N:=PS.length) (R3:=fun k f s=>f.ds=[]/\f.get 7=some ov/\f.get 8=some (ZI PS.length)/\f.get 9=some (ZI k)/\Vd st s/\∃ mv rows,f.get 3=some mv/\GrW 7 st.next s mv rows/\rows.length=k/\(rows=[]->mv=.nilsl)/\∀(j:Nat) (x:Pr) (ys:List AV),PS[j]?=some x->rows[j]?=some ys->MvR (fun i=>st.next<=i/\i < s.next/\¬ hO mv i) s x ys)
   (Out:=fun r=>∃ FR s' mv rows,r=.exit 0 FR s'/\FR.ds=[]/\FR.get 3=some mv/\Vd st s'/\GrW 7 st.next s' mv rows/\rows.length=PS.length/\(rows=[]->mv=.nilsl)/\∀(j:Nat) (x:Pr) (ys:List AV),PS[j]?=some x->rows[j]?=some ys->MvR (fun i=>st.next<=i/\i < s'.next/\¬ hO mv i) s' x ys) ?_ PS.length 0 fr st (q+1) (by omega) (by omega) ⟨d0,g7,g8,g9,Vd.refl st,.nilsl,[],g3,⟨fun x hx=>by simp at hx,.inl ⟨rfl,rfl⟩⟩,rfl,fun _=>rfl,fun j x ys _ h=>by simp at h⟩
  intro k f s hk ⟨d0,q1,q2,q3,bi,mv,rows,q4,bX,fy,hz,jU⟩
  have am:=Wt k PS.length
  by_cases aQ:k < PS.length
  ·have hx:PS[k]?=some PS[k]:=Qn aQ
   generalize PS[k]=x at hx
   have dK:=Qr hx
   obtain⟨cW,aZ,bc,cH,BZ,dk⟩:=gL x dK
   have qp:=bv x dK
   obtain⟨o1,o2,o3,o4,o5,o6⟩:=bc
   have zC:Tm.fzL x.e.vals+x.e.vals.length+x.e.d.fz+x.e.seen.length+4200=x.e.fz:=rfl
   obtain⟨pe,ie,bk⟩:=bz k x s hx bi
   obtain⟨a,b',c',gJ,li,cF,lS⟩:=x.e.d.cells_abc
   have Ay:AV.one x.e.vsl=true:=by unfold En.vsl V7;cases x.e.vnl<;>rfl
   have Az:x.row=[.int .i64 x.e.prop,.int .i64 x.e.gate,x.e.vsl,a,b',c',x.csl,ZI x.p,ZI x.i,x.e.ssl]:=by unfold Pr.row YX;rw[gJ];rfl
   have l7:Vf true 7 s (.ptr x.id 0)=some (.agg [.int .i64 x.e.prop,.int .i64 x.e.gate,x.e.vsl,a,b',c',x.csl]):=WE ((bi.2 _ aZ).trans (by rw[cW,Az])) rfl rfl
   have aA:[AV.int .i64 x.e.prop,.int .i64 x.e.gate,x.e.vsl,a,b',c',x.csl].all AV.one=true:=by
    simp only[QN,QW,Ay,li,cF,lS];rfl
   have bj:Vt 7 (s.new (.row [Z0,Z0,.nilsl,Z0,.nilsl,.nilsl,.nilsl])) (.ptr s.next 0) (.agg [.int .i64 x.e.prop,.int .i64 x.e.gate,x.e.vsl,a,b',c',x.csl])=some ((s.new (.row [Z0,Z0,.nilsl,Z0,.nilsl,.nilsl,.nilsl])).put s.next (.row [.int .i64 x.e.prop,.int .i64 x.e.gate,x.e.vsl,a,b',c',x.csl])):=VQ rfl rfl aA
   obtain⟨s1,cr⟩:∃ s1,s1=(s.new (.row [Z0,Z0,.nilsl,Z0,.nilsl,.nilsl,.nilsl])).put s.next (.row [.int .i64 x.e.prop,.int .i64 x.e.gate,x.e.vsl,a,b',c',x.csl]):=⟨_,rfl⟩
   rw[<-cr] at bj
   have n1:s1.next=s.next+1:=by rw[cr];rfl
   have k1:Vd s s1:=by rw[cr];exact(Vd.refl s).newput _ _
   have G1:s1.get s.next=some (.row [.int .i64 x.e.prop,.int .i64 x.e.gate,x.e.vsl,a,b',c',x.csl]):=by rw[cr,St.get_put,Qm rfl]
   obtain⟨sv,xv,s2,qP,k2,kb,nJ⟩:=fresh54_run x.e.vals x.e.gate cH (by omega) q Y (by omega) (fun _=>False) s1 x.e.vsl (Tm.cellsL x.e.vals) (slAV_SlR x.e.vnl x.e.vex x.e.vals o1 o2 _ s1) (Vy.line _ s1 x.e.vals o3) (fun _ h=>h.elim)
   have qP:((gT (q+1)).cg Y).fn 54 [.agg [.int .i64 x.e.gate,x.e.vsl]] s1=.ret (.agg [.int .i64 x.e.gate,sv]) s2:=qP
   obtain⟨cs,s3,pf,k3,xD⟩:=freshDeriv_run _ x.e.d (q+1) Y rfl (by omega) dk (fun _=>False) s2 x.e.d.cells (VU.line _ s2 x.e.d o4) (fun _ h=>h.elim)
   have oe:=xD.cells3
   rw[gJ] at pf
   have pf:((gT (q+1)).cg Y).fn 80 [.agg [a,b',c']] s2=.ret (.agg cs) s3:=pf
   have xE:VG [a,b',c'] [a,b',c']=true:=by rw[<-gJ];exact VU.beq x.e.d _ (VU.line (fun _=>False) s1 x.e.d o4)
   obtain⟨ca,cb,cc,rfl⟩:∃ ca cb cc,cs=[ca,cb,cc]:=by
    match cs,oe.1 with
    | [a,b,c],_=>exact⟨a,b,c,rfl⟩
   have G2:=(k2.2 s.next (by omega)).trans G1
   have G3:=(k3.2 s.next (by have:=k2.1;omega)).trans G2
   have e1:Vf true 2 s1 (.ptr s.next 1)=some (.agg [.int .i64 x.e.gate,x.e.vsl]):=WE G1 rfl rfl
   have e3:Vf true 3 s2 (.ptr s.next 3)=some (.agg [a,b',c']):=WE G2 rfl rfl
   have vg:Vf true 3 s1 (.ptr s.next 3)=some (.agg [a,b',c']):=WE G1 rfl rfl
   have osv:=kb.one
   have t1:Vt 2 s3 (.ptr s.next 1) (.agg [.int .i64 x.e.gate,sv])=some (s3.put s.next (.row [.int .i64 x.e.prop,.int .i64 x.e.gate,sv,a,b',c',x.csl])):=V4 G3 rfl rfl (by simp) (by show (AV.one (.int .i64 x.e.gate)&&(AV.one sv&&true))=true;rw[osv];rfl)
   have t2:Vt 3 (s3.put s.next (.row [.int .i64 x.e.prop,.int .i64 x.e.gate,sv,a,b',c',x.csl])) (.ptr s.next 3) (.agg [ca,cb,cc])=some ((s3.put s.next (.row [.int .i64 x.e.prop,.int .i64 x.e.gate,sv,a,b',c',x.csl])).put s.next (.row [.int .i64 x.e.prop,.int .i64 x.e.gate,sv,ca,cb,cc,x.csl])):=V4 (by rw[St.get_put,Qm rfl]) rfl rfl (by simp) oe.2
   obtain⟨s4,dW⟩:∃ s4,s4=(s3.put s.next (.row [.int .i64 x.e.prop,.int .i64 x.e.gate,sv,a,b',c',x.csl])).put s.next (.row [.int .i64 x.e.prop,.int .i64 x.e.gate,sv,ca,cb,cc,x.csl]):=⟨_,rfl⟩
   rw[<-dW] at t2
   have n4:s4.next=s3.next:=by rw[dW];rfl
   have vi:∀ j,j≠s.next->s4.get j=s3.get j:=fun j hj=>by rw[dW,St.get_put,Qe hj,St.get_put,Qe hj]
   have G4:s4.get s.next=some (.row [.int .i64 x.e.prop,.int .i64 x.e.gate,sv,ca,cb,cc,x.csl]):=by rw[dW,St.get_put,Qm rfl]
   have nn:=k2.1
   have Ca:=k3.1
   have k4:Vd s s4:=⟨by omega,fun j hj=>by rw[vi j (by omega),k3.2 j (by omega),k2.2 j (by omega),k1.2 j hj]⟩
   have A2:[AV.int .i64 x.e.prop,.int .i64 x.e.gate,sv,ca,cb,cc,x.csl].all AV.one=true:=by
    have h3:=oe.2
    simp only[QN,QW,Qy,Qd] at h3
    simp only[QN,QW,osv,h3.1,h3.2.1,h3.2.2];rfl
   have A3:Vf true 7 s4 (.ptr s.next 0)=some (.agg [.int .i64 x.e.prop,.int .i64 x.e.gate,sv,ca,cb,cc,x.csl]):=Wk G4 rfl
   have ct:=cnt7 (s:=s4) (y:=[.int .i64 x.e.prop,.int .i64 x.e.gate,sv,ca,cb,cc,x.csl]) rfl
   have fl:=fl7 (y:=[.int .i64 x.e.prop,.int .i64 x.e.gate,sv,ca,cb,cc,x.csl]) rfl
   obtain⟨s5,ap,n5,o5,od⟩:=bX.app (bytes:=120) bi.1 (by omega) (by omega) k4 (y:=[.int .i64 x.e.prop,.int .i64 x.e.gate,sv,ca,cb,cc,x.csl]) ⟨rfl,A2⟩
   have cK:∀ i,s.next<=i->¬ hO mv i:=fun i hi ⟨_,_,_,_,he⟩=>by
    rcases bX.2 with⟨h,_⟩|⟨oid,p1,p2,p3,_⟩
    ·rw[h] at he;cases he
    ·rw[p3] at he;injection he with h1;omega
   have qQ:∀ i,i < st.next->¬ hO mv i:=fun i hi ⟨_,_,_,_,he⟩=>by
    rcases bX.2 with⟨h,_⟩|⟨oid,p1,p2,p3,_⟩
    ·rw[h] at he;cases he
    ·rw[p3] at he;injection he with h1;omega
   have xF:=bi.1
   have k5:Vd st s5:=⟨by omega,fun j hj=>by rw[o5 j (by omega) (qQ j hj),k4.2 j (by omega),bi.2 j hj]⟩
   have cT:∀ i,i < s4.next->¬ hO (.own s4.next 0 (rows.length+1) 7 none (rows.length+1)) i:=fun i hi ⟨_,_,_,_,he⟩=>by injection he with h1;omega
   have Sold:Vs (fun i=>st.next<=i/\i < s.next/\¬ hO mv i) s s5:=fun i hi=>by rw[o5 i (by omega) hi.2.2,k4.2 i hi.2.1]
   have S25:Vs (fun i=>s1.next<=i/\i < s2.next) s2 s5:=fun i hi=>by rw[o5 i (by omega) (cK i (by omega)),vi i (by omega),k3.2 i hi.2]
   have S35:Vs (fun i=>s2.next<=i/\i < s3.next) s3 s5:=fun i hi=>by rw[o5 i (by omega) (cK i (by omega)),vi i (by omega)]
   have aU:=WC (i:=k) (by omega)
   rw[Qs aQ] at am
   obtain⟨J5,H5,O5_10⟩:∃ aa,ar (q+1) Y wg32_3 f s=.ok aa s/\aa.get 10=some (.bool true):=⟨_,by simp only[Rw,rQ,rA,q2,q3,wg32_3,am]<;>rfl,gh⟩
   have V5_7:=ag H5 q1
   have V5_9:=ag H5 q3
   obtain⟨J6,H6,O6_5⟩:∃ aa,ar (q+1) Y wg32_4 J5 s=.ok aa s/\aa.get 5=some (.ptr x.id 0):=⟨_,by simp only[Rw,rQ,rA,V5_7,V5_9,wg32_4,ie,bk]<;>rfl,gh⟩
   obtain⟨J7,H7,O7_6⟩:∃ aa,ar (q+1) Y wg32_5 J6 s=.ok aa s1/\aa.get 6=some (.ptr s.next 0):=⟨_,by simp only[Rw,rQ,rA,O6_5,wg32_5,Yq,RG,l7,bj]<;>rfl,gh⟩
   obtain⟨J8,H8,K8_⟩:∃ aa,VK ((gT (q+1)).cg Y) wg32_6 [(4,some 2),(4,some 5)] J7 s1=.ok aa s4/\Kp [3,7,8,9,10,5,6] J7 aa:=by
    refine⟨?r460,?r461,?r462⟩
    case r461=>
     refine KB (ak:=?r46i) ?r46x ?r46y ?r46z
     case r46x=>
      simp only[Rw,rQ,rA,WH,WU,DR.cons,V5,VJ,VT,O7_6,wg32_6,RG,e1,e3,vg,qP,pf,t1,t2]
      rfl
     case r46y=>rfl
     case r46z=>
      simp only[QN,QW,Qy,Qd]
      refine⟨Wo (i:=4) (k:=2) rfl rfl rfl rfl ?r46k0,Wo (i:=4) (k:=5) rfl rfl rfl rfl ?r46k1⟩
      case r46k0=>
       right
       refine⟨?r46s0,?r46l0,(by simp only[V8,xE])⟩
       case r46l0=>
        simp only[Rw,rQ,rA,V5,O7_6,wg32_6,RG,e1,e3,vg,qP,pf,t1,t2]
        rfl
      case r46k1=>
       right
       refine⟨?r46s1,?r46l1,(by simp only[V8,xE])⟩
       case r46l1=>
        simp only[Rw,rQ,rA,V5,O7_6,wg32_6,RG,e1,e3,vg,qP,pf,t1,t2]
        rfl
    case r462=>repeat (first | exact Kp.refl | refine Kp.set (by decide) ?_)
   have V8_3:=K8_.g 3 (ag H7 (ag H6 (ag H5 q4)))
   have V8_7:=K8_.g 7 (ag H7 (ag H6 V5_7))
   have V8_8:=K8_.g 8 (ag H7 (ag H6 (ag H5 q2)))
   have V8_9:=K8_.g 9 (ag H7 (ag H6 V5_9))
   have V8_6:=K8_.g 6 O7_6
   have W8:=K8_.1.trans (ad H7 (ad H6 (ad H5 d0)))
   obtain⟨J9,H9,O9_3⟩:∃ aa,ar (q+1) Y wg32_7 J8 s4=.ok aa s5/\aa.get 3=some (.own s4.next 0 (rows.length+1) 7 none (rows.length+1)):=⟨_,by simp only[Rw,rQ,rA,V8_3,V8_6,wg32_7,A3,fl,ct,ap,tag0]<;>rfl,gh⟩
   obtain⟨J10,H10,O10_9⟩:∃ aa,ar (q+1) Y wg32_8 J9 s5=.ok aa s5/\aa.get 9=some (ZI ((k+1))):=⟨_,by simp only[Rw,rQ,rA,(ag H9 V8_9),wg32_8,aU]<;>rfl,gh⟩
   have jt:ac (q+1) Y Tq none f s=.norm J10 s5:=by
    simp only[Rw,rQ,rA,Tq,Rx,R5,R6,R7,H5,H6,H7,H8,H9,H10,O5_10]
   rw[jt]
   exact⟨aQ,(ad H10 (ad H9 W8)),(ag H10 (ag H9 V8_7)),(ag H10 (ag H9 V8_8)),O10_9,k5,_,_,(ag H10 O9_3),od,by simp[fy],fun h=>absurd h (by simp),fun j y ys hj hr=>by
     by_cases A4:j < k
     ·rw[Xk (by omega)] at hr
      exact(jU j y ys hj hr).mono Sold fun i hi=>⟨hi.1,by omega,cT i (by omega)⟩
     ·by_cases og:j=k
      ·subst og
       rw[Xg (by omega),fy,ZJ] at hr
       rw[hx] at hj;injection hj with hj;subst hj
       simp only[Q0,Qa] at hr
       subst hr
       exact⟨sv,xv,[ca,cb,cc],rfl,kb.mono S25 fun i hi=>⟨by omega,by omega,cT i (by omega)⟩,Vy.mono S25 (fun i hi=>⟨by omega,by omega,cT i (by omega)⟩) _ _ nJ,VU.mono S35 (fun i hi=>⟨by omega,by omega,cT i (by omega)⟩) _ _ xD⟩
      ·rw[Za (by simp;omega)] at hr;cases hr⟩
  ·rw[Qp aQ] at am
   have ce:k=PS.length:=by omega
   obtain⟨J11,H11,O11_10⟩:∃ aa,ar (q+1) Y wg32_3 f s=.ok aa s/\aa.get 10=some (.bool false):=⟨_,by simp only[Rw,rQ,rA,q2,q3,wg32_3,am]<;>rfl,gh⟩
   have ga:ac (q+1) Y Tq none f s=.exit 0 J11 s:=by
    simp only[Rw,rQ,rA,Tq,Rx,R5,R6,R7,H11,O11_10]
   rw[ga]
   exact⟨_,_,mv,rows,rfl,(ad H11 d0),(ag H11 q4),bi,bX,by omega,hz,jU⟩
 obtain⟨fA12,fk⟩:∃ fA,fA=Vo 0 [ov] Fr.nil:=⟨_,rfl⟩
 have gA12_0:=R9 fk 0
 have dA12:fA12.ds=[]:=by rw[fk];rfl
 obtain⟨J13,H13⟩:∃ aa,ar (q+1) Y wg32_0 fA12 st=.ok aa st:=⟨_,by simp only[Rw,rQ,rA,wg32_0]<;>rfl⟩
 obtain⟨J14,H14,O14_3⟩:∃ aa,ar (q+1) Y wg32_1 J13 st=.ok aa st/\aa.get 3=some (.nilsl):=⟨_,by simp only[Rw,rQ,rA,wg32_1]<;>rfl,gh⟩
 obtain⟨J15,H15,O15_7,O15_8,O15_9⟩:∃ aa,ar (q+1) Y wg32_2 J14 st=.ok aa st/\aa.get 7=some (ov)/\aa.get 8=some (ZI PS.length)/\aa.get 9=some Z0:=⟨_,by simp only[Rw,rQ,rA,(ag H14 (ag H13 gA12_0)),wg32_2,bO]<;>rfl,gn (gn gh),gn gh,gh⟩
 obtain⟨FR,s',mv,rows,hL,dF,F3,k3,bX,fy,hz,jU⟩:=hL J15 (ad H15 (ad H14 (ad H13 dA12))) (ag H15 O14_3) O15_7 O15_8 O15_9
 obtain⟨J16,H16,O16_2⟩:∃ aa,ar (q+1) Y wg32_9 FR s'=.ok aa s'/\aa.get 2=some (mv):=⟨_,by simp only[Rw,rQ,rA,F3,wg32_9]<;>rfl,gh⟩
 refine⟨mv,rows,_,Ve (mf:=wf32) (fr:=J16) t32 rfl (.inl ?q16) (ad H16 dF) (by simp only[wf32,Rw,O16_2]),k3,bX.sln (by omega) (by omega),fy,fun j x ys hj hr=>(jU j x ys hj hr).mono (Vs.refl _ _) fun i hi=>⟨hi.1,hi.2.1⟩,fun h=>hz (XU.1 (by rw[fy,h];rfl))⟩
 case q16=>
  rw[<-fk]
  simp only[Rw,rQ,rA,wf32,Rx,R5,R6,R7,H13,H14,H15,hL,H16]
def wg10_0:List Vc:=[ZO 2 (.box true (.t 0)),ZM 4 (.c .nilsl),ZO 5 (.alloc [Z0,Z0,Z0]),ZM 6 (ZC 0)]
def wg10_1:List Vc:=[ZK 9 3 2,ZX 10 29 [(.t 9)],ZO 11 (.un .not (.t 10))]
def wg10_2:List Vc:=[ZO 12 (.build [Z0,Z0,Z0] []),ZM 4 (.c .nilsl),ZS 3 5 12,ZM 6 (ZC 300)]
def wg10_3:List Vc:=[ZK 13 3 2,ZV 14 1,ZX 15 30 [(.t 13),(.t 14)],ZO 16 (.un .not (.t 15))]
def wg10_4:List Vc:=[ZO 17 (.build [Z0,Z0,Z0] []),ZM 4 (.c .nilsl),ZS 3 5 17,ZM 6 (ZC 320)]
def wg10_5:List Vc:=[ZK 19 3 2,ZV 20 1,ZX 21 31 [(.t 19),(.t 20)],ZV 18 21,ZO 22 (.extract 0 (.t 18)),ZO 23 (.extract 1 (.t 18)),ZO 8 (.alloc [Z0,Z0,Z0]),ZV 7 22,ZS 3 8 23]
def wg10_6:List (Vc × Nat):=[(ZV 24 7,0),(ZX 25 32 [(.t 24)],1),(ZK 26 3 8,0),(ZV 4 25,3),(ZS 3 5 26,15),(ZM 6 (ZC 0),31)]
def wf10:Vm:=⟨27,(ZQ wg10_0 (.seq (ZQ wg10_1 (.cond (.t 11) (ZR wg10_2) .skip)) (.seq (ZQ wg10_3 (.cond (.t 16) (ZR wg10_4) .skip)) (ZQ wg10_5 (.seq (.draw wg10_6 [(2,some 1),(2,some 4)]) .ret))))),[.t 4,.cell 5 true 3,.t 6]⟩
theorem t10:Ry 10=some wf10:=by kernel_rfl
set_option maxHeartbeats 1000000 in
theorem merge10_run{F:Nat->Prop}{st:St}{lv pv jv:AV}{ls:List (List AV)}{ps:List Int}{N:Int}{js:List (AV × List En)}(hl:RB 1 F st lv ls)(hp:RE F st pv ps)(hj:YQ F st jv js)(hF:∀ i,F i->i < st.next)(hP:ps.length=ls.length)(hA:areB ls.length N js=true)(m:Nat)(Y:Vi)(hn:fzJ js+40000 < m)(bW:ls.length<=24)(bC:Rb ls.length ps N=true):
  ∃ af mv r,R (m+5) Y 10 [.agg [lv,pv,.int .i64 N],jv] st=.ret (.tuple [mv,.agg r,ZI 0]) af/\Vd st af ∧
   ((okM ls.length ps (Vq js)/\r=[Z0,Z0,Z0]/\∃ (PS:List Pr) (rows:List (List AV)),PS.map (fun x=>x.e.prop)=(Yb (Vq js)).2/\RB 7 (fun i=>st.next<=i/\i < af.next) af mv rows/\rows.length=PS.length/\(∀(j:Nat) (x:Pr) (ys:List AV),PS[j]?=some x->rows[j]?=some ys->MvR (fun i=>st.next<=i/\i < af.next) af x ys)/\∀ x∈PS,PrM (Vq js) st.next af x) ∨
    (¬ okM ls.length ps (Vq js)/\mv=.nilsl/\∃ kd p i:Nat,kd≠0/\r=[ZI kd,ZI p,ZI i])):=by
 have vj:=hA
 unfold areB at vj
 simp only[Qd,QF,QB] at vj
 obtain⟨⟨au,oX⟩,mi⟩:=vj
 obtain⟨s0,dP⟩:∃ s0,s0=st.new (.row [Z0,Z0,Z0]):=⟨_,rfl⟩
 have n0:s0.next=st.next+1:=by rw[dP];rfl
 have k0:Vd st s0:=by rw[dP];exact Vd.new st _
 have g0:s0.get st.next=some (.row [Z0,Z0,Z0]):=by rw[dP,St.get_new,Qm rfl]
 have S0:=Vs.of k0 hF
 have A5:∀ i,F i->i < s0.next:=fun i hi=>by have:=hF i hi;omega
 have d3:=hl.mono S0 fun _ h=>h
 have wE:=hp.mono S0 fun _ h=>h
 have Cb:ps.length<=24:=by omega
 have xG:((gT (m+4)).cg Y).fn 29 [.agg [lv,pv,.int .i64 N]] s0=.ret (.bool true) (s0.new (.row [lv,pv,.int .i64 N])):=by
  have:=layout_run (n:=m) (Y:=Y) (N:=N) d3 wE A5 (by omega)
  rw[bC] at this;exact this
 have k1:Vd s0 (s0.new (.row [lv,pv,.int .i64 N])):=Vd.new s0 _
 have n1:(s0.new (.row [lv,pv,.int .i64 N])).next=s0.next+1:=rfl
 generalize s0.new (.row [lv,pv,.int .i64 N])=s1 at xG k1 n1
 have S1:=Vs.of (k0.trans k1) hF
 have jV:∀ i,F i->i < s1.next:=fun i hi=>by have:=hF i hi;omega
 obtain⟨s2,vo,k2⟩:=journals_run (hl.mono S1 fun _ h=>h) (hj.mono S1 fun _ h=>h) jV (m+2) Y (by omega) hA
 have vo:((gT (m+4)).cg Y).fn 30 [.agg [lv,pv,.int .i64 N],jv] s1=.ret (.bool true) s2:=vo
 have n2:=k2.1
 have S2:=Vs.of ((k0.trans k1).trans k2) hF
 have nt:∀ i,F i->i < s2.next:=fun i hi=>by have:=hF i hi;omega
 obtain⟨s3,ov,r,rT,k3,hM⟩:=merge_run (hl.mono S2 fun _ h=>h) (hp.mono S2 fun _ h=>h) (hj.mono S2 fun _ h=>h) nt hP hA (m+1) Y (by omega) bW
 have rT:((gT (m+4)).cg Y).fn 31 [.agg [lv,pv,.int .i64 N],jv] s2=.ret (.tuple [ov,.agg r]) s3:=rT
 have n3:=k3.1
 obtain⟨ra,rb,rc,hr⟩:∃ ra rb rc:Int,r=[.int .i64 ra,.int .i64 rb,.int .i64 rc]:=by
  rcases hM with⟨_,h,_⟩|⟨_,_,_,_,_,_,h⟩<;>exact⟨_,_,_,h⟩
 rw[hr] at rT
 have bj:Vt 3 (s3.new (.row [Z0,Z0,Z0])) (.ptr s3.next 0) (.agg [.int .i64 ra,.int .i64 rb,.int .i64 rc])=some ((s3.new (.row [Z0,Z0,Z0])).put s3.next (.row [.int .i64 ra,.int .i64 rb,.int .i64 rc])):=VQ rfl rfl rfl
 obtain⟨s4,dW⟩:∃ s4,s4=(s3.new (.row [Z0,Z0,Z0])).put s3.next (.row [.int .i64 ra,.int .i64 rb,.int .i64 rc]):=⟨_,rfl⟩
 rw[<-dW] at bj
 have n4:s4.next=s3.next+1:=by rw[dW];rfl
 have k4:Vd s3 s4:=by rw[dW];exact(Vd.refl s3).newput _ _
 have g4:s4.get s3.next=some (.row [.int .i64 ra,.int .i64 rb,.int .i64 rc]):=by rw[dW,St.get_put,Qm rfl]
 -- the moves
 obtain⟨PS,gK,gL,mz⟩:∃ PS:List Pr,JU s2.next s3 ov PS/\(∀ x∈PS,PrM (Vq js) s2.next s3 x)/\((okM ls.length ps (Vq js)/\r=[Z0,Z0,Z0]/\PS.map (fun x=>x.e.prop)=(Yb (Vq js)).2)\/(¬ okM ls.length ps (Vq js)/\ov=.nilsl/\PS=[]/\∃ kd p i:Nat,kd≠0/\r=[ZI kd,ZI p,ZI i])):=by
  rcases hM with⟨h1,h2,PS,h3,h4,h5⟩|⟨h1,h2,h3⟩
  ·exact⟨PS,h4,h5,.inl ⟨h1,h2,h3⟩⟩
  ·exact⟨[],.inl ⟨h2,rfl⟩,fun x hx=>by simp at hx,.inr ⟨h1,h2,rfl,h3⟩⟩
 have nU:JU s2.next s4 ov PS:=gK.keep (fun j _ h=>k4.2 j h) k4.1
 have gv:∀ x∈PS,(∃ q∈js,x.e∈q.2)/\En.good ls.length x.e=true/\x.e.ok:=fun x hx=>by
  have h1:(x.p,x.i,x.e)∈Vq js:=X9 (gL x hx).1
  unfold Vq at h1
  obtain⟨y,hy,j0⟩:=QO.1 h1
  have bd:y.1∈js:=by
   have ir:=XF hy
   rw[ir.2.2];exact Xu _
  unfold row at j0
  obtain⟨u,hu,ux⟩:=Q6.1 j0
  have di:u.1∈y.1.2:=by
   have nK:=XF hu
   rw[nK.2.2];exact Xu _
  have he:x.e=u.1:=by injection ux with _ h;injection h with _ h;exact h.symm
  rw[he]
  exact⟨⟨y.1,bd,di⟩,mi y.1 bd u.1 di,(hj.2 y.1 bd).2 u.1 di⟩
 have A6:PS.length<=4000:=by
  rcases mz with⟨h1,h2,h3⟩|⟨_,_,h,_⟩
  ·have h4:=Xn List.length h3
   rw[Qu] at h4
   have vp:∀ l:List En,(V6 l).length<=l.length:=fun l=>by
    induction l using JS with
    | nil=>simp[V6]
    | snoc l x ih=>
     rw[Yp]
     split
     ·simp;omega
     ·simp;omega
   have A7:YP (RA (Vq js)):=h1.1.fitE fun z hz=>by
    unfold Vq at hz
    obtain⟨y,hy,j0⟩:=QO.1 hz
    have bd:y.1∈js:=by
     have ir:=XF hy
     rw[ir.2.2];exact Xu _
    unfold row at j0
    obtain⟨u,hu,rfl⟩:=Q6.1 j0
    have di:u.1∈y.1.2:=by
     have nK:=XF hu
     rw[nK.2.2];exact Xu _
    have hg:=mi y.1 bd u.1 di
    unfold En.good at hg
    simp only[Qd,QF] at hg
    exact⟨((Tb _).1 hg.1.1.1.1.1.1).1,hg.1.2⟩
   have lW:=(UL A7 (Wn (V6 (RA (Vq js)))).length (Wn (V6 (RA (Vq js)))) [] (by rw[QG];exact(WA _).nodup_iff.2 (Wu _)) (Y9.nil _) (YB.nil _)).2.2.length_eq
   rw[QG,QJ] at lW
   have h7:(Yb (Vq js)).1.length+(Yb (Vq js)).2.length=(Wn (V6 (RA (Vq js)))).length:=lW
   have h8:=(WA (V6 (RA (Vq js)))).length_eq
   have h5:=vp (RA (Vq js))
   rw[spots_len] at h5
   omega
  ·rw[h];simp
 obtain⟨mv,rows,s5,qR,k5,vq,fy,jU,iT⟩:=moves32_run nU (fun x hx=>by
  obtain⟨_,hg,bc⟩:=gv x hx
  obtain⟨_,_,p3,_,_,_,p7,_⟩:=gL x hx
  unfold En.good valsB at hg
  simp only[Qd,QF] at hg
  exact⟨(k4.2 _ p7).trans p3,by omega,bc,SF hg.1.1.1.2.2,hg.1.1.1.2.1,((isDv_iff _).1 hg.1.1.2).1⟩) A6 (m+3) Y (by omega) (fun x hx=>by
  obtain⟨⟨q,hq,gI⟩,_,_⟩:=gv x hx
  have:=Pq hq gI
  omega)
 have qR:((gT (m+4)).cg Y).fn 32 [ov] s4=.ret mv s5:=qR
 have l8:Vf true 3 s5 (.ptr s3.next 0)=some (.agg [.int .i64 ra,.int .i64 rb,.int .i64 rc]):=Wk ((k5.2 _ (by omega)).trans g4) rfl
 have vr:Vf true 3 s4 (.ptr s3.next 0)=some (.agg [.int .i64 ra,.int .i64 rb,.int .i64 rc]):=Wk g4 rfl
 have n5:=k5.1
 have g5:s5.get st.next=some (.row [Z0,Z0,Z0]):=by rw[k5.2 _ (by omega),k4.2 _ (by omega),k3.2 _ (by omega),k2.2 _ (by omega),k1.2 _ (by omega)];exact g0
 have t5:Vt 3 s5 (.ptr st.next 0) (.agg [.int .i64 ra,.int .i64 rb,.int .i64 rc])=some (s5.put st.next (.row [.int .i64 ra,.int .i64 rb,.int .i64 rc])):=V4 g5 rfl rfl (by simp) rfl
 obtain⟨s6,gN⟩:∃ s6,s6=s5.put st.next (.row [.int .i64 ra,.int .i64 rb,.int .i64 rc]):=⟨_,rfl⟩
 rw[<-gN] at t5
 have n6:s6.next=s5.next:=by rw[gN];rfl
 have o6:∀ j,j≠st.next->s6.get j=s5.get j:=fun j hj=>by rw[gN,St.get_put,Qe hj]
 have ldr:Vf true 3 s6 (.ptr st.next 0)=some (.agg [.int .i64 ra,.int .i64 rb,.int .i64 rc]):=Wk (by rw[gN,St.get_put,Qm rfl]) rfl
 have kk:Vd st s6:=⟨by omega,fun j hj=>by rw[o6 j (by omega),k5.2 j (by omega),k4.2 j (by omega),k3.2 j (by omega),k2.2 j (by omega),k1.2 j (by omega),k0.2 j hj]⟩
 have S56:Vs (fun i=>s4.next<=i/\i < s5.next) s5 s6:=fun i hi=>o6 i (by omega)
 have hW:∀ i,(s4.next<=i/\i < s5.next)->(st.next<=i/\i < s6.next):=fun i hi=>⟨by omega,by omega⟩
 have dv:(okM ls.length ps (Vq js)/\[AV.int .i64 ra,.int .i64 rb,.int .i64 rc]=[Z0,Z0,Z0]/\∃ (PS:List Pr) (rows:List (List AV)),PS.map (fun x=>x.e.prop)=(Yb (Vq js)).2/\RB 7 (fun i=>st.next<=i/\i < s6.next) s6 mv rows/\rows.length=PS.length/\(∀(j:Nat) (x:Pr) (ys:List AV),PS[j]?=some x->rows[j]?=some ys->MvR (fun i=>st.next<=i/\i < s6.next) s6 x ys)/\∀ x∈PS,PrM (Vq js) st.next s6 x) ∨
    (¬ okM ls.length ps (Vq js)/\mv=.nilsl/\∃ kd p i:Nat,kd≠0/\[AV.int .i64 ra,.int .i64 rb,.int .i64 rc]=[ZI kd,ZI p,ZI i]):=by
  rw[<-hr]
  rcases mz with⟨h1,h2,h3⟩|⟨h1,h2,h3,h4⟩
  ·refine .inl ⟨h1,h2,PS,rows,h3,vq.mono S56 hW,fy,fun j x ys fN fx=>(jU j x ys fN fx).mono S56 hW,fun x hx=>?_⟩
   obtain⟨p1,p2,p3,p4,p5,p6,p7,p8⟩:=gL x hx
   exact⟨p1,p2,by rw[o6 _ (by omega),k5.2 _ (by omega),k4.2 _ p7];exact p3,by rw[o6 _ (by omega),k5.2 _ (by omega),k4.2 _ p8];exact p4,by omega,by omega,by omega,by omega⟩
  ·refine .inr ⟨h1,?_,h4⟩
   exact iT h3
 obtain⟨fA4,fG⟩:∃ fA,fA=Vo 0 [.agg [lv,pv,.int .i64 N],jv] Fr.nil:=⟨_,rfl⟩
 have gA4_0:=R9 fG 0
 have gA4_1:=R9 fG 1
 have dA4:fA4.ds=[]:=by rw[fG];rfl
 obtain⟨J5,H5,O5_2,O5_4,O5_5,O5_6⟩:∃ aa,ar (m+4) Y wg10_0 fA4 st=.ok aa s0/\aa.get 2=some (.fptr [lv,pv,.int .i64 N] 0)/\aa.get 4=some (.nilsl)/\aa.get 5=some (.ptr st.next 0)/\aa.get 6=some Z0:=⟨_,by simp only[Rw,rQ,rA,gA4_0,wg10_0,dP]<;>rfl,gn (gn (gn gh)),gn (gn gh),gn gh,gh⟩
 obtain⟨J6,H6,O6_11⟩:∃ aa,ar (m+4) Y wg10_1 J5 s0=.ok aa s1/\aa.get 11=some (.bool false):=⟨_,by simp only[Rw,rQ,rA,O5_2,wg10_1,Jh,xG,WN,Qc,Qc,Qb]<;>rfl,gh⟩
 have V6_1:=ag H6 (ag H5 gA4_1)
 have V6_2:=ag H6 O5_2
 obtain⟨J7,H7,O7_16⟩:∃ aa,ar (m+4) Y wg10_3 J6 s1=.ok aa s2/\aa.get 16=some (.bool false):=⟨_,by simp only[Rw,rQ,rA,V6_1,V6_2,wg10_3,Jh,vo,WN,Qc,Qc,Qb]<;>rfl,gh⟩
 obtain⟨J8,H8,O8_7,O8_8⟩:∃ aa,ar (m+4) Y wg10_5 J7 s2=.ok aa s4/\aa.get 7=some (ov)/\aa.get 8=some (.ptr s3.next 0):=⟨_,by simp only[Rw,rQ,rA,(ag H7 V6_1),(ag H7 V6_2),wg10_5,Jh,rT,extract0,extract1,bj]<;>rfl,gh,gn gh⟩
 have V8_5:=ag H8 (ag H7 (ag H6 O5_5))
 obtain⟨J9,H9,K9,O9_4,O9_6⟩:∃ aa,VK ((gT (m+4)).cg Y) wg10_6 [(2,some 1),(2,some 4)] J8 s4=.ok aa s6/\Kp [0,1,2,5,11,16,7,8] J8 aa/\aa.get 4=some (mv)/\aa.get 6=some Z0:=by
  refine⟨?r610,?r611,?r612,?r61o4,?r61o6⟩
  case r611=>
   refine KB (ak:=?r61i) ?r61x ?r61y ?r61z
   case r61x=>
    simp only[Rw,rQ,rA,WH,WU,DR.cons,V5,VJ,VT,V8_5,O8_7,O8_8,wg10_6,qR,l8,vr,t5]
    rfl
   case r61y=>rfl
   case r61z=>
    simp only[QN,QW,Qy,Qd]
    refine⟨Wo (i:=2) (k:=1) rfl rfl rfl rfl ?r61k0,Wo (i:=2) (k:=4) rfl rfl rfl rfl ?r61k1⟩
    case r61k0=>
     right
     refine⟨?r61s0,?r61l0,(avBeq3 _ _ _)⟩
     case r61l0=>
      simp only[Rw,rQ,rA,V5,V8_5,O8_7,O8_8,wg10_6,qR,l8,vr,t5]
      rfl
    case r61k1=>
     right
     refine⟨?r61s1,?r61l1,(avBeq3 _ _ _)⟩
     case r61l1=>
      simp only[Rw,rQ,rA,V5,V8_5,O8_7,O8_8,wg10_6,qR,l8,vr,t5]
      rfl
  case r612=>repeat (first | exact Kp.refl | refine Kp.set (by decide) ?_)
  case r61o4=>simp only[Fr.get_set,rQ,↓reduceIte]
  case r61o6=>simp only[Fr.get_set,rQ,↓reduceIte]
 have V9_5:=K9.g 5 V8_5
 have W9:=K9.1.trans (ad H8 (ad H7 (ad H6 (ad H5 dA4))))
 refine⟨_,mv,[.int .i64 ra,.int .i64 rb,.int .i64 rc],Ve (mf:=wf10) (fr:=J9) t10 rfl (.inl ?q9) W9 (by simp only[wf10,Rw,O9_4,O9_6,V9_5,ldr]),kk,dv⟩
 case q9=>
  rw[<-fG]
  simp only[Rw,rQ,rA,wf10,Rx,R5,R6,R7,H5,H6,H7,H8,H9,O6_11,O7_16]
end
noncomputable section
open Nat renaming reduceEqDiff -> rQ, reduceAdd -> rA
theorem ens_spots(js:List (AV × List En)):RA (Vq js)=VH js:=by
 unfold RA Vq VH
 have h1:∀(p:Nat) (l:List En),(row p l).map (fun z=>z.2.2)=l:=fun p l=>by
  unfold row
  rw[Xq]
  have h:∀(l:List En) (k:Nat),(l.zipIdx k).map ((fun z:Nat × Nat × En=>z.2.2) ∘ fun x=>(p,x.2,x.1))=l:=fun l=>by
   induction l with
   | nil=>intro k;rfl
   | cons a l ih=>intro k;simp only[Zd,Q4,ih];rfl
  exact h l 0
 have h2:∀(l:List (AV × List En)) (k:Nat),((l.zipIdx k).flatMap fun x=>row x.2 x.1.2).map (fun z=>z.2.2)=l.flatMap (·.2):=fun l=>by
  induction l with
  | nil=>intro k;rfl
  | cons a l ih=>intro k;simp only[Zd,Xa,QQ,h1,ih]
 exact h2 js 0
def wg3_0:List Vc:=[ZO 2 (.box true (.t 0)),ZM 4 (ZB false)]
def wg3_1:List Vc:=[ZX 21 6 [],ZO 22 (.un .not (.t 21))]
def wg3_2:List Vc:=[ZM 4 (ZB false)]
def wg3_3:List Vc:=[ZV 23 1,ZX 24 7 [(.t 23)],ZO 25 (.un .not (.t 24)),ZV 26 25,ZG 27 (.load true 3 (.t 2)) 26 false,ZG 28 (.call (.c (.func (.func 8) [] [])) [(.t 27)]) 26 false,ZG 29 (.un .not (.t 28)) 26 false,ZO 30 (.pick (.t 26) (ZB true) (.t 29)),ZV 31 30,ZG 32 (.load true 3 (.t 2)) 31 false,ZG 33 (.mv (.t 1)) 31 false,ZG 34 (.call (.c (.func (.func 9) [] [])) [(.t 32),(.t 33)]) 31 false,ZG 35 (.un .not (.t 34)) 31 false,ZO 36 (.pick (.t 31) (ZB true) (.t 35))]
def wg3_4:List Vc:=[ZM 4 (ZB true)]
def wg3_5:List Vc:=[ZK 38 3 2,ZV 39 1,ZX 40 10 [(.t 38),(.t 39)],ZV 37 40,ZO 41 (.extract 0 (.t 37)),ZO 42 (.extract 1 (.t 37)),ZO 43 (.extract 2 (.t 37)),ZO 6 (.alloc [Z0,Z0,Z0]),ZV 5 41,ZS 3 6 42,ZV 7 43]
def wg3_6:List Vc:=[ZV 44 7,ZO 45 (.bin false .neq (.t 44) (ZC 0)),ZV 46 45,ZG 47 (.faddr 0 (.t 6)) 46 false,ZG 48 (.load false 1 (.t 47)) 46 false,ZG 49 (.bin false .neq (.t 48) (ZC 0)) 46 false,ZO 50 (.pick (.t 46) (ZB true) (.t 49))]
def wg3_7:List Vc:=[ZV 51 7,ZO 52 (.bin false .eql (.t 51) (ZC 0)),ZV 53 52,ZG 54 (.mv (.t 5)) 53 true,ZG 55 (.len 0 (.t 54)) 53 true,ZG 56 (.bin false .eql (.t 55) (ZC 0)) 53 true,ZO 57 (.pick (.t 53) (.t 56) (ZB false)),ZV 4 57]
def wg3_8:List Vc:=[ZA 58 0 2,ZL 59 58,ZN 60 59,ZO 61 (.mksl 8 1 [Z0] (.t 60) (.t 60)),ZV 8 61]
def wg3_9:List Vc:=[ZV 62 5,ZN 63 62,ZM 64 (ZC 0)]
def wg3_10:List Vc:=[ZO 65 (.bin false .lss (.t 64) (.t 63))]
def wg3_11:List Vc:=[ZP 66 7 62 64,ZK 67 7 66,ZO 10 (.alloc [Z0,Z0,.nilsl,Z0,.nilsl,.nilsl,.nilsl]),ZS 7 10 67]
def wg3_12:List Vc:=[ZA 68 6 10,ZL 69 68,ZN 70 69,ZM 71 (ZC 0)]
def wg3_13:List Vc:=[ZO 72 (.bin false .lss (.t 71) (.t 70))]
def wg3_14:List Vc:=[ZP 73 2 69 71,ZK 74 2 73,ZO 12 (.alloc [Z0,Z0]),ZS 2 12 74]
def wg3_15:List (Vc × Nat):=[(ZA 75 0 12,0),(ZL 76 75,1),(ZO 77 (.bin false .lss (.t 76) (ZC 0)),3),(ZV 78 77,7),(ZG 79 (.faddr 0 (.t 12)) 78 false,15),(ZG 80 (.load false 1 (.t 79)) 78 false,31),(ZG 81 (.mv (.t 8)) 78 false,15),(ZG 82 (.len 0 (.t 81)) 78 false,79),(ZG 83 (.bin false .geq (.t 80) (.t 82)) 78 false,255),(ZO 84 (.pick (.t 78) (ZB true) (.t 83)),511),(ZV 85 84,1023),(ZG 86 (.faddr 1 (.t 12)) 85 false,2047),(ZG 87 (.load false 1 (.t 86)) 85 false,4095),(ZG 88 (.mv (.t 8)) 85 false,2047),(ZG 89 (.faddr 0 (.t 12)) 85 false,2047),(ZG 90 (.load false 1 (.t 89)) 85 false,18431),(ZG 91 (.iaddr 1 (.t 88) (.t 90)) 85 false,59391),(ZG 92 (.load false 1 (.t 91)) 85 false,124927),(ZG 93 (.bin false .neq (.t 87) (.t 92)) 85 false,262143),(ZO 94 (.pick (.t 85) (ZB true) (.t 93)),524287)]
def wg3_16:List Vc:=[ZM 4 (ZB false)]
def wg3_17:List Vc:=[ZO 95 (.bin false .add (.t 71) (ZC 1)),ZV 71 95]
def wg3_18:List Vc:=[ZV 96 1,ZN 97 96,ZM 98 (ZC 0)]
def wg3_19:List Vc:=[ZO 99 (.bin false .lss (.t 98) (.t 97))]
def wg3_20:List Vc:=[ZP 100 1 96 98,ZL 101 100,ZV 14 101]
def wg3_21:List Vc:=[ZV 102 14,ZN 103 102,ZM 104 (ZC 0)]
def wg3_22:List Vc:=[ZO 105 (.bin false .lss (.t 104) (.t 103))]
def wg3_23:List Vc:=[ZP 106 9 102 104,ZK 107 9 106,ZO 16 (.alloc [Z0,Z0,Z0,Z0,.nilsl,Z0,.nilsl,.nilsl,.nilsl]),ZS 9 16 107]
def wg3_24:List Vc:=[ZA 108 2 16,ZL 109 108,ZA 110 0 10,ZL 111 110,ZO 112 (.bin false .neq (.t 109) (.t 111))]
def wg3_25:List Vc:=[ZA 113 8 16,ZL 114 113,ZN 115 114,ZM 116 (ZC 0)]
def wg3_26:List Vc:=[ZO 117 (.bin false .lss (.t 116) (.t 115))]
def wg3_27:List Vc:=[ZV 118 116,ZP 119 1 114 116,ZL 120 119,ZV 17 118,ZV 18 120]
def wg3_28:List Vc:=[ZV 121 18,ZV 122 8,ZV 123 17,ZP 124 1 122 123,ZL 125 124,ZO 126 (.bin false .gtr (.t 121) (.t 125)),ZV 127 126,ZG 128 (.mv (.t 1)) 127 true,ZG 129 (.mv (.t 17)) 127 true,ZG 130 (.call (.c (.func (.func 11) [] [])) [(.t 128),(.t 129)]) 127 true,ZG 131 (.mv (.t 18)) 127 true,ZG 132 (.bin false .geq (.t 130) (.t 131)) 127 true,ZO 133 (.pick (.t 127) (.t 132) (ZB false))]
def wg3_29:List Vc:=[ZM 4 (ZB false)]
def wg3_30:List Vc:=[ZO 134 (.bin false .add (.t 116) (ZC 1)),ZV 116 134]
def wg3_31:List Vc:=[ZO 135 (.bin false .add (.t 104) (ZC 1)),ZV 104 135]
def wg3_32:List Vc:=[ZO 136 (.bin false .add (.t 98) (ZC 1)),ZV 98 136]
def wg3_33:List Vc:=[ZA 137 6 10,ZL 138 137,ZN 139 138,ZM 140 (ZC 0)]
def wg3_34:List Vc:=[ZO 141 (.bin false .lss (.t 140) (.t 139))]
def wg3_35:List Vc:=[ZP 142 2 138 140,ZK 143 2 142,ZO 20 (.alloc [Z0,Z0]),ZS 2 20 143]
def wg3_36:List Vc:=[ZV 144 8,ZA 145 0 20,ZL 146 145,ZP 147 1 144 146,ZL 148 147,ZO 149 (.bin false .add (.t 148) (ZC 1)),ZP 150 1 144 146,ZS 1 150 149]
def wg3_37:List Vc:=[ZO 151 (.bin false .add (.t 140) (ZC 1)),ZV 140 151]
def wg3_38:List Vc:=[ZO 152 (.bin false .add (.t 64) (ZC 1)),ZV 64 152]
def wg3_39:List Vc:=[ZM 4 (ZB true)]
def wl3_0:Vn:=(ZQ wg3_34 (.seq (.cond (.t 141) .skip (.exit 10)) (.seq (.block 11 (ZQ wg3_35 (.region wg3_36))) (.region wg3_37))))
def wl3_1:Vn:=(ZQ wg3_26 (.seq (.cond (.t 117) .skip (.exit 8)) (.seq (.block 9 (ZQ wg3_27 (ZQ wg3_28 (.cond (.t 133) (ZR wg3_29) .skip)))) (.region wg3_30))))
def wl3_2:Vn:=(ZQ wg3_22 (.seq (.cond (.t 105) .skip (.exit 6)) (.seq (.block 7 (ZQ wg3_23 (.seq (ZQ wg3_24 (.cond (.t 112) (.exit 7) .skip)) (ZQ wg3_25 (.block 8 (.loop wl3_1)))))) (.region wg3_31))))
def wl3_3:Vn:=(ZQ wg3_19 (.seq (.cond (.t 99) .skip (.exit 4)) (.seq (.block 5 (ZQ wg3_20 (ZQ wg3_21 (.block 6 (.loop wl3_2))))) (.region wg3_32))))
def wl3_4:Vn:=(ZQ wg3_13 (.seq (.cond (.t 72) .skip (.exit 2)) (.seq (.block 3 (ZQ wg3_14 (.seq (.draw wg3_15 []) (.cond (.t 94) (ZR wg3_16) .skip)))) (.region wg3_17))))
def wl3_5:Vn:=(ZQ wg3_10 (.seq (.cond (.t 65) .skip (.exit 0)) (.seq (.block 1 (ZQ wg3_11 (.seq (ZQ wg3_12 (.block 2 (.loop wl3_4))) (.seq (ZQ wg3_18 (.block 4 (.loop wl3_3))) (ZQ wg3_33 (.block 10 (.loop wl3_0))))))) (.region wg3_38))))
def wf3:Vm:=⟨153,(ZQ wg3_0 (.seq (ZQ wg3_1 (.cond (.t 22) (ZR wg3_2) .skip)) (.seq (ZQ wg3_3 (.cond (.t 36) (ZR wg3_4) .skip)) (ZQ wg3_5 (.seq (ZQ wg3_6 (.cond (.t 50) (ZR wg3_7) .skip)) (ZQ wg3_8 (.seq (ZQ wg3_9 (.block 0 (.loop wl3_5))) (ZR wg3_39)))))))),[.t 4]⟩
theorem t3:Ry 3=some wf3:=by kernel_rfl
theorem b77:Nat.beq 7 7=true:=rfl
theorem b55:Nat.beq 5 5=true:=rfl
end
open Nat renaming reduceEqDiff -> rQ, reduceAdd -> rA
theorem abody_of{Γ:RC}{n:Nat}{DF:Nat->List AV->St->DM->Option (DM × St)}{mf:Vm}{Y:Vi}{args:List AV}{st af:St}{fr:Fr}{v:AV}(aR:args.length.ble mf.N=true)
  (h:Vh Γ Y n mf.code none (Vo 0 args Fr.nil) st=.ret fr af\/Vh Γ Y n mf.code none (Vo 0 args Fr.nil) st=.norm fr af) (hd:fr.ds=[]) (hr:Vg fr af mf.res=.ret v af):
  WK Γ Y n DF mf args st=.ret v af:=by
 unfold WK
 rw[aR]
 rcases h with h | h<;>simp only[Qi,h,WY,hd,VO,hr]
theorem extr0(a b c:AV):WJ 0 (.tuple [a,b,c])=some a:=rfl
theorem extr1(a b c:AV):WJ 1 (.tuple [a,b,c])=some b:=rfl
theorem extr2(a b c:AV):WJ 2 (.tuple [a,b,c])=some c:=rfl
theorem good_of{k:Nat}{N:Int}{js:List (AV × List En)}(hA:areB k N js=true):tot js<=4000/\(∀ p∈js,∀ e∈p.2,e.seen.length=k)/\∀ e∈VH js,0<=e.leaf:=by
 unfold areB at hA
 simp only[Qd,QF,QB] at hA
 obtain⟨⟨_,au⟩,oX⟩:=hA
 have hg:∀ p∈js,∀ e∈p.2,e.seen.length=k/\0<=e.leaf:=fun p hp e he=>by
  have hg:=oX p hp e he
  unfold En.good at hg
  simp only[Qd,QF] at hg
  exact⟨hg.1.2,((Tb _).1 hg.1.1.1.1.1.1).1⟩
 refine⟨au,fun p hp e he=>(hg p hp e he).1,fun e he=>?_⟩
 unfold VH at he
 obtain⟨p,hp,he⟩:=QO.1 he
 exact(hg p hp e he).2
def SW(l:List En)(e:En):En:=match l.find? (fun z=>z.prop==e.prop) with
 | some z=>z
 | none=>e
def kE(k:Nat)(ps:List Int)(l:List En)(p:Nat)(e:En):Nat:=
 bif decide (e.leaf>=k)||!(ps.getD e.leaf.toNat 0==(p:Int)) then 1 else
 bif (l.any fun z=>z.prop==e.prop&&z.leaf==e.leaf)||!YT e (SW l e)||!decide (e.seen=(SW l e).seen) then 2 else
 bif !(e.ver==(VF l e.leaf:Int))||!(e.ver==e.seen.getD e.leaf.toNat 0) then 3 else 0
theorem firstE_ens(d:List Sp)(e:En):Wg d e=SW (RA d) e:=by
 unfold Wg SW RA
 rw[List.find?_map]
 show _=match (d.find? fun z=>z.2.2.prop==e.prop).map (fun z=>z.2.2) with
  | some z=>z
  | none=>e
 cases d.find? (fun z=>z.2.2.prop==e.prop)<;>rfl
theorem kindAt_kE(k:Nat)(ps:List Int)(d:List Sp)(x:Sp):Wp k ps d x=kE k ps (RA d) x.1 x.2.2:=by
 unfold Wp kE
 rw[firstE_ens]
 have:(d.any fun z=>z.2.2.prop==x.2.2.prop&&z.2.2.leaf==x.2.2.leaf)=((RA d).any fun z=>z.prop==x.2.2.prop&&z.leaf==x.2.2.leaf):=by
  unfold RA;rw[List.any_map];rfl
 rw[this]
def Pd(k:Nat)(ps:List Int):List En->List (Nat × En)->Prop
 | _,[]=>True
 | l,y::r=>kE k ps l y.1 y.2=0/\Pd k ps (l++[y.2]) r
theorem Pc(k:Nat)(ps:List Int):∀(a b:List (Nat × En)) (l:List En),Pd k ps l (a++b) ↔ Pd k ps l a/\Pd k ps (l++a.map (·.2)) b
 | [],b,l=>by simp[Pd]
 | y::a,b,l=>by
  simp only[QP,Pd,Pc k ps a b,Q4,Xb,QP,QR,and_assoc]
def pe(d:List Sp):List (Nat × En):=d.map fun z=>(z.1,z.2.2)
theorem pe_ens(d:List Sp):(pe d).map (·.2)=RA d:=by unfold pe RA;rw[Xq];rfl
theorem Px(k:Nat)(ps:List Int)(d:List Sp):KC k ps d ↔ Pd k ps [] (pe d):=by
 induction d using JS with
 | nil=>exact⟨fun _=>trivial,fun _=>KC.nil k ps⟩
 | snoc d x ih=>
  have h1:pe (d++[x])=pe d++[(x.1,x.2.2)]:=by simp[pe]
  rw[h1,Pc,QR,pe_ens]
  simp only[Pd,ZW]
  rw[<-kindAt_kE,<-ih]
  exact⟨fun h=>⟨h.pre,h d x [] (by simp)⟩,fun h=>h.1.snoc h.2⟩
theorem Pf{k:Nat}{ps:List Int}{l:List En}{p:Nat}{e:En}(h:kE k ps l p e=0):
  (∀ z∈l,z.prop=e.prop->z.leaf≠e.leaf)/\YT e (SW l e)=true/\e.ver=(VF l e.leaf:Int):=by
 unfold kE at h
 cases h1:decide (e.leaf>=k)||!(ps.getD e.leaf.toNat 0==(p:Int)) with
 | true=>rw[h1] at h;cases h
 | false=>
  rw[h1] at h
  simp only[Qq] at h
  cases h2:(l.any fun z=>z.prop==e.prop&&z.leaf==e.leaf)||!YT e (SW l e)||!decide (e.seen=(SW l e).seen) with
  | true=>rw[h2] at h;cases h
  | false=>
   rw[h2] at h
   simp only[Qq] at h
   cases h3:!(e.ver==(VF l e.leaf:Int))||!(e.ver==e.seen.getD e.leaf.toNat 0) with
   | true=>rw[h3] at h;cases h
   | false=>
    simp only[XM,Z5,Zm,ZE,Qd,not_and] at h2 h3
    exact⟨h2.1.1,h2.1.2,h3.1⟩
def peJ:Nat->List (List En)->List (Nat × En)
 | _,[]=>[]
 | n,l::r=>l.map (fun e=>(n,e))++peJ (n+1) r
theorem row_pe(p:Nat)(l:List En):pe (row p l)=l.map fun e=>(p,e):=by
 unfold pe row
 rw[Xq]
 have h:∀(l:List En) (k:Nat),(l.zipIdx k).map ((fun z:Sp=>(z.1,z.2.2)) ∘ fun x=>(p,x.2,x.1))=l.map fun e=>(p,e):=fun l=>by
  induction l with
  | nil=>intro k;rfl
  | cons a l ih=>intro k;simp only[Zd,Q4,ih];rfl
 exact h l 0
theorem pe_spots(js:List (AV × List En)):pe (Vq js)=peJ 0 (js.map (·.2)):=by
 unfold Vq
 have h:∀(js:List (AV × List En)) (n:Nat),pe ((js.zipIdx n).flatMap fun x=>row x.2 x.1.2)=peJ n (js.map (·.2)):=fun js=>by
  induction js with
  | nil=>intro n;rfl
  | cons a l ih=>
   intro n
   rw[Zd,Xa]
   show pe (row n a.2++_)=_
   have h1:∀ a b:List Sp,pe (a++b)=pe a++pe b:=fun a b=>by simp[pe]
   rw[h1,row_pe,ih];rfl
 exact h js 0
theorem peJ_set:∀(ll:List (List En)) (n i:Nat) (l:List En),ll[i]?=some l->∃ A C,peJ n ll=A++l.map (fun e=>(n+i,e))++C/\∀ l',peJ n (ll.set i l')=A++l'.map (fun e=>(n+i,e))++C
 | [],n,i,l,h=>by simp at h
 | x::r,n,0,l,h=>by
  simp at h;subst h
  exact⟨[],peJ (n+1) r,by simp[peJ],fun l'=>by simp[peJ]⟩
 | x::r,n,i+1,l,h=>by
  obtain⟨A,C,h1,h2⟩:=peJ_set r (n+1) i l (by simpa using h)
  refine⟨x.map (fun e=>(n,e))++A,C,?_,fun l'=>?_⟩
  ·show x.map _++peJ (n+1) r=_
   rw[h1,show n+1+i=n+(i+1) by omega];simp
  ·show x.map _++peJ (n+1) (r.set i l')=_
   rw[h2 l',show n+1+i=n+(i+1) by omega];simp
theorem map2(n:Nat)(l:List En):(l.map fun e=>(n,e)).map (·.2)=l:=by rw[Xq];exact List.map_id l
theorem caught_twice{k:Nat}{ps:List Int}{P:List En}{n:Nat}{a c:List En}{x:En}:¬ Pd k ps P ((a++x::x::c).map fun e=>(n,e)):=fun h=>by
 rw[QQ,Pc,map2] at h
 simp only[Q4,Pd] at h
 exact(Pf h.2.2.1).1 x (by simp) rfl rfl
theorem caught_turned{k:Nat}{ps:List Int}{P:List En}{n:Nat}{a m c:List En}{x y:En}(e:x.leaf=y.leaf)(h:Pd k ps P ((a++x::m++y::c).map fun e=>(n,e))):¬ Pd k ps P ((a++y::m++x::c).map fun e=>(n,e)):=fun h'=>by
 simp only[QQ,Pc,map2,Q4,Pd] at h h'
 have h1:=(Pf h.1.2.1).2.2
 have h2:=(Pf h.2.1).2.2
 have h3:=(Pf h'.1.2.1).2.2
 rw[<-e] at h2 h3
 have h4:VF (P++(a++x::m)) x.leaf=VF (P++a) x.leaf+VF (x::m) x.leaf:=by rw[<-Xb,Py]
 have h5:0 < VF (x::m) x.leaf:=cntE_pos (by simp)
 omega
theorem caught_less{k:Nat}{ps:List Int}{P:List En}{n:Nat}{a m c:List En}{x y:En}(e:x.leaf=y.leaf)(h:Pd k ps P ((a++x::m++y::c).map fun e=>(n,e))):¬ Pd k ps P ((a++m++y::c).map fun e=>(n,e)):=fun h'=>by
 simp only[QQ,Pc,map2,Q4,Pd] at h h'
 have h2:=(Pf h.2.1).2.2
 have h3:=(Pf h'.2.1).2.2
 have h4:VF (P++(a++x::m)) y.leaf=VF (P++(a++m)) y.leaf+1:=by
  simp only[Py]
  have:VF (x::m) y.leaf=VF m y.leaf+1:=by unfold VF;rw[Va,Qm (by simp[e])];rfl
  omega
 omega
theorem Pp{x y:En}(h:YT x y=true):x.gate=y.gate:=by
 unfold YT at h
 simp only[Qd,Zm] at h
 have h1:=h.1
 unfold JX at h1
 by_cases hc:VS x.gate y.gate=0
 ·exact cmpI_zero hc
 ·rw[Qe hc] at h1;exact absurd h1 hc
theorem Po{l:List En}{e z:En}(h:l.find? (fun z=>z.prop==e.prop)=some z):SW l e=z:=by unfold SW;rw[h]
theorem caught_named{k:Nat}{ps:List Int}{P:List En}{n:Nat}{a c:List (Nat × En)}{x x' z:En}(hp:x'.prop=x.prop)(hg:x'.gate≠x.gate)(hz:(∃ y∈P++a.map (·.2),y.prop=x.prop)\/∃ y∈c.map (·.2),y.prop=x.prop)
  (h:Pd k ps P (a++(n,x)::c)):¬ Pd k ps P (a++(n,x')::c):=fun h'=>by
 simp only[Pc,Pd] at h h'
 cases hf:(P++a.map (·.2)).find? (fun z=>z.prop==x.prop) with
 | some y=>
  have h1:=Pp (Pf h.2.1).2.1
  have h2:=Pp (Pf h'.2.1).2.1
  rw[Po hf] at h1
  rw[Po (by rw[hp];exact hf)] at h2
  exact hg (h2.trans h1.symm)
 | none=>
  rcases hz with⟨y,hy,he⟩|⟨y,hy,he⟩
  ·exact absurd (XJ.1 hf y hy) (by simp[he])
  ·obtain⟨w,hw,rfl⟩:=Q6.1 hy
   obtain⟨u,v,rfl⟩:=KS hw
   have h3:=h.2.2
   have h4:=h'.2.2
   rw[Pc] at h3 h4
   have h1:=Pp (Pf h3.2.1).2.1
   have h2:=Pp (Pf h4.2.1).2.1
   have iB:∀ x:En,x.prop=w.2.prop->(P++a.map (·.2)).find? (fun z=>z.prop==w.2.prop)=none->(P++a.map (·.2)++[x]++u.map (·.2)).find? (fun z=>z.prop==w.2.prop)=some x:=fun x hx hn=>by
    rw[ZH,ZH,hn];simp[List.find?_cons,hx]
   have hn:(P++a.map (·.2)).find? (fun z=>z.prop==w.2.prop)=none:=by rw[he];exact hf
   rw[Po (iB x he.symm hn)] at h1
   rw[Po (iB x' (hp.trans he.symm) hn)] at h2
   exact hg (h2.symm.trans h1)
noncomputable section
open Nat renaming reduceEqDiff -> rQ, reduceAdd -> rA
theorem Rh{z:Nat}:∀(xs:List (List AV)) (k:Nat) (y:List AV),(∀ x∈xs,x.length=z)->y.length=z->k < xs.length->setCells xs.flatten (k*z) y=(xs.set k y).flatten
 | [],_,_,_,_,h=>absurd h (by simp)
 | a::xs,0,y,hx,hy,_=>by
  have ha:=hx a (by simp)
  unfold setCells
  rw[Nat.zero_mul,Xe,Q7,hy,Xc,List.set_cons_zero,Xc,<-ha,List.drop_left]
  rfl
 | a::xs,k+1,y,hx,hy,h=>by
  have ha:=hx a (by simp)
  have ih:=Rh xs k y (fun x hm=>hx x (by simp[hm])) hy (by simpa using h)
  unfold setCells at ih ⊢
  have e1:(k+1)*z=a.length+k*z:=by rw[Xv,ha];omega
  rw[Xc,List.set_cons_succ,Xc,<-ih,e1,List.take_length_add_append,X1,List.drop_length_add_append,Xb]
theorem iaOwn{id n k z:Nat}(h:k < n)(cap:Option Nat)(lo:Nat):VC z (.own id 0 n z cap lo) (ZI k)=some (.ptr id (k*z)):=by
 simp only[VC]
 rw[Qo (show k+1<=n from h),QD,Q7]
 rfl
def T5:AV->Option Nat
 | .own id _ _ _ _ _=>some id
 | _=>none
def Cp(lo:Nat)(s:St)(v:AV)(l:List En):Prop:=(l=[]/\(v=.nilsl\/v=.lst 0 [] true))\/∃ id,v=.own id 0 l.length 9 none l.length/\lo<=id/\id < s.next/\s.get id=some (.row (l.map En.cells).flatten)
theorem Cp.oid{lo:Nat}{s:St}{v:AV}{l:List En}(h:Cp lo s v l){x:Nat}(hx:T5 v=some x):lo<=x/\x < s.next/\s.get x=some (.row (l.map En.cells).flatten):=by
 rcases h with⟨_,rfl | rfl⟩|⟨id,rfl,h1,h2,h3⟩
 ·cases hx
 ·cases hx
 ·injection hx with hx;subst hx;exact⟨h1,h2,h3⟩
theorem Cp.to{lo gm:Nat}{s s':St}{v:AV}{l:List En}(h:Cp lo s v l)(hl:gm<=lo)(hn:s.next<=s'.next)(k:∀ x,T5 v=some x->s'.get x=s.get x):Cp gm s' v l:=by
 rcases h with h|⟨id,rfl,h1,h2,h3⟩
 ·exact .inl h
 ·exact .inr ⟨id,rfl,by omega,by omega,(k id rfl).trans h3⟩
theorem Pg(l:List En):∀ x∈l.map En.cells,x.length=9/\x.all AV.one=true:=fun x hx=>by
 obtain⟨e,_,rfl⟩:=Q6.1 hx
 exact e.cells9
theorem Cp.sln{lo:Nat}{s:St}{v:AV}{l:List En}(h:Cp lo s v l)(hb:l.length<=100000):RB 9 (fun i=>lo<=i/\i < s.next) s v (l.map En.cells):=by
 refine⟨by omega,Pg l,by rw[Qu];omega,?_⟩
 rcases h with⟨rfl,rfl | rfl⟩|⟨id,rfl,h1,h2,h3⟩
 ·exact .inl ⟨rfl,rfl⟩
 ·exact .inr (.inl ⟨true,rfl⟩)
 ·exact .inr (.inr ⟨id,none,l.length,[],by rw[Qu],⟨h1,h2⟩,by rw[h3,QG]⟩)
theorem Cp.one{lo:Nat}{s:St}{v:AV}{l:List En}(h:Cp lo s v l):v.cells=[v]/\AV.one v=true:=by
 rcases h with⟨_,rfl | rfl⟩|⟨id,rfl,_⟩<;>exact⟨rfl,rfl⟩
theorem app9{s:St}{l:List En}(hb:l.length<=4000):∃ v s',VX 136 9 s (.lst 0 [] true) l.length (l.map En.cells).flatten=some (v,s')/\Vd s s'/\Cp s.next s' v l:=by
 cases l with
 | nil=>exact⟨_,_,rfl,Vd.refl s,.inl ⟨rfl,.inr rfl⟩⟩
 | cons e l=>
  refine⟨.own s.next 0 (0+(e::l).length) 9 none (0+(e::l).length),s.new (.row ([]++((e::l).map En.cells).flatten)),?_,Vd.new s _,.inr ⟨s.next,by rw[Q7],Qw _,by show s.next < s.next+1;omega,by rw[St.get_new,Qm rfl];rfl⟩⟩
  have h1:((0+(e::l).length)*136).ble 140737488355328=true:=Qo (by omega)
  have h2:(0+(e::l).length).ble 140737488355328=true:=Qo (by omega)
  unfold VX
  simp only[show (e::l).length.beq 0=false from rfl,Qq,h1,h2]
  rfl
def wg33_0:List Vc:=[ZM 2 (.c .nilsl)]
def wg33_1:List Vc:=[ZV 3 0,ZO 4 (.eqnil 1 false .eql (.t 3) (.c .nilsl))]
def wg33_2:List Vc:=[ZM 2 (.c .nilsl)]
def wg33_3:List Vc:=[ZO 5 (.bslice 0 [] []),ZV 6 0,ZO 7 (.append 136 9 none (.t 5) (.t 6)),ZV 2 7]
def wf33:Vm:=⟨8,(ZQ wg33_0 (.seq (ZQ wg33_1 (.cond (.t 4) (ZR wg33_2) .skip)) (ZR wg33_3))),[.t 2]⟩
theorem t33:Ry 33=some wf33:=by kernel_rfl
theorem clone33_run{F:Nat->Prop}{st:St}{lv:AV}{l:List En}(h:RB 9 F st lv (l.map En.cells))(hb:l.length<=4000)(m:Nat)(Y:Vi):∃ v af,R (m+1) Y 33 [lv] st=.ret v af/\Vd st af/\Cp st.next af v l:=by
 by_cases lU:lv=.nilsl
 ·subst lU
  have hl:l=[]:=by
   rcases h.2.2.2 with⟨_,h2⟩|⟨_,h2⟩|⟨_,_,_,_,h2,_⟩
   ·exact List.map_eq_nil_iff.1 h2
   ·cases h2
   ·cases h2
  have e:Rg 1 .eql .nilsl .nilsl=some (.bool true):=rfl
  obtain⟨fA1,au⟩:∃ fA,fA=Vo 0 [.nilsl] Fr.nil:=⟨_,rfl⟩
  have gA1_0:=R9 au 0
  have dA1:fA1.ds=[]:=by rw[au];rfl
  obtain⟨J2,H2⟩:∃ aa,ar m Y wg33_0 fA1 st=.ok aa st:=⟨_,by simp only[Rw,rQ,rA,wg33_0]<;>rfl⟩
  obtain⟨J3,H3,O3_4⟩:∃ aa,ar m Y wg33_1 J2 st=.ok aa st/\aa.get 4=some (.bool true):=⟨_,by simp only[Rw,rQ,rA,(ag H2 gA1_0),wg33_1,e]<;>rfl,gh⟩
  obtain⟨J4,H4,O4_2⟩:∃ aa,ar m Y wg33_2 J3 st=.ok aa st/\aa.get 2=some (.nilsl):=⟨_,by simp only[Rw,rQ,rA,wg33_2]<;>rfl,gh⟩
  refine⟨_,_,Ve (mf:=wf33) (fr:=J4) t33 rfl (.inl ?q4) (ad H4 (ad H3 (ad H2 dA1))) (by simp only[wf33,Vg,Vu,V0,O4_2,Qg,Ql]),Vd.refl _,.inl ⟨hl,.inl rfl⟩⟩
  case q4=>
   rw[<-au]
   simp only[Rw,rQ,rA,wf33,Rx,R5,R6,R7,H2,H3,H4,O3_4]
 ·have e:Rg 1 .eql lv .nilsl=some (.bool false):=by
   rcases h.2.2.2 with⟨h1,_⟩|⟨_,h2⟩|⟨_,_,_,_,h2,_⟩
   ·exact absurd h1 lU
   ·rw[h2];rfl
   ·rw[h2];rfl
  have ct:=h.content (Vs.refl _ st)
  rw[Qu] at ct
  obtain⟨v,s',ap,k,c⟩:=app9 (s:=st) hb
  have fl:VN [] []=some []:=rfl
  obtain⟨fA5,iI⟩:∃ fA,fA=Vo 0 [lv] Fr.nil:=⟨_,rfl⟩
  have gA5_0:=R9 iI 0
  have dA5:fA5.ds=[]:=by rw[iI];rfl
  obtain⟨J6,H6⟩:∃ aa,ar m Y wg33_0 fA5 st=.ok aa st:=⟨_,by simp only[Rw,rQ,rA,wg33_0]<;>rfl⟩
  have V6_0:=ag H6 gA5_0
  obtain⟨J7,H7,O7_4⟩:∃ aa,ar m Y wg33_1 J6 st=.ok aa st/\aa.get 4=some (.bool false):=⟨_,by simp only[Rw,rQ,rA,V6_0,wg33_1,e]<;>rfl,gh⟩
  obtain⟨J8,H8,O8_2⟩:∃ aa,ar m Y wg33_3 J7 st=.ok aa s'/\aa.get 2=some (v):=⟨_,by simp only[Rw,rQ,rA,(ag H7 V6_0),wg33_3,fl,ct,ap,tag0]<;>rfl,gh⟩
  refine⟨_,_,Ve (mf:=wf33) (fr:=J8) t33 rfl (.inl ?q8) (ad H8 (ad H7 (ad H6 dA5))) (by simp only[wf33,Vg,Vu,V0,O8_2,Qg,Ql]),k,c⟩
  case q8=>
   rw[<-iI]
   simp only[Rw,rQ,rA,wf33,Rx,R5,R6,R7,H6,H7,H8,O7_4]
def wg13_0:List Vc:=[ZM 2 (.c .nilsl)]
def wg13_1:List Vc:=[ZM 3 (.c .nilsl)]
def wg13_2:List Vc:=[ZV 6 0,ZN 7 6,ZM 8 (ZC 0)]
def wg13_3:List Vc:=[ZO 9 (.bin false .lss (.t 8) (.t 7))]
def wg13_4:List Vc:=[ZP 10 1 6 8,ZL 11 10,ZV 5 11]
def wg13_5:List Vc:=[ZV 12 3,ZV 13 5,ZX 14 33 [(.t 13)],ZO 15 (.bslice 1 [.nilsl] [(0,1,(.t 14))]),ZO 16 (.append 24 1 none (.t 12) (.t 15)),ZV 3 16]
def wg13_6:List Vc:=[ZO 17 (.bin false .add (.t 8) (ZC 1)),ZV 8 17]
def wg13_7:List Vc:=[ZV 18 3,ZV 2 18]
def Ro:Vn:=(ZQ wg13_3 (.seq (.cond (.t 9) .skip (.exit 0)) (.seq (.block 1 (ZQ wg13_4 (.region wg13_5))) (.region wg13_6))))
def wf13:Vm:=⟨19,(ZQ wg13_0 (ZQ wg13_1 (.seq (ZQ wg13_2 (.block 0 (.loop Ro))) (ZR wg13_7)))),[.t 2]⟩
theorem t13:Ry 13=some wf13:=by kernel_rfl
theorem cnt1v(v:AV)(s:St):Wd 1 s (.lst 1 [v] true)=some (1,[v]):=rfl
theorem fl1v{v:AV}(h:v.cells=[v]):VN [.nilsl] [(0,1,v)]=some [v]:=by
 simp[VN,h,setCells,Nat.ble]
set_option maxHeartbeats 1000000 in
theorem copied13_run{F:Nat->Prop}{st:St}{jv:AV}{js:List (AV × List En)}(hj:YQ F st jv js)(hF:∀ i,F i->i < st.next)(ht:tot js<=4000)(b9:js.length<=4000)(m:Nat)(Y:Vi)(hn:js.length+4 < m):
  ∃ af cv,∃ vs:List AV,R (m+1) Y 13 [jv] st=.ret cv af/\Vd st af/\vs.length=js.length/\GrW 1 st.next af cv (vs.map fun v=>[v])/\(∀(i:Nat) (v:AV) (p:AV × List En),vs[i]?=some v->js[i]?=some p->Cp st.next af v p.2/\∀ x,T5 v=some x->¬ hO cv x) ∧
   ∀(i j:Nat) (v w:AV) (x:Nat),i < j->vs[i]?=some v->vs[j]?=some w->T5 v=some x->T5 w≠some x:=by
 obtain⟨q,rfl⟩:∃ q,m=q+1:=⟨m - 1,by omega⟩
 have bO:=hj.1.len st
 rw[Qu] at bO
 have hL:∀(fr:Fr),fr.ds=[]->fr.get 3=some .nilsl->fr.get 6=some jv->fr.get 7=some (ZI js.length)->fr.get 8=some Z0 ->
   ∃ FR s' cv,∃ vs:List AV,Vx (ac (q+1) Y Ro none) (q+1) fr st=.exit 0 FR s'/\FR.ds=[]/\FR.get 3=some cv/\Vd st s'/\vs.length=js.length/\GrW 1 st.next s' cv (vs.map fun v=>[v])/\(∀(i:Nat) (v:AV) (p:AV × List En),vs[i]?=some v->js[i]?=some p->Cp st.next s' v p.2/\∀ x,T5 v=some x->¬ hO cv x) ∧
   ∀(i j:Nat) (v w:AV) (x:Nat),i < j->vs[i]?=some v->vs[j]?=some w->T5 v=some x->T5 w≠some x:=by
  intro fr d0 g3 g6 g7 g8
  refine Ws (B:=ac (q+1) Y Ro none) (N:=js.length) (R3:=fun k f s=>f.ds=[]/\f.get 6=some jv/\f.get 7=some (ZI js.length)/\f.get 8=some (ZI k)/\Vd st s/\∃ cv,∃ vs:List AV,f.get 3=some cv/\vs.length=k/\GrW 1 st.next s cv (vs.map fun v=>[v])/\(∀(i:Nat) (v:AV) (p:AV × List En),vs[i]?=some v->js[i]?=some p->Cp st.next s v p.2/\∀ x,T5 v=some x->¬ hO cv x) ∧
    ∀(i j:Nat) (v w:AV) (x:Nat),i < j->vs[i]?=some v->vs[j]?=some w->T5 v=some x->T5 w≠some x)
   (Out:=fun r=>∃ FR s' cv,∃ vs:List AV,r=.exit 0 FR s'/\FR.ds=[]/\FR.get 3=some cv/\Vd st s'/\vs.length=js.length/\GrW 1 st.next s' cv (vs.map fun v=>[v])/\(∀(i:Nat) (v:AV) (p:AV × List En),vs[i]?=some v->js[i]?=some p->Cp st.next s' v p.2/\∀ x,T5 v=some x->¬ hO cv x) ∧
   ∀(i j:Nat) (v w:AV) (x:Nat),i < j->vs[i]?=some v->vs[j]?=some w->T5 v=some x->T5 w≠some x) ?_ js.length 0 fr st (q+1) (by omega) (by omega) ⟨d0,g6,g7,g8,Vd.refl st,.nilsl,[],g3,rfl,⟨fun x hx=>by simp at hx,.inl ⟨rfl,rfl⟩⟩,fun i v p h=>by simp at h,fun i j v w x _ h=>by simp at h⟩
  intro k f s hk ⟨d0,q1,q2,q3,bi,cv,vs,q4,dq,bX,i6,lE⟩
  have am:=Wt k js.length
  by_cases aQ:k < js.length
  ·have hx:js[k]?=some js[k]:=Qn aQ
   generalize js[k]=p at hx
   have gg:=Qr hx
   have bC:p.2.length<=4000:=QY (Pl (Q6.2 ⟨p,gg,rfl⟩)) ht
   obtain⟨pe,ie,bk⟩:=hj.1.ptr (k:=k) (x:=[p.1]) (by rw[Q5,hx];rfl)
   have hS:Vs F st s:=Vs.of bi hF
   have bk:Vf false 1 s pe=some p.1:=by
    obtain⟨cs,h3,h4⟩:=bk s hS
    simp only[Vf,h3,Qg,h4,Ja,Qq]
   obtain⟨v,s2,vt,k2,hc⟩:=clone33_run (((hj.2 p gg).1).mono hS fun _ h=>h) bC q Y
   have vt:((gT (q+1)).cg Y).fn 33 [p.1] s=.ret v s2:=vt
   obtain⟨sY,kb⟩:=hc.one
   have fl:=fl1v sY
   have ct:=cnt1v v s2
   have iN:(vs.map fun v=>[v]).length=k:=by rw[Qu];exact dq
   obtain⟨s3,ap,n3,o3,qS⟩:=bX.app (bytes:=24) bi.1 (by omega) (by omega) k2 (y:=[v]) ⟨rfl,by simp[kb]⟩
   rw[iN] at ap qS
   have cK:∀ i,i < st.next\/s.next<=i->¬ hO cv i:=fun i hi ⟨_,_,_,_,he⟩=>by
    rcases bX.2 with⟨h,_⟩|⟨oid,p1,p2,p3,_⟩
    ·rw[h] at he;cases he
    ·rw[p3] at he;injection he with h1;omega
   have xF:=bi.1
   have fY:=k2.1
   have k3:Vd st s3:=⟨by omega,fun j fN=>by rw[o3 j (by omega) (cK j (.inl fN)),k2.2 j (by omega),bi.2 j fN]⟩
   have cT:∀ i,i < s2.next->¬ hO (.own s2.next 0 (k+1) 1 none (k+1)) i:=fun i hi ⟨_,_,_,_,he⟩=>by injection he with h1;omega
   have vu:∀(i:Nat) (w:AV) (p':AV × List En),(vs++[v])[i]?=some w->js[i]?=some p'->Cp st.next s3 w p'.2/\∀ x,T5 w=some x->¬ hO (.own s2.next 0 (k+1) 1 none (k+1)) x:=fun i w p' hw lY=>by
    by_cases ic:i < k
    ·rw[Xk (by omega)] at hw
     obtain⟨h1,h2⟩:=i6 i w p' hw lY
     have hb:=fun x hx=>(h1.oid (x:=x) hx).2.1
     exact⟨h1.to (Qw _) (by omega) fun x hx=>by have:=hb x hx;rw[o3 x (by omega) (h2 x hx),k2.2 x this],fun x hx=>cT x (by have:=hb x hx;omega)⟩
    ·by_cases vw:i=k
     ·subst vw
      rw[Xg (by omega),dq,ZJ] at hw
      simp only[Q0,Qa] at hw
      subst hw
      rw[hx] at lY;injection lY with lY;subst lY
      have hb:=fun x hx=>(hc.oid (x:=x) hx)
      exact⟨hc.to xF (by omega) fun x hx=>o3 x (hb x hx).2.1 (cK x (.inr (hb x hx).1)),fun x hx=>cT x (hb x hx).2.1⟩
     ·rw[Za (by simp;omega)] at hw;cases hw
   have vz:∀(i j:Nat) (v' w:AV) (x:Nat),i < j->(vs++[v])[i]?=some v'->(vs++[v])[j]?=some w->T5 v'=some x->T5 w≠some x:=fun i j v' w x jN gq hw aK=>by
    by_cases A4:j < k
    ·rw[Xk (by omega)] at gq hw
     exact lE i j v' w x jN gq hw aK
    ·by_cases og:j=k
     ·subst og
      rw[Xk (by omega)] at gq
      rw[Xg (by omega),dq,ZJ] at hw
      simp only[Q0,Qa] at hw
      subst hw
      intro bY
      have h1:=(hc.oid bY).1
      have h3:js[i]?=some js[i]:=Qn (by omega)
      have h2:=((i6 i v' _ gq h3).1.oid aK).2.1
      omega
     ·rw[Za (by simp;omega)] at hw;cases hw
   have aU:=WC (i:=k) (by omega)
   rw[Qs aQ] at am
   obtain⟨J5,H5,O5_9⟩:∃ aa,ar (q+1) Y wg13_3 f s=.ok aa s/\aa.get 9=some (.bool true):=⟨_,by simp only[Rw,rQ,rA,q2,q3,wg13_3,am]<;>rfl,gh⟩
   have V5_6:=ag H5 q1
   have V5_8:=ag H5 q3
   obtain⟨J6,H6,O6_5⟩:∃ aa,ar (q+1) Y wg13_4 J5 s=.ok aa s/\aa.get 5=some (p.1):=⟨_,by simp only[Rw,rQ,rA,V5_6,V5_8,wg13_4,ie,bk]<;>rfl,gh⟩
   obtain⟨J7,H7,O7_3⟩:∃ aa,ar (q+1) Y wg13_5 J6 s=.ok aa s3/\aa.get 3=some (.own s2.next 0 (k+1) 1 none (k+1)):=⟨_,by simp only[Rw,rQ,rA,(ag H6 (ag H5 q4)),O6_5,wg13_5,vt,fl,ct,ap,tag0]<;>rfl,gh⟩
   obtain⟨J8,H8,O8_8⟩:∃ aa,ar (q+1) Y wg13_6 J7 s3=.ok aa s3/\aa.get 8=some (ZI ((k+1))):=⟨_,by simp only[Rw,rQ,rA,(ag H7 (ag H6 V5_8)),wg13_6,aU]<;>rfl,gh⟩
   have jy:ac (q+1) Y Ro none f s=.norm J8 s3:=by
    simp only[Rw,rQ,rA,Ro,Rx,R5,R6,R7,H5,H6,H7,H8,O5_9]
   rw[jy]
   exact⟨aQ,(ad H8 (ad H7 (ad H6 (ad H5 d0)))),(ag H8 (ag H7 (ag H6 V5_6))),(ag H8 (ag H7 (ag H6 (ag H5 q2)))),O8_8,k3,_,vs++[v],(ag H8 O7_3),by simp[dq],by rw[QQ];exact qS,vu,vz⟩
  ·rw[Qp aQ] at am
   obtain⟨J9,H9,O9_9⟩:∃ aa,ar (q+1) Y wg13_3 f s=.ok aa s/\aa.get 9=some (.bool false):=⟨_,by simp only[Rw,rQ,rA,q2,q3,wg13_3,am]<;>rfl,gh⟩
   have lj:ac (q+1) Y Ro none f s=.exit 0 J9 s:=by
    simp only[Rw,rQ,rA,Ro,Rx,R5,R6,R7,H9,O9_9]
   rw[lj]
   exact⟨_,_,cv,vs,rfl,(ad H9 d0),(ag H9 q4),bi,by omega,bX,i6,lE⟩
 obtain⟨fA10,cX⟩:∃ fA,fA=Vo 0 [jv] Fr.nil:=⟨_,rfl⟩
 have gA10_0:=R9 cX 0
 have dA10:fA10.ds=[]:=by rw[cX];rfl
 obtain⟨J11,H11⟩:∃ aa,ar (q+1) Y wg13_0 fA10 st=.ok aa st:=⟨_,by simp only[Rw,rQ,rA,wg13_0]<;>rfl⟩
 obtain⟨J12,H12,O12_3⟩:∃ aa,ar (q+1) Y wg13_1 J11 st=.ok aa st/\aa.get 3=some (.nilsl):=⟨_,by simp only[Rw,rQ,rA,wg13_1]<;>rfl,gh⟩
 obtain⟨J13,H13,O13_6,O13_7,O13_8⟩:∃ aa,ar (q+1) Y wg13_2 J12 st=.ok aa st/\aa.get 6=some (jv)/\aa.get 7=some (ZI js.length)/\aa.get 8=some Z0:=⟨_,by simp only[Rw,rQ,rA,(ag H12 (ag H11 gA10_0)),wg13_2,bO]<;>rfl,gn (gn gh),gn gh,gh⟩
 obtain⟨FR,s',cv,vs,hL,dF,F3,k3,dq,bX,i6,lE⟩:=hL J13 (ad H13 (ad H12 (ad H11 dA10))) (ag H13 O12_3) O13_6 O13_7 O13_8
 obtain⟨J14,H14,O14_2⟩:∃ aa,ar (q+1) Y wg13_7 FR s'=.ok aa s'/\aa.get 2=some (cv):=⟨_,by simp only[Rw,rQ,rA,F3,wg13_7]<;>rfl,gh⟩
 refine⟨_,cv,vs,Ve (mf:=wf13) (fr:=J14) t13 rfl (.inl ?q14) (ad H14 dF) (by simp only[wf13,Vg,Vu,V0,O14_2,Qg,Ql]),k3,dq,bX,i6,lE⟩
 case q14=>
  rw[<-cX]
  simp only[Rw,rQ,rA,wf13,Rx,R5,R6,R7,H11,H12,H13,hL,H14]
end
end Go.AM.D32
