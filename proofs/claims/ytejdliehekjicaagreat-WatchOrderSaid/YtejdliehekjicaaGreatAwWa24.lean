import Derived.Test.YtejdliehekjicaaGreatAwWa23
set_option maxRecDepth 100000
set_option linter.unusedSimpArgs false
namespace Go.AM.D32
open Go Go.AM
noncomputable section
open Nat renaming reduceEqDiff -> rQ, reduceAdd -> rA
def GrW(z b:Nat)(s:St)(ov:AV)(xs:List (List AV)):Prop:=(∀ x∈xs,x.length=z/\x.all AV.one=true)/\((ov=.nilsl/\xs=[])\/∃ oid,b<=oid/\oid < s.next/\ov=.own oid 0 xs.length z none xs.length/\s.get oid=some (.row xs.flatten))
def hO(ov:AV)(i:Nat):Prop:=∃ n z c l,ov=.own i 0 n z c l
theorem flatY_len{z:Nat}{xs:List (List AV)}(h:∀ x∈xs,x.length=z/\x.all AV.one=true):xs.flatten.length=xs.length*z:=by
 induction xs with
 | nil=>simp
 | cons y ys ih=>
  simp only[Xc,QJ,QC]
  rw[ih fun x hx=>h x (by simp[hx]),(h y (by simp)).1,Xv];omega
theorem GrW.app{bytes z b:Nat}{s s2:St}{ov:AV}{xs:List (List AV)}{y:List AV}(h:GrW z b s ov xs)(hb:b<=s.next)(hbb:(xs.length+1)*bytes<=140737488355328)(hb':xs.length+1<=140737488355328)(k:Vd s s2)(hy:y.length=z/\y.all AV.one=true):
  ∃ s3,VX bytes z s2 ov 1 y=some (.own s2.next 0 (xs.length+1) z none (xs.length+1),s3)/\s3.next=s2.next+1/\(∀ j,j < s2.next->¬ hO ov j->s3.get j=s2.get j)/\GrW z b s3 (.own s2.next 0 (xs.length+1) z none (xs.length+1)) (xs++[y]):=by
 obtain⟨hx,hc⟩:=h
 have hx':∀ x∈xs++[y],x.length=z/\x.all AV.one=true:=fun x hxm=>by
  rcases QV.1 hxm with h | h
  ·exact hx x h
  ·rw[Xd.1 h];exact hy
 have hk:=k.1
 rcases hc with⟨rfl,rfl⟩|⟨oid,h1,h2,rfl,h4⟩
 ·refine⟨s2.new (.row y),?_,rfl,fun j hj _=>by rw[St.get_new,Qe (by omega)],hx',.inr ⟨s2.next,by omega,by simp,by simp,by rw[St.get_new,Qm rfl];simp⟩⟩
  unfold VX
  simp only[show Nat.beq 1 0=false from rfl,Qq,Qo (show 1*bytes<=140737488355328 by simpa using hbb),show Nat.ble 1 140737488355328=true from rfl,Qy,Qi]
  rfl
 ·have hg2:s2.get oid=some (.row xs.flatten):=(k.2 oid h2).trans h4
  have hl:=flatY_len hx
  have e5:Nat.ble (xs.length+1) xs.length=false:=by
   cases hxx:Nat.ble (xs.length+1) xs.length with
   | false=>rfl
   | true=>have:=Qk hxx;omega
  refine⟨(s2.del oid).new (.row (xs.flatten++y)),?_,rfl,fun j hj hn=>?_,hx',.inr ⟨s2.next,by omega,by simp,by simp,?_⟩⟩
  ·unfold VX
   simp only[show Nat.beq 1 0=false from rfl,Qq,hg2,QD,Qo hbb,Qo hb',Q7,hl,Qo (Qw (xs.length*z)),hy.2,Qy,Qi,KY,e5,Qq]
  ·rw[St.get_new,Qe (by show j≠s2.next;omega),St.get_del,Qe (fun e=>hn ⟨_,_,_,_,by rw[e]⟩)]
  ·show ((s2.del oid).new _).get (s2.del oid).next=_
   rw[St.get_new,Qm rfl];simp
theorem GrW.sln{z b:Nat}{s:St}{ov:AV}{xs:List (List AV)}(h:GrW z b s ov xs)(hz:0 < z)(hb:xs.length<=4611686018427387904):SlN z (fun i=>b<=i/\i < s.next) s ov xs:=by
 obtain⟨hx,hc⟩:=h
 refine⟨hz,hx,hb,?_⟩
 rcases hc with h|⟨oid,h1,h2,h3,h4⟩
 ·exact .inl h
 ·exact .inr (.inr ⟨oid,none,xs.length,[],h3,⟨h1,h2⟩,by rw[QG];exact h4⟩)
def MvR(G:Nat->Prop)(s:St)(x:Pr)(ys:List AV):Prop:=∃ sv xv cs,ys=[.int .i64 x.e.prop,.int .i64 x.e.gate,sv]++cs++[x.csl]/\SlR G s sv xv/\Vy G s x.e.vals xv/\VU G s x.e.d cs
theorem MvR.mono{F G:Nat->Prop}{s a:St}{x:Pr}{ys:List AV}(h:MvR F s x ys)(k:Vs F s a)(g:∀ i,F i->G i):MvR G a x ys:=by
 obtain⟨sv,xv,cs,h1,h2,h3,h4⟩:=h
 exact⟨sv,xv,cs,h1,h2.mono k g,Vy.mono k g _ _ h3,VU.mono k g _ _ h4⟩
theorem cnt7{s:St}{y:List AV}(h:y.length=7):Wd 7 s (.lst 1 y true)=some (1,y):=by
 unfold Wd
 simp only[h,show Nat.ble (1*7) 7=true from rfl,Qi]
 rw[Xx (by omega)]
theorem fl7{y:List AV}(h:y.length=7):VN [Z0,Z0,.nilsl,Z0,.nilsl,.nilsl,.nilsl] [(0,7,.agg y)]=some y:=by
 have h1:(AV.agg y).cells=y:=rfl
 have h2:setCells [Z0,Z0,.nilsl,Z0,.nilsl,.nilsl,.nilsl] 0 y=y:=by
  unfold setCells
  rw[Xe,QR,XX (by simp[h]),QG]
 simp only[VN,h1,h2,h,QD,QC,X2,Q7,rA,show Nat.ble 7 7=true from rfl,Qy,Qi]
def wg32_0:List Vc:=[ZM 2 (.c .nilsl)]
def wg32_1:List Vc:=[ZM 3 (.c .nilsl)]
def wg32_2:List Vc:=[ZV 7 0,ZN 8 7,ZM 9 (ZC 0)]
def wg32_3:List Vc:=[ZO 10 (.bin false .lss (.t 9) (.t 8))]
def wg32_4:List Vc:=[ZP 11 1 7 9,ZL 12 11,ZV 5 12]
def wg32_5:List Vc:=[ZV 13 5,ZO 14 (.nilchk (.t 13)),ZA 15 0 14,ZK 16 7 15,ZO 6 (.alloc [Z0,Z0,.nilsl,Z0,.nilsl,.nilsl,.nilsl]),ZS 7 6 16]
def wg32_6:List (Vc × Nat):=[(ZA 17 1 6,0),(ZK 18 2 17,1),(ZX 19 54 [(.t 18)],3),(ZA 20 3 6,0),(ZK 21 3 20,8),(ZX 22 80 [(.t 21)],31),(ZA 23 1 6,31),(ZS 2 23 19,127),(ZA 24 3 6,255),(ZS 3 24 22,511)]
def wg32_7:List Vc:=[ZV 25 3,ZK 26 7 6,ZO 27 (.bslice 1 [Z0,Z0,.nilsl,Z0,.nilsl,.nilsl,.nilsl] [(0,7,(.t 26))]),ZO 28 (.append 120 7 none (.t 25) (.t 27)),ZV 3 28]
def wg32_8:List Vc:=[ZO 29 (.bin false .add (.t 9) (ZC 1)),ZV 9 29]
def wg32_9:List Vc:=[ZV 30 3,ZV 2 30]
def Tq:Vn:=(ZQ wg32_3 (.seq (.cond (.t 10) .skip (.exit 0)) (.seq (.block 1 (ZQ wg32_4 (ZQ wg32_5 (.seq (.draw wg32_6 [(4,some 2),(4,some 5)]) (.region wg32_7))))) (.region wg32_8))))
def wf32:Vm:=⟨31,(ZQ wg32_0 (ZQ wg32_1 (.seq (ZQ wg32_2 (.block 0 (.loop Tq))) (ZR wg32_9)))),[.t 2]⟩
theorem t32:tbl 32=some wf32:=by kernel_rfl
set_option maxHeartbeats 1000000 in
theorem moves32_run{st:St}{b:Nat}{ov:AV}{PS:List Pr}(hov:JU b st ov PS)(hPS:∀ x∈PS,st.get x.id=some (.row x.row)/\x.id < st.next/\x.e.ok/\shL x.e.vals=true/\x.e.vals.length<=8/\Dv.good gr x.e.d=true)(hn:PS.length<=4000)(m:Nat)(Y:Vi)(hm:PS.length+10 < m)(hfz:∀ x∈PS,x.e.fz < m):
  ∃ mv rows st',R (m+1) Y 32 [ov] st=.ret mv st'/\Vd st st'/\SlN 7 (fun i=>st.next<=i/\i < st'.next) st' mv rows/\rows.length=PS.length/\(∀(j:Nat) (x:Pr) (ys:List AV),PS[j]?=some x->rows[j]?=some ys->MvR (fun i=>st.next<=i/\i < st'.next) st' x ys)/\(PS=[]->mv=.nilsl):=by
 obtain⟨q,rfl⟩:∃ q,m=q+1:=⟨m - 1,by omega⟩
 have hln:(bif VD 0 ov then Wm st ov else none)=some (ZI PS.length):=by
  rcases hov with⟨h1,h2⟩|⟨oid,_,_,h3,_⟩
  ·rw[h1,h2];rfl
  ·rw[h3];rfl
 have hat:∀(j:Nat) (x:Pr) (s:St),PS[j]?=some x->Vd st s->∃ p,VC 1 ov (ZI j)=some p/\Vf false 1 s p=some (.ptr x.id 0):=fun j x s hx hs=>by
  rcases hov with⟨_,h⟩|⟨oid,h1,h2,h3,h4⟩
  ·rw[h] at hx;simp at hx
  ·have hj:=(Qt.1 hx).1
   refine⟨.ptr oid j,by rw[h3];exact iaN hj none _,Vk ((hs.2 oid h2).trans h4) ?_⟩
   rw[Q5,hx];rfl
 have hL:∀(fr:Fr),fr.ds=[]->fr.get 3=some .nilsl->fr.get 7=some ov->fr.get 8=some (ZI PS.length)->fr.get 9=some Z0 ->
   ∃ FR s' mv rows,Vx (ac (q+1) Y Tq none) (q+1) fr st=.exit 0 FR s'/\FR.ds=[]/\FR.get 3=some mv/\Vd st s'/\GrW 7 st.next s' mv rows/\rows.length=PS.length/\(rows=[]->mv=.nilsl)/\∀(j:Nat) (x:Pr) (ys:List AV),PS[j]?=some x->rows[j]?=some ys->MvR (fun i=>st.next<=i/\i < s'.next/\¬ hO mv i) s' x ys:=by
  intro fr d0 g3 g7 g8 g9
  refine Ws (B:=ac (q+1) Y Tq none) (N:=PS.length) (Inv:=fun k f s=>f.ds=[]/\f.get 7=some ov/\f.get 8=some (ZI PS.length)/\f.get 9=some (ZI k)/\Vd st s/\∃ mv rows,f.get 3=some mv/\GrW 7 st.next s mv rows/\rows.length=k/\(rows=[]->mv=.nilsl)/\∀(j:Nat) (x:Pr) (ys:List AV),PS[j]?=some x->rows[j]?=some ys->MvR (fun i=>st.next<=i/\i < s.next/\¬ hO mv i) s x ys)
   (Out:=fun r=>∃ FR s' mv rows,r=.exit 0 FR s'/\FR.ds=[]/\FR.get 3=some mv/\Vd st s'/\GrW 7 st.next s' mv rows/\rows.length=PS.length/\(rows=[]->mv=.nilsl)/\∀(j:Nat) (x:Pr) (ys:List AV),PS[j]?=some x->rows[j]?=some ys->MvR (fun i=>st.next<=i/\i < s'.next/\¬ hO mv i) s' x ys) ?_ PS.length 0 fr st (q+1) (by omega) (by omega) ⟨d0,g7,g8,g9,Vd.refl st,.nilsl,[],g3,⟨fun x hx=>by simp at hx,.inl ⟨rfl,rfl⟩⟩,rfl,fun _=>rfl,fun j x ys _ h=>by simp at h⟩
  intro k f s hk ⟨d0,q7,q8,q9,hks,mv,rows,q3,hgr,hrl,hz,hmv⟩
  have hlt:=Wt k PS.length
  by_cases hkN:k < PS.length
  ·have hx:PS[k]?=some PS[k]:=Qn hkN
   generalize PS[k]=x at hx
   have hxm:=Qr hx
   obtain⟨hrow,hid,hok,hsh,hv8,hgd⟩:=hPS x hxm
   have hxf:=hfz x hxm
   obtain⟨o1,o2,o3,o4,o5,o6⟩:=hok
   have hef:Tm.fzL x.e.vals+x.e.vals.length+x.e.d.fz+x.e.seen.length+4200=x.e.fz:=rfl
   obtain⟨pe,ie,lde⟩:=hat k x s hx hks
   obtain⟨a,b',c',hda,ha1,hb1,hc1⟩:=x.e.d.cells_abc
   have hvo:AV.one x.e.vsl=true:=by unfold En.vsl V7;cases x.e.vnl<;>rfl
   have hr7:x.row=[.int .i64 x.e.prop,.int .i64 x.e.gate,x.e.vsl,a,b',c',x.csl,ZI x.p,ZI x.i,x.e.ssl]:=by unfold Pr.row YX;rw[hda];rfl
   have l7:Vf true 7 s (.ptr x.id 0)=some (.agg [.int .i64 x.e.prop,.int .i64 x.e.gate,x.e.vsl,a,b',c',x.csl]):=WE ((hks.2 _ hid).trans (by rw[hrow,hr7])) rfl rfl
   have hall:[AV.int .i64 x.e.prop,.int .i64 x.e.gate,x.e.vsl,a,b',c',x.csl].all AV.one=true:=by
    simp only[QN,QW,hvo,ha1,hb1,hc1];rfl
   have sto:Vt 7 (s.new (.row [Z0,Z0,.nilsl,Z0,.nilsl,.nilsl,.nilsl])) (.ptr s.next 0) (.agg [.int .i64 x.e.prop,.int .i64 x.e.gate,x.e.vsl,a,b',c',x.csl])=some ((s.new (.row [Z0,Z0,.nilsl,Z0,.nilsl,.nilsl,.nilsl])).put s.next (.row [.int .i64 x.e.prop,.int .i64 x.e.gate,x.e.vsl,a,b',c',x.csl])):=VQ rfl rfl hall
   obtain⟨s1,hs1⟩:∃ s1,s1=(s.new (.row [Z0,Z0,.nilsl,Z0,.nilsl,.nilsl,.nilsl])).put s.next (.row [.int .i64 x.e.prop,.int .i64 x.e.gate,x.e.vsl,a,b',c',x.csl]):=⟨_,rfl⟩
   rw[<-hs1] at sto
   have n1:s1.next=s.next+1:=by rw[hs1];rfl
   have k1:Vd s s1:=by rw[hs1];exact(Vd.refl s).newput _ _
   have G1:s1.get s.next=some (.row [.int .i64 x.e.prop,.int .i64 x.e.gate,x.e.vsl,a,b',c',x.csl]):=by rw[hs1,St.get_put,Qm rfl]
   obtain⟨sv,xv,s2,c54,k2,hv1,hv2⟩:=fresh54_run x.e.vals x.e.gate hsh (by omega) q Y (by omega) (fun _=>False) s1 x.e.vsl (Tm.cellsL x.e.vals) (slAV_SlR x.e.vnl x.e.vex x.e.vals o1 o2 _ s1) (Vy.line _ s1 x.e.vals o3) (fun _ h=>h.elim)
   have c54:((gT (q+1)).cg Y).fn 54 [.agg [.int .i64 x.e.gate,x.e.vsl]] s1=.ret (.agg [.int .i64 x.e.gate,sv]) s2:=c54
   obtain⟨cs,s3,c80,k3,hd3⟩:=freshDeriv_run _ x.e.d (q+1) Y rfl (by omega) hgd (fun _=>False) s2 x.e.d.cells (VU.line _ s2 x.e.d o4) (fun _ h=>h.elim)
   have hcs3:=hd3.cells3
   rw[hda] at c80
   have c80:((gT (q+1)).cg Y).fn 80 [.agg [a,b',c']] s2=.ret (.agg cs) s3:=c80
   have hbq:VG [a,b',c'] [a,b',c']=true:=by rw[<-hda];exact VU.beq x.e.d _ (VU.line (fun _=>False) s1 x.e.d o4)
   obtain⟨ca,cb,cc,rfl⟩:∃ ca cb cc,cs=[ca,cb,cc]:=by
    match cs,hcs3.1 with
    | [a,b,c],_=>exact⟨a,b,c,rfl⟩
   have G2:=(k2.2 s.next (by omega)).trans G1
   have G3:=(k3.2 s.next (by have:=k2.1;omega)).trans G2
   have e1:Vf true 2 s1 (.ptr s.next 1)=some (.agg [.int .i64 x.e.gate,x.e.vsl]):=WE G1 rfl rfl
   have e3:Vf true 3 s2 (.ptr s.next 3)=some (.agg [a,b',c']):=WE G2 rfl rfl
   have e3':Vf true 3 s1 (.ptr s.next 3)=some (.agg [a,b',c']):=WE G1 rfl rfl
   have osv:=hv1.one
   have t1:Vt 2 s3 (.ptr s.next 1) (.agg [.int .i64 x.e.gate,sv])=some (s3.put s.next (.row [.int .i64 x.e.prop,.int .i64 x.e.gate,sv,a,b',c',x.csl])):=V4 G3 rfl rfl (by simp) (by show (AV.one (.int .i64 x.e.gate)&&(AV.one sv&&true))=true;rw[osv];rfl)
   have t2:Vt 3 (s3.put s.next (.row [.int .i64 x.e.prop,.int .i64 x.e.gate,sv,a,b',c',x.csl])) (.ptr s.next 3) (.agg [ca,cb,cc])=some ((s3.put s.next (.row [.int .i64 x.e.prop,.int .i64 x.e.gate,sv,a,b',c',x.csl])).put s.next (.row [.int .i64 x.e.prop,.int .i64 x.e.gate,sv,ca,cb,cc,x.csl])):=V4 (by rw[St.get_put,Qm rfl]) rfl rfl (by simp) hcs3.2
   obtain⟨s4,hs4⟩:∃ s4,s4=(s3.put s.next (.row [.int .i64 x.e.prop,.int .i64 x.e.gate,sv,a,b',c',x.csl])).put s.next (.row [.int .i64 x.e.prop,.int .i64 x.e.gate,sv,ca,cb,cc,x.csl]):=⟨_,rfl⟩
   rw[<-hs4] at t2
   have n4:s4.next=s3.next:=by rw[hs4];rfl
   have o4':∀ j,j≠s.next->s4.get j=s3.get j:=fun j hj=>by rw[hs4,St.get_put,Qe hj,St.get_put,Qe hj]
   have G4:s4.get s.next=some (.row [.int .i64 x.e.prop,.int .i64 x.e.gate,sv,ca,cb,cc,x.csl]):=by rw[hs4,St.get_put,Qm rfl]
   have nn:=k2.1
   have nn3:=k3.1
   have k4:Vd s s4:=⟨by omega,fun j hj=>by rw[o4' j (by omega),k3.2 j (by omega),k2.2 j (by omega),k1.2 j hj]⟩
   have hy7:[AV.int .i64 x.e.prop,.int .i64 x.e.gate,sv,ca,cb,cc,x.csl].all AV.one=true:=by
    have h3:=hcs3.2
    simp only[QN,QW,Qy,Qd] at h3
    simp only[QN,QW,osv,h3.1,h3.2.1,h3.2.2];rfl
   have l47:Vf true 7 s4 (.ptr s.next 0)=some (.agg [.int .i64 x.e.prop,.int .i64 x.e.gate,sv,ca,cb,cc,x.csl]):=Wk G4 rfl
   have ct:=cnt7 (s:=s4) (y:=[.int .i64 x.e.prop,.int .i64 x.e.gate,sv,ca,cb,cc,x.csl]) rfl
   have fl:=fl7 (y:=[.int .i64 x.e.prop,.int .i64 x.e.gate,sv,ca,cb,cc,x.csl]) rfl
   obtain⟨s5,ap,n5,o5,hgr5⟩:=hgr.app (bytes:=120) hks.1 (by omega) (by omega) k4 (y:=[.int .i64 x.e.prop,.int .i64 x.e.gate,sv,ca,cb,cc,x.csl]) ⟨rfl,hy7⟩
   have hold:∀ i,s.next<=i->¬ hO mv i:=fun i hi ⟨_,_,_,_,he⟩=>by
    rcases hgr.2 with⟨h,_⟩|⟨oid,p1,p2,p3,_⟩
    ·rw[h] at he;cases he
    ·rw[p3] at he;injection he with h1;omega
   have holdb:∀ i,i < st.next->¬ hO mv i:=fun i hi ⟨_,_,_,_,he⟩=>by
    rcases hgr.2 with⟨h,_⟩|⟨oid,p1,p2,p3,_⟩
    ·rw[h] at he;cases he
    ·rw[p3] at he;injection he with h1;omega
   have hk0:=hks.1
   have k5:Vd st s5:=⟨by omega,fun j hj=>by rw[o5 j (by omega) (holdb j hj),k4.2 j (by omega),hks.2 j hj]⟩
   have hnew:∀ i,i < s4.next->¬ hO (.own s4.next 0 (rows.length+1) 7 none (rows.length+1)) i:=fun i hi ⟨_,_,_,_,he⟩=>by injection he with h1;omega
   have Sold:Vs (fun i=>st.next<=i/\i < s.next/\¬ hO mv i) s s5:=fun i hi=>by rw[o5 i (by omega) hi.2.2,k4.2 i hi.2.1]
   have S25:Vs (fun i=>s1.next<=i/\i < s2.next) s2 s5:=fun i hi=>by rw[o5 i (by omega) (hold i (by omega)),o4' i (by omega),k3.2 i hi.2]
   have S35:Vs (fun i=>s2.next<=i/\i < s3.next) s3 s5:=fun i hi=>by rw[o5 i (by omega) (hold i (by omega)),o4' i (by omega)]
   have had:=WC (i:=k) (by omega)
   rw[Qs hkN] at hlt
   obtain⟨J43,H43,O43_10⟩:∃ fr',ar (q+1) Y wg32_3 f s=.ok fr' s/\fr'.get 10=some (.bool true):=⟨_,by simp only[amE,rQ,↓reduceIte,rA,q8,q9,wg32_3,hlt]<;>rfl,gh⟩
   have V43_3:=ag H43 q3
   have V43_7:=ag H43 q7
   have V43_8:=ag H43 q8
   have V43_9:=ag H43 q9
   have W43:=ad H43 d0
   obtain⟨J44,H44,O44_5⟩:∃ fr',ar (q+1) Y wg32_4 J43 s=.ok fr' s/\fr'.get 5=some (.ptr x.id 0):=⟨_,by simp only[amE,rQ,↓reduceIte,rA,V43_7,V43_9,wg32_4,ie,lde]<;>rfl,gh⟩
   have V44_3:=ag H44 V43_3
   have V44_7:=ag H44 V43_7
   have V44_8:=ag H44 V43_8
   have V44_9:=ag H44 V43_9
   have W44:=ad H44 W43
   obtain⟨J45,H45,O45_6⟩:∃ fr',ar (q+1) Y wg32_5 J44 s=.ok fr' s1/\fr'.get 6=some (.ptr s.next 0):=⟨_,by simp only[amE,rQ,↓reduceIte,rA,O44_5,wg32_5,Yq,faP,l7,sto]<;>rfl,gh⟩
   have V45_3:=ag H45 V44_3
   have V45_7:=ag H45 V44_7
   have V45_8:=ag H45 V44_8
   have V45_9:=ag H45 V44_9
   have W45:=ad H45 W44
   obtain⟨J46,H46,K46⟩:∃ fr',VK ((gT (q+1)).cg Y) wg32_6 [(4,some 2),(4,some 5)] J45 s1=.ok fr' s4/\Kp [3,7,8,9,10,5,6] J45 fr':=by
    refine⟨?r460,?r461,?r462⟩
    case r461=>
     refine KB (its:=?r46i) ?r46x ?r46y ?r46z
     case r46x=>
      simp only[amE,rQ,↓reduceIte,rA,WH,WU,DR.cons,V5,VJ,VT,O45_6,wg32_6,faP,e1,e3,e3',c54,c80,t1,t2]
      rfl
     case r46y=>rfl
     case r46z=>
      simp only[QN,QW,Qy,Qd]
      refine⟨Wo (i:=4) (k:=2) rfl rfl rfl rfl ?r46k0,Wo (i:=4) (k:=5) rfl rfl rfl rfl ?r46k1⟩
      case r46k0=>
       right
       refine⟨?r46s0,?r46l0,(by simp only[V8,hbq])⟩
       case r46l0=>
        simp only[amE,rQ,↓reduceIte,rA,V5,O45_6,wg32_6,faP,e1,e3,e3',c54,c80,t1,t2]
        rfl
      case r46k1=>
       right
       refine⟨?r46s1,?r46l1,(by simp only[V8,hbq])⟩
       case r46l1=>
        simp only[amE,rQ,↓reduceIte,rA,V5,O45_6,wg32_6,faP,e1,e3,e3',c54,c80,t1,t2]
        rfl
    case r462=>repeat (first | exact Kp.refl | refine Kp.set (by decide) ?_)
   have V46_3:=K46.g 3 V45_3
   have V46_7:=K46.g 7 V45_7
   have V46_8:=K46.g 8 V45_8
   have V46_9:=K46.g 9 V45_9
   have V46_6:=K46.g 6 O45_6
   have W46:=K46.1.trans W45
   obtain⟨J47,H47,O47_3⟩:∃ fr',ar (q+1) Y wg32_7 J46 s4=.ok fr' s5/\fr'.get 3=some (.own s4.next 0 (rows.length+1) 7 none (rows.length+1)):=⟨_,by simp only[amE,rQ,↓reduceIte,rA,V46_3,V46_6,wg32_7,l47,fl,ct,ap,tag0]<;>rfl,gh⟩
   have V47_7:=ag H47 V46_7
   have V47_8:=ag H47 V46_8
   have V47_9:=ag H47 V46_9
   have W47:=ad H47 W46
   obtain⟨J48,H48,O48_9⟩:∃ fr',ar (q+1) Y wg32_8 J47 s5=.ok fr' s5/\fr'.get 9=some (ZI ((k+1))):=⟨_,by simp only[amE,rQ,↓reduceIte,rA,V47_9,wg32_8,had]<;>rfl,gh⟩
   have V48_7:=ag H48 V47_7
   have V48_8:=ag H48 V47_8
   have V48_3:=ag H48 O47_3
   have W48:=ad H48 W47
   have hI48:ac (q+1) Y Tq none f s=.norm J48 s5:=by
    simp only[amE,rQ,↓reduceIte,rA,Tq,b00,b11,b22,b33,H43,H44,H45,H46,H47,H48,O43_10]
   rw[hI48]
   exact⟨hkN,W48,V48_7,V48_8,O48_9,k5,_,_,V48_3,hgr5,by simp[hrl],fun h=>absurd h (by simp),fun j y ys hj hr=>by
     by_cases hjk:j < k
     ·rw[Xk (by omega)] at hr
      exact(hmv j y ys hj hr).mono Sold fun i hi=>⟨hi.1,by omega,hnew i (by omega)⟩
     ·by_cases hjk2:j=k
      ·subst hjk2
       rw[Xg (by omega),hrl,ZJ] at hr
       rw[hx] at hj;injection hj with hj;subst hj
       simp only[Q0,Qa] at hr
       subst hr
       exact⟨sv,xv,[ca,cb,cc],rfl,hv1.mono S25 fun i hi=>⟨by omega,by omega,hnew i (by omega)⟩,Vy.mono S25 (fun i hi=>⟨by omega,by omega,hnew i (by omega)⟩) _ _ hv2,VU.mono S35 (fun i hi=>⟨by omega,by omega,hnew i (by omega)⟩) _ _ hd3⟩
      ·rw[Za (by simp;omega)] at hr;cases hr⟩
  ·rw[Qp hkN] at hlt
   have hkl:k=PS.length:=by omega
   obtain⟨J49,H49,O49_10⟩:∃ fr',ar (q+1) Y wg32_3 f s=.ok fr' s/\fr'.get 10=some (.bool false):=⟨_,by simp only[amE,rQ,↓reduceIte,rA,q8,q9,wg32_3,hlt]<;>rfl,gh⟩
   have V49_3:=ag H49 q3
   have W49:=ad H49 d0
   have hI49:ac (q+1) Y Tq none f s=.exit 0 J49 s:=by
    simp only[amE,rQ,↓reduceIte,rA,Tq,b00,b11,b22,b33,H49,O49_10]
   rw[hI49]
   exact⟨_,_,mv,rows,rfl,W49,V49_3,hks,hgr,by omega,hz,hmv⟩
 obtain⟨fA50,hA50⟩:∃ fA,fA=Vo 0 [ov] Fr.nil:=⟨_,rfl⟩
 have gA50_0:=gAt hA50 0
 have dA50:fA50.ds=[]:=by rw[hA50];rfl
 obtain⟨J51,H51⟩:∃ fr',ar (q+1) Y wg32_0 fA50 st=.ok fr' st:=⟨_,by simp only[amE,rQ,↓reduceIte,rA,wg32_0]<;>rfl⟩
 have V51_0:=ag H51 gA50_0
 have W51:=ad H51 dA50
 obtain⟨J52,H52,O52_3⟩:∃ fr',ar (q+1) Y wg32_1 J51 st=.ok fr' st/\fr'.get 3=some (.nilsl):=⟨_,by simp only[amE,rQ,↓reduceIte,rA,wg32_1]<;>rfl,gh⟩
 have V52_0:=ag H52 V51_0
 have W52:=ad H52 W51
 obtain⟨J53,H53,O53_7,O53_8,O53_9⟩:∃ fr',ar (q+1) Y wg32_2 J52 st=.ok fr' st/\fr'.get 7=some (ov)/\fr'.get 8=some (ZI PS.length)/\fr'.get 9=some Z0:=⟨_,by simp only[amE,rQ,↓reduceIte,rA,V52_0,wg32_2,hln]<;>rfl,gn (gn gh),gn gh,gh⟩
 have V53_3:=ag H53 O52_3
 have W53:=ad H53 W52
 obtain⟨FR,s',mv,rows,hL,dF,F3,k3,hgr,hrl,hz,hmv⟩:=hL J53 W53 V53_3 O53_7 O53_8 O53_9
 obtain⟨J55,H55,O55_2⟩:∃ fr',ar (q+1) Y wg32_9 FR s'=.ok fr' s'/\fr'.get 2=some (mv):=⟨_,by simp only[amE,rQ,↓reduceIte,rA,F3,wg32_9]<;>rfl,gh⟩
 have W55:=ad H55 dF
 refine⟨mv,rows,_,Ve (mf:=wf32) (fr:=J55) t32 rfl (.inl ?q55) W55 (by simp only[wf32,amE,O55_2]),k3,hgr.sln (by omega) (by omega),hrl,fun j x ys hj hr=>(hmv j x ys hj hr).mono (Vs.refl _ _) fun i hi=>⟨hi.1,hi.2.1⟩,fun h=>hz (XU.1 (by rw[hrl,h];rfl))⟩
 case q55=>
  rw[<-hA50]
  simp only[amE,rQ,↓reduceIte,rA,wf32,b00,b11,b22,b33,H51,H52,H53,hL,H55]
def wg10_0:List Vc:=[ZO 2 (.box true (.t 0)),ZM 4 (.c .nilsl),ZO 5 (.alloc [Z0,Z0,Z0]),ZM 6 (ZC 0)]
def wg10_1:List Vc:=[ZK 9 3 2,ZX 10 29 [(.t 9)],ZO 11 (.un .not (.t 10))]
def wg10_2:List Vc:=[ZO 12 (.build [Z0,Z0,Z0] []),ZM 4 (.c .nilsl),ZS 3 5 12,ZM 6 (ZC 300)]
def wg10_3:List Vc:=[ZK 13 3 2,ZV 14 1,ZX 15 30 [(.t 13),(.t 14)],ZO 16 (.un .not (.t 15))]
def wg10_4:List Vc:=[ZO 17 (.build [Z0,Z0,Z0] []),ZM 4 (.c .nilsl),ZS 3 5 17,ZM 6 (ZC 320)]
def wg10_5:List Vc:=[ZK 19 3 2,ZV 20 1,ZX 21 31 [(.t 19),(.t 20)],ZV 18 21,ZO 22 (.extract 0 (.t 18)),ZO 23 (.extract 1 (.t 18)),ZO 8 (.alloc [Z0,Z0,Z0]),ZV 7 22,ZS 3 8 23]
def wg10_6:List (Vc × Nat):=[(ZV 24 7,0),(ZX 25 32 [(.t 24)],1),(ZK 26 3 8,0),(ZV 4 25,3),(ZS 3 5 26,15),(ZM 6 (ZC 0),31)]
def wf10:Vm:=⟨27,(ZQ wg10_0 (.seq (ZQ wg10_1 (.cond (.t 11) (ZR wg10_2) .skip)) (.seq (ZQ wg10_3 (.cond (.t 16) (ZR wg10_4) .skip)) (ZQ wg10_5 (.seq (.draw wg10_6 [(2,some 1),(2,some 4)]) .ret))))),[.t 4,.cell 5 true 3,.t 6]⟩
theorem t10:tbl 10=some wf10:=by kernel_rfl
set_option maxHeartbeats 1000000 in
theorem merge10_run{F:Nat->Prop}{st:St}{lv pv jv:AV}{ls:List (List AV)}{ps:List Int}{N:Int}{js:List (AV × List En)}(hl:SlN 1 F st lv ls)(hp:SlI F st pv ps)(hj:YQ F st jv js)(hF:∀ i,F i->i < st.next)(hP:ps.length=ls.length)(hA:JK ls.length N js=true)(m:Nat)(Y:Vi)(hn:fzJ js+40000 < m)(hk24:ls.length<=24)(hpl:planB ls.length ps N=true):
  ∃ st' mv r,R (m+5) Y 10 [.agg [lv,pv,.int .i64 N],jv] st=.ret (.tuple [mv,.agg r,ZI 0]) st'/\Vd st st' ∧
   ((okM ls.length ps (Vq js)/\r=[Z0,Z0,Z0]/\∃ (PS:List Pr) (rows:List (List AV)),PS.map (fun x=>x.e.prop)=(Yb (Vq js)).2/\SlN 7 (fun i=>st.next<=i/\i < st'.next) st' mv rows/\rows.length=PS.length/\(∀(j:Nat) (x:Pr) (ys:List AV),PS[j]?=some x->rows[j]?=some ys->MvR (fun i=>st.next<=i/\i < st'.next) st' x ys)/\∀ x∈PS,PrM (Vq js) st.next st' x) ∨
    (¬ okM ls.length ps (Vq js)/\mv=.nilsl/\∃ kd p i:Nat,kd≠0/\r=[ZI kd,ZI p,ZI i])):=by
 have hAo:=hA
 unfold JK at hAo
 simp only[Qd,QF,QB] at hAo
 obtain⟨⟨hA1,hA2⟩,hA3⟩:=hAo
 obtain⟨s0,hs0⟩:∃ s0,s0=st.new (.row [Z0,Z0,Z0]):=⟨_,rfl⟩
 have n0:s0.next=st.next+1:=by rw[hs0];rfl
 have k0:Vd st s0:=by rw[hs0];exact Vd.new st _
 have g0:s0.get st.next=some (.row [Z0,Z0,Z0]):=by rw[hs0,St.get_new,Qm rfl]
 have S0:=Vs.of k0 hF
 have hF0:∀ i,F i->i < s0.next:=fun i hi=>by have:=hF i hi;omega
 have hl0:=hl.mono S0 fun _ h=>h
 have hp0:=hp.mono S0 fun _ h=>h
 have hpn:ps.length<=24:=by omega
 have c29:((gT (m+4)).cg Y).fn 29 [.agg [lv,pv,.int .i64 N]] s0=.ret (.bool true) (s0.new (.row [lv,pv,.int .i64 N])):=by
  have:=layout_run (n:=m) (Y:=Y) (N:=N) hl0 hp0 hF0 (by omega)
  rw[hpl] at this;exact this
 have k1:Vd s0 (s0.new (.row [lv,pv,.int .i64 N])):=Vd.new s0 _
 have n1:(s0.new (.row [lv,pv,.int .i64 N])).next=s0.next+1:=rfl
 generalize s0.new (.row [lv,pv,.int .i64 N])=s1 at c29 k1 n1
 have S1:=Vs.of (k0.trans k1) hF
 have hF1:∀ i,F i->i < s1.next:=fun i hi=>by have:=hF i hi;omega
 obtain⟨s2,c30,k2⟩:=journals_run (hl.mono S1 fun _ h=>h) (hj.mono S1 fun _ h=>h) hF1 (m+2) Y (by omega) hA
 have c30:((gT (m+4)).cg Y).fn 30 [.agg [lv,pv,.int .i64 N],jv] s1=.ret (.bool true) s2:=c30
 have n2:=k2.1
 have S2:=Vs.of ((k0.trans k1).trans k2) hF
 have hF2:∀ i,F i->i < s2.next:=fun i hi=>by have:=hF i hi;omega
 obtain⟨s3,ov,r,c31,k3,hM⟩:=merge_run (hl.mono S2 fun _ h=>h) (hp.mono S2 fun _ h=>h) (hj.mono S2 fun _ h=>h) hF2 hP hA (m+1) Y (by omega) hk24
 have c31:((gT (m+4)).cg Y).fn 31 [.agg [lv,pv,.int .i64 N],jv] s2=.ret (.tuple [ov,.agg r]) s3:=c31
 have n3:=k3.1
 obtain⟨ra,rb,rc,hr⟩:∃ ra rb rc:Int,r=[.int .i64 ra,.int .i64 rb,.int .i64 rc]:=by
  rcases hM with⟨_,h,_⟩|⟨_,_,_,_,_,_,h⟩<;>exact⟨_,_,_,h⟩
 rw[hr] at c31
 have sto:Vt 3 (s3.new (.row [Z0,Z0,Z0])) (.ptr s3.next 0) (.agg [.int .i64 ra,.int .i64 rb,.int .i64 rc])=some ((s3.new (.row [Z0,Z0,Z0])).put s3.next (.row [.int .i64 ra,.int .i64 rb,.int .i64 rc])):=VQ rfl rfl rfl
 obtain⟨s4,hs4⟩:∃ s4,s4=(s3.new (.row [Z0,Z0,Z0])).put s3.next (.row [.int .i64 ra,.int .i64 rb,.int .i64 rc]):=⟨_,rfl⟩
 rw[<-hs4] at sto
 have n4:s4.next=s3.next+1:=by rw[hs4];rfl
 have k4:Vd s3 s4:=by rw[hs4];exact(Vd.refl s3).newput _ _
 have g4:s4.get s3.next=some (.row [.int .i64 ra,.int .i64 rb,.int .i64 rc]):=by rw[hs4,St.get_put,Qm rfl]
 -- the moves
 obtain⟨PS,hov,hPS,hcase⟩:∃ PS:List Pr,JU s2.next s3 ov PS/\(∀ x∈PS,PrM (Vq js) s2.next s3 x)/\((okM ls.length ps (Vq js)/\r=[Z0,Z0,Z0]/\PS.map (fun x=>x.e.prop)=(Yb (Vq js)).2)\/(¬ okM ls.length ps (Vq js)/\ov=.nilsl/\PS=[]/\∃ kd p i:Nat,kd≠0/\r=[ZI kd,ZI p,ZI i])):=by
  rcases hM with⟨h1,h2,PS,h3,h4,h5⟩|⟨h1,h2,h3⟩
  ·exact⟨PS,h4,h5,.inl ⟨h1,h2,h3⟩⟩
  ·exact⟨[],.inl ⟨h2,rfl⟩,fun x hx=>by simp at hx,.inr ⟨h1,h2,rfl,h3⟩⟩
 have hov4:JU s2.next s4 ov PS:=hov.keep (fun j _ h=>k4.2 j h) k4.1
 have hen:∀ x∈PS,(∃ q∈js,x.e∈q.2)/\En.good ls.length x.e=true/\x.e.ok:=fun x hx=>by
  have h1:(x.p,x.i,x.e)∈Vq js:=X9 (hPS x hx).1
  unfold Vq at h1
  obtain⟨y,hy,hzr⟩:=QO.1 h1
  have hy1:y.1∈js:=by
   have hy':=XF hy
   rw[hy'.2.2];exact Xu _
  unfold row at hzr
  obtain⟨u,hu,hue⟩:=Q6.1 hzr
  have hu1:u.1∈y.1.2:=by
   have hu':=XF hu
   rw[hu'.2.2];exact Xu _
  have he:x.e=u.1:=by injection hue with _ h;injection h with _ h;exact h.symm
  rw[he]
  exact⟨⟨y.1,hy1,hu1⟩,hA3 y.1 hy1 u.1 hu1,(hj.2 y.1 hy1).2 u.1 hu1⟩
 have hPn:PS.length<=4000:=by
  rcases hcase with⟨h1,h2,h3⟩|⟨_,_,h,_⟩
  ·have h4:=Xn List.length h3
   rw[Qu] at h4
   have hpl':∀ l:List En,(V6 l).length<=l.length:=fun l=>by
    induction l using JS with
    | nil=>simp[V6]
    | snoc l x ih=>
     rw[Yp]
     split
     ·simp;omega
     ·simp;omega
   have hfE:YP (ens (Vq js)):=h1.1.fitE fun z hz=>by
    unfold Vq at hz
    obtain⟨y,hy,hzr⟩:=QO.1 hz
    have hy1:y.1∈js:=by
     have hy':=XF hy
     rw[hy'.2.2];exact Xu _
    unfold row at hzr
    obtain⟨u,hu,rfl⟩:=Q6.1 hzr
    have hu1:u.1∈y.1.2:=by
     have hu':=XF hu
     rw[hu'.2.2];exact Xu _
    have hg:=hA3 y.1 hy1 u.1 hu1
    unfold En.good at hg
    simp only[Qd,QF] at hg
    exact⟨((Tb _).1 hg.1.1.1.1.1.1).1,hg.1.2⟩
   have hpo:=(UL hfE (Wn (V6 (ens (Vq js)))).length (Wn (V6 (ens (Vq js)))) [] (by rw[QG];exact(WA _).nodup_iff.2 (Wu _)) (Y9.nil _) (YB.nil _)).2.2.length_eq
   rw[QG,QJ] at hpo
   have h7:(Yb (Vq js)).1.length+(Yb (Vq js)).2.length=(Wn (V6 (ens (Vq js)))).length:=hpo
   have h8:=(WA (V6 (ens (Vq js)))).length_eq
   have h5:=hpl' (ens (Vq js))
   rw[spots_len] at h5
   omega
  ·rw[h];simp
 obtain⟨mv,rows,s5,c32,k5,hsl5,hrl,hmv,hnil⟩:=moves32_run hov4 (fun x hx=>by
  obtain⟨_,hg,hok⟩:=hen x hx
  obtain⟨_,_,p3,_,_,_,p7,_⟩:=hPS x hx
  unfold En.good valsB at hg
  simp only[Qd,QF] at hg
  exact⟨(k4.2 _ p7).trans p3,by omega,hok,SF hg.1.1.1.2.2,hg.1.1.1.2.1,((isDv_iff _).1 hg.1.1.2).1⟩) hPn (m+3) Y (by omega) (fun x hx=>by
  obtain⟨⟨q,hq,hxq⟩,_,_⟩:=hen x hx
  have:=fzJ_en hq hxq
  omega)
 have c32:((gT (m+4)).cg Y).fn 32 [ov] s4=.ret mv s5:=c32
 have l8:Vf true 3 s5 (.ptr s3.next 0)=some (.agg [.int .i64 ra,.int .i64 rb,.int .i64 rc]):=Wk ((k5.2 _ (by omega)).trans g4) rfl
 have l8':Vf true 3 s4 (.ptr s3.next 0)=some (.agg [.int .i64 ra,.int .i64 rb,.int .i64 rc]):=Wk g4 rfl
 have n5:=k5.1
 have g5:s5.get st.next=some (.row [Z0,Z0,Z0]):=by rw[k5.2 _ (by omega),k4.2 _ (by omega),k3.2 _ (by omega),k2.2 _ (by omega),k1.2 _ (by omega)];exact g0
 have t5:Vt 3 s5 (.ptr st.next 0) (.agg [.int .i64 ra,.int .i64 rb,.int .i64 rc])=some (s5.put st.next (.row [.int .i64 ra,.int .i64 rb,.int .i64 rc])):=V4 g5 rfl rfl (by simp) rfl
 obtain⟨s6,hs6⟩:∃ s6,s6=s5.put st.next (.row [.int .i64 ra,.int .i64 rb,.int .i64 rc]):=⟨_,rfl⟩
 rw[<-hs6] at t5
 have n6:s6.next=s5.next:=by rw[hs6];rfl
 have o6:∀ j,j≠st.next->s6.get j=s5.get j:=fun j hj=>by rw[hs6,St.get_put,Qe hj]
 have ldr:Vf true 3 s6 (.ptr st.next 0)=some (.agg [.int .i64 ra,.int .i64 rb,.int .i64 rc]):=Wk (by rw[hs6,St.get_put,Qm rfl]) rfl
 have kk:Vd st s6:=⟨by omega,fun j hj=>by rw[o6 j (by omega),k5.2 j (by omega),k4.2 j (by omega),k3.2 j (by omega),k2.2 j (by omega),k1.2 j (by omega),k0.2 j hj]⟩
 have S56:Vs (fun i=>s4.next<=i/\i < s5.next) s5 s6:=fun i hi=>o6 i (by omega)
 have hW:∀ i,(s4.next<=i/\i < s5.next)->(st.next<=i/\i < s6.next):=fun i hi=>⟨by omega,by omega⟩
 have hfin:(okM ls.length ps (Vq js)/\[AV.int .i64 ra,.int .i64 rb,.int .i64 rc]=[Z0,Z0,Z0]/\∃ (PS:List Pr) (rows:List (List AV)),PS.map (fun x=>x.e.prop)=(Yb (Vq js)).2/\SlN 7 (fun i=>st.next<=i/\i < s6.next) s6 mv rows/\rows.length=PS.length/\(∀(j:Nat) (x:Pr) (ys:List AV),PS[j]?=some x->rows[j]?=some ys->MvR (fun i=>st.next<=i/\i < s6.next) s6 x ys)/\∀ x∈PS,PrM (Vq js) st.next s6 x) ∨
    (¬ okM ls.length ps (Vq js)/\mv=.nilsl/\∃ kd p i:Nat,kd≠0/\[AV.int .i64 ra,.int .i64 rb,.int .i64 rc]=[ZI kd,ZI p,ZI i]):=by
  rw[<-hr]
  rcases hcase with⟨h1,h2,h3⟩|⟨h1,h2,h3,h4⟩
  ·refine .inl ⟨h1,h2,PS,rows,h3,hsl5.mono S56 hW,hrl,fun j x ys hj' hr'=>(hmv j x ys hj' hr').mono S56 hW,fun x hx=>?_⟩
   obtain⟨p1,p2,p3,p4,p5,p6,p7,p8⟩:=hPS x hx
   exact⟨p1,p2,by rw[o6 _ (by omega),k5.2 _ (by omega),k4.2 _ p7];exact p3,by rw[o6 _ (by omega),k5.2 _ (by omega),k4.2 _ p8];exact p4,by omega,by omega,by omega,by omega⟩
  ·refine .inr ⟨h1,?_,h4⟩
   exact hnil h3
 obtain⟨fA56,hA56⟩:∃ fA,fA=Vo 0 [.agg [lv,pv,.int .i64 N],jv] Fr.nil:=⟨_,rfl⟩
 have gA56_0:=gAt hA56 0
 have gA56_1:=gAt hA56 1
 have dA56:fA56.ds=[]:=by rw[hA56];rfl
 obtain⟨J57,H57,O57_2,O57_4,O57_5,O57_6⟩:∃ fr',ar (m+4) Y wg10_0 fA56 st=.ok fr' s0/\fr'.get 2=some (.fptr [lv,pv,.int .i64 N] 0)/\fr'.get 4=some (.nilsl)/\fr'.get 5=some (.ptr st.next 0)/\fr'.get 6=some Z0:=⟨_,by simp only[amE,rQ,↓reduceIte,rA,gA56_0,wg10_0,hs0]<;>rfl,gn (gn (gn gh)),gn (gn gh),gn gh,gh⟩
 have V57_1:=ag H57 gA56_1
 have W57:=ad H57 dA56
 obtain⟨J58,H58,O58_11⟩:∃ fr',ar (m+4) Y wg10_1 J57 s0=.ok fr' s1/\fr'.get 11=some (.bool false):=⟨_,by simp only[amE,rQ,↓reduceIte,rA,O57_2,wg10_1,Jh,c29,WN,Qc,Qc,Qb]<;>rfl,gh⟩
 have V58_1:=ag H58 V57_1
 have V58_2:=ag H58 O57_2
 have V58_5:=ag H58 O57_5
 have W58:=ad H58 W57
 obtain⟨J59,H59,O59_16⟩:∃ fr',ar (m+4) Y wg10_3 J58 s1=.ok fr' s2/\fr'.get 16=some (.bool false):=⟨_,by simp only[amE,rQ,↓reduceIte,rA,V58_1,V58_2,wg10_3,Jh,c30,WN,Qc,Qc,Qb]<;>rfl,gh⟩
 have V59_1:=ag H59 V58_1
 have V59_2:=ag H59 V58_2
 have V59_5:=ag H59 V58_5
 have W59:=ad H59 W58
 obtain⟨J60,H60,O60_7,O60_8⟩:∃ fr',ar (m+4) Y wg10_5 J59 s2=.ok fr' s4/\fr'.get 7=some (ov)/\fr'.get 8=some (.ptr s3.next 0):=⟨_,by simp only[amE,rQ,↓reduceIte,rA,V59_1,V59_2,wg10_5,Jh,c31,extract0,extract1,sto]<;>rfl,gh,gn gh⟩
 have V60_5:=ag H60 V59_5
 have W60:=ad H60 W59
 obtain⟨J61,H61,K61,O61_4,O61_6⟩:∃ fr',VK ((gT (m+4)).cg Y) wg10_6 [(2,some 1),(2,some 4)] J60 s4=.ok fr' s6/\Kp [0,1,2,5,11,16,7,8] J60 fr'/\fr'.get 4=some (mv)/\fr'.get 6=some Z0:=by
  refine⟨?r610,?r611,?r612,?r61o4,?r61o6⟩
  case r611=>
   refine KB (its:=?r61i) ?r61x ?r61y ?r61z
   case r61x=>
    simp only[amE,rQ,↓reduceIte,rA,WH,WU,DR.cons,V5,VJ,VT,V60_5,O60_7,O60_8,wg10_6,c32,l8,l8',t5]
    rfl
   case r61y=>rfl
   case r61z=>
    simp only[QN,QW,Qy,Qd]
    refine⟨Wo (i:=2) (k:=1) rfl rfl rfl rfl ?r61k0,Wo (i:=2) (k:=4) rfl rfl rfl rfl ?r61k1⟩
    case r61k0=>
     right
     refine⟨?r61s0,?r61l0,(avBeq3 _ _ _)⟩
     case r61l0=>
      simp only[amE,rQ,↓reduceIte,rA,V5,V60_5,O60_7,O60_8,wg10_6,c32,l8,l8',t5]
      rfl
    case r61k1=>
     right
     refine⟨?r61s1,?r61l1,(avBeq3 _ _ _)⟩
     case r61l1=>
      simp only[amE,rQ,↓reduceIte,rA,V5,V60_5,O60_7,O60_8,wg10_6,c32,l8,l8',t5]
      rfl
  case r612=>repeat (first | exact Kp.refl | refine Kp.set (by decide) ?_)
  case r61o4=>simp only[Fr.get_set,rQ,↓reduceIte]
  case r61o6=>simp only[Fr.get_set,rQ,↓reduceIte]
 have V61_5:=K61.g 5 V60_5
 have W61:=K61.1.trans W60
 refine⟨_,mv,[.int .i64 ra,.int .i64 rb,.int .i64 rc],Ve (mf:=wf10) (fr:=J61) t10 rfl (.inl ?q61) W61 (by simp only[wf10,amE,O61_4,O61_6,V61_5,ldr]),kk,hfin⟩
 case q61=>
  rw[<-hA56]
  simp only[amE,rQ,↓reduceIte,rA,wf10,b00,b11,b22,b33,H57,H58,H59,H60,H61,O58_11,O59_16]
end
end Go.AM.D32
