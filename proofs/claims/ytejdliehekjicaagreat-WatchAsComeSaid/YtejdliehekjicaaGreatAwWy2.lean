import Derived.Test.YtejdliehekjicaaGreatAwWa23
import Derived.Test.YtejdliehekjicaaGreatAwRef
set_option maxRecDepth 100000
set_option linter.unusedSimpArgs false
namespace Go.AM.D32
open Go Go.AM
noncomputable section
open Nat renaming reduceEqDiff -> rQ, reduceAdd -> rA
def GrW(z b:Nat)(s:St)(ov:AV)(xs:List (List AV)):Prop:=(∀ x∈xs,x.length=z/\x.all AV.one=true)/\((ov=.nilsl/\xs=[])\/∃ oid,b<=oid/\oid < s.next/\ov=.own oid 0 xs.length z none xs.length/\s.get oid=some (.row xs.flatten))
def hO(ov:AV)(i:Nat):Prop:=∃ n z c l,ov=.own i 0 n z c l
theorem flatY_len{z:Nat}{xs:List (List AV)}(h:∀ x∈xs,x.length=z/\x.all AV.one=true):xs.flatten.length=xs.length*z:=by
 induction xs with
 | nil=>simp
 | cons y ys ih=>
  simp only[Xc,QJ,QC]
  rw[ih fun x hx=>h x (by simp[hx]),(h y (by simp)).1,Xv];omega
theorem GrW.app{bytes z b:Nat}{s s2:St}{ov:AV}{xs:List (List AV)}{y:List AV}(h:GrW z b s ov xs)(hb:b<=s.next)(hbb:(xs.length+1)*bytes<=140737488355328)(hb':xs.length+1<=140737488355328)(k:Vd s s2)(hy:y.length=z/\y.all AV.one=true):
  ∃ s3,VX bytes z s2 ov 1 y=some (.own s2.next 0 (xs.length+1) z none (xs.length+1),s3)/\s3.next=s2.next+1/\(∀ j,j < s2.next->¬ hO ov j->s3.get j=s2.get j)/\GrW z b s3 (.own s2.next 0 (xs.length+1) z none (xs.length+1)) (xs++[y]):=by
 obtain⟨hx,hc⟩:=h
 have hx':∀ x∈xs++[y],x.length=z/\x.all AV.one=true:=fun x hxm=>by
  rcases QV.1 hxm with h | h
  ·exact hx x h
  ·rw[Xd.1 h];exact hy
 have hk:=k.1
 rcases hc with⟨rfl,rfl⟩|⟨oid,h1,h2,rfl,h4⟩
 ·refine⟨s2.new (.row y),?_,rfl,fun j hj _=>by rw[St.get_new,Qe (by omega)],hx',.inr ⟨s2.next,by omega,by simp,by simp,by rw[St.get_new,Qm rfl];simp⟩⟩
  unfold VX
  simp only[show Nat.beq 1 0=false from rfl,Qq,Qo (show 1*bytes<=140737488355328 by simpa using hbb),show Nat.ble 1 140737488355328=true from rfl,Qy,Qi]
  rfl
 ·have hg2:s2.get oid=some (.row xs.flatten):=(k.2 oid h2).trans h4
  have hl:=flatY_len hx
  have e5:Nat.ble (xs.length+1) xs.length=false:=by
   cases hxx:Nat.ble (xs.length+1) xs.length with
   | false=>rfl
   | true=>have:=Qk hxx;omega
  refine⟨(s2.del oid).new (.row (xs.flatten++y)),?_,rfl,fun j hj hn=>?_,hx',.inr ⟨s2.next,by omega,by simp,by simp,?_⟩⟩
  ·unfold VX
   simp only[show Nat.beq 1 0=false from rfl,Qq,hg2,QD,Qo hbb,Qo hb',Q7,hl,Qo (Qw (xs.length*z)),hy.2,Qy,Qi,KY,e5,Qq]
  ·rw[St.get_new,Qe (by show j≠s2.next;omega),St.get_del,Qe (fun e=>hn ⟨_,_,_,_,by rw[e]⟩)]
  ·show ((s2.del oid).new _).get (s2.del oid).next=_
   rw[St.get_new,Qm rfl];simp
theorem GrW.sln{z b:Nat}{s:St}{ov:AV}{xs:List (List AV)}(h:GrW z b s ov xs)(hz:0 < z)(hb:xs.length<=4611686018427387904):SlN z (fun i=>b<=i/\i < s.next) s ov xs:=by
 obtain⟨hx,hc⟩:=h
 refine⟨hz,hx,hb,?_⟩
 rcases hc with h|⟨oid,h1,h2,h3,h4⟩
 ·exact .inl h
 ·exact .inr (.inr ⟨oid,none,xs.length,[],h3,⟨h1,h2⟩,by rw[QG];exact h4⟩)
def MvR(G:Nat->Prop)(s:St)(x:Pr)(ys:List AV):Prop:=∃ sv xv cs,ys=[.int .i64 x.e.prop,.int .i64 x.e.gate,sv]++cs++[x.csl]/\SlR G s sv xv/\Vy G s x.e.vals xv/\VU G s x.e.d cs
theorem MvR.mono{F G:Nat->Prop}{s a:St}{x:Pr}{ys:List AV}(h:MvR F s x ys)(k:Vs F s a)(g:∀ i,F i->G i):MvR G a x ys:=by
 obtain⟨sv,xv,cs,h1,h2,h3,h4⟩:=h
 exact⟨sv,xv,cs,h1,h2.mono k g,Vy.mono k g _ _ h3,VU.mono k g _ _ h4⟩
theorem cnt7{s:St}{y:List AV}(h:y.length=7):Wd 7 s (.lst 1 y true)=some (1,y):=by
 unfold Wd
 simp only[h,show Nat.ble (1*7) 7=true from rfl,Qi]
 rw[Xx (by omega)]
theorem fl7{y:List AV}(h:y.length=7):VN [Z0,Z0,.nilsl,Z0,.nilsl,.nilsl,.nilsl] [(0,7,.agg y)]=some y:=by
 have h1:(AV.agg y).cells=y:=rfl
 have h2:setCells [Z0,Z0,.nilsl,Z0,.nilsl,.nilsl,.nilsl] 0 y=y:=by
  unfold setCells
  rw[Xe,QR,XX (by simp[h]),QG]
 simp only[VN,h1,h2,h,QD,QC,X2,Q7,rA,show Nat.ble 7 7=true from rfl,Qy,Qi]
def wg32_0:List Vc:=[ZM 2 (.c .nilsl)]
def wg32_1:List Vc:=[ZM 3 (.c .nilsl)]
def wg32_2:List Vc:=[ZV 7 0,ZN 8 7,ZM 9 (ZC 0)]
def wg32_3:List Vc:=[ZO 10 (.bin false .lss (.t 9) (.t 8))]
def wg32_4:List Vc:=[ZP 11 1 7 9,ZL 12 11,ZV 5 12]
def wg32_5:List Vc:=[ZV 13 5,ZO 14 (.nilchk (.t 13)),ZA 15 0 14,ZK 16 7 15,ZO 6 (.alloc [Z0,Z0,.nilsl,Z0,.nilsl,.nilsl,.nilsl]),ZS 7 6 16]
def wg32_6:List (Vc × Nat):=[(ZA 17 1 6,0),(ZK 18 2 17,1),(ZX 19 54 [(.t 18)],3),(ZA 20 3 6,0),(ZK 21 3 20,8),(ZX 22 80 [(.t 21)],31),(ZA 23 1 6,31),(ZS 2 23 19,127),(ZA 24 3 6,255),(ZS 3 24 22,511)]
def wg32_7:List Vc:=[ZV 25 3,ZK 26 7 6,ZO 27 (.bslice 1 [Z0,Z0,.nilsl,Z0,.nilsl,.nilsl,.nilsl] [(0,7,(.t 26))]),ZO 28 (.append 120 7 none (.t 25) (.t 27)),ZV 3 28]
def wg32_8:List Vc:=[ZO 29 (.bin false .add (.t 9) (ZC 1)),ZV 9 29]
def wg32_9:List Vc:=[ZV 30 3,ZV 2 30]
def Tq:Vn:=(ZQ wg32_3 (.seq (.cond (.t 10) .skip (.exit 0)) (.seq (.block 1 (ZQ wg32_4 (ZQ wg32_5 (.seq (.draw wg32_6 [(4,some 2),(4,some 5)]) (.region wg32_7))))) (.region wg32_8))))
def wf32:Vm:=⟨31,(ZQ wg32_0 (ZQ wg32_1 (.seq (ZQ wg32_2 (.block 0 (.loop Tq))) (ZR wg32_9)))),[.t 2]⟩
theorem t32:tbl 32=some wf32:=by kernel_rfl
set_option maxHeartbeats 1000000 in
theorem moves32_run{st:St}{b:Nat}{ov:AV}{PS:List Pr}(hov:JU b st ov PS)(hPS:∀ x∈PS,st.get x.id=some (.row x.row)/\x.id < st.next/\x.e.ok/\shL x.e.vals=true/\x.e.vals.length<=8/\Dv.good gr x.e.d=true)(hn:PS.length<=4000)(m:Nat)(Y:Vi)(hm:PS.length+10 < m)(hfz:∀ x∈PS,x.e.fz < m):
  ∃ mv rows st',R (m+1) Y 32 [ov] st=.ret mv st'/\Vd st st'/\SlN 7 (fun i=>st.next<=i/\i < st'.next) st' mv rows/\rows.length=PS.length/\(∀(j:Nat) (x:Pr) (ys:List AV),PS[j]?=some x->rows[j]?=some ys->MvR (fun i=>st.next<=i/\i < st'.next) st' x ys)/\(PS=[]->mv=.nilsl):=by
 obtain⟨q,rfl⟩:∃ q,m=q+1:=⟨m - 1,by omega⟩
 have hln:(bif VD 0 ov then Wm st ov else none)=some (ZI PS.length):=by
  rcases hov with⟨h1,h2⟩|⟨oid,_,_,h3,_⟩
  ·rw[h1,h2];rfl
  ·rw[h3];rfl
 have hat:∀(j:Nat) (x:Pr) (s:St),PS[j]?=some x->Vd st s->∃ p,VC 1 ov (ZI j)=some p/\Vf false 1 s p=some (.ptr x.id 0):=fun j x s hx hs=>by
  rcases hov with⟨_,h⟩|⟨oid,h1,h2,h3,h4⟩
  ·rw[h] at hx;simp at hx
  ·have hj:=(Qt.1 hx).1
   refine⟨.ptr oid j,by rw[h3];exact iaN hj none _,Vk ((hs.2 oid h2).trans h4) ?_⟩
   rw[Q5,hx];rfl
 have hL:∀(fr:Fr),fr.ds=[]->fr.get 3=some .nilsl->fr.get 7=some ov->fr.get 8=some (ZI PS.length)->fr.get 9=some Z0 ->
   ∃ FR s' mv rows,Vx (ac (q+1) Y Tq none) (q+1) fr st=.exit 0 FR s'/\FR.ds=[]/\FR.get 3=some mv/\Vd st s'/\GrW 7 st.next s' mv rows/\rows.length=PS.length/\(rows=[]->mv=.nilsl)/\∀(j:Nat) (x:Pr) (ys:List AV),PS[j]?=some x->rows[j]?=some ys->MvR (fun i=>st.next<=i/\i < s'.next/\¬ hO mv i) s' x ys:=by
  intro fr d0 g3 g7 g8 g9
  refine Ws (B:=ac (q+1) Y Tq none) (N:=PS.length) (Inv:=fun k f s=>f.ds=[]/\f.get 7=some ov/\f.get 8=some (ZI PS.length)/\f.get 9=some (ZI k)/\Vd st s/\∃ mv rows,f.get 3=some mv/\GrW 7 st.next s mv rows/\rows.length=k/\(rows=[]->mv=.nilsl)/\∀(j:Nat) (x:Pr) (ys:List AV),PS[j]?=some x->rows[j]?=some ys->MvR (fun i=>st.next<=i/\i < s.next/\¬ hO mv i) s x ys)
   (Out:=fun r=>∃ FR s' mv rows,r=.exit 0 FR s'/\FR.ds=[]/\FR.get 3=some mv/\Vd st s'/\GrW 7 st.next s' mv rows/\rows.length=PS.length/\(rows=[]->mv=.nilsl)/\∀(j:Nat) (x:Pr) (ys:List AV),PS[j]?=some x->rows[j]?=some ys->MvR (fun i=>st.next<=i/\i < s'.next/\¬ hO mv i) s' x ys) ?_ PS.length 0 fr st (q+1) (by omega) (by omega) ⟨d0,g7,g8,g9,Vd.refl st,.nilsl,[],g3,⟨fun x hx=>by simp at hx,.inl ⟨rfl,rfl⟩⟩,rfl,fun _=>rfl,fun j x ys _ h=>by simp at h⟩
  intro k f s hk ⟨d0,q7,q8,q9,hks,mv,rows,q3,hgr,hrl,hz,hmv⟩
  have hlt:=Wt k PS.length
  by_cases hkN:k < PS.length
  ·have hx:PS[k]?=some PS[k]:=Qn hkN
   generalize PS[k]=x at hx
   have hxm:=Qr hx
   obtain⟨hrow,hid,hok,hsh,hv8,hgd⟩:=hPS x hxm
   have hxf:=hfz x hxm
   obtain⟨o1,o2,o3,o4,o5,o6⟩:=hok
   have hef:Tm.fzL x.e.vals+x.e.vals.length+x.e.d.fz+x.e.seen.length+4200=x.e.fz:=rfl
   obtain⟨pe,ie,lde⟩:=hat k x s hx hks
   obtain⟨a,b',c',hda,ha1,hb1,hc1⟩:=x.e.d.cells_abc
   have hvo:AV.one x.e.vsl=true:=by unfold En.vsl V7;cases x.e.vnl<;>rfl
   have hr7:x.row=[.int .i64 x.e.prop,.int .i64 x.e.gate,x.e.vsl,a,b',c',x.csl,ZI x.p,ZI x.i,x.e.ssl]:=by unfold Pr.row YX;rw[hda];rfl
   have l7:Vf true 7 s (.ptr x.id 0)=some (.agg [.int .i64 x.e.prop,.int .i64 x.e.gate,x.e.vsl,a,b',c',x.csl]):=WE ((hks.2 _ hid).trans (by rw[hrow,hr7])) rfl rfl
   have hall:[AV.int .i64 x.e.prop,.int .i64 x.e.gate,x.e.vsl,a,b',c',x.csl].all AV.one=true:=by
    simp only[QN,QW,hvo,ha1,hb1,hc1];rfl
   have sto:Vt 7 (s.new (.row [Z0,Z0,.nilsl,Z0,.nilsl,.nilsl,.nilsl])) (.ptr s.next 0) (.agg [.int .i64 x.e.prop,.int .i64 x.e.gate,x.e.vsl,a,b',c',x.csl])=some ((s.new (.row [Z0,Z0,.nilsl,Z0,.nilsl,.nilsl,.nilsl])).put s.next (.row [.int .i64 x.e.prop,.int .i64 x.e.gate,x.e.vsl,a,b',c',x.csl])):=VQ rfl rfl hall
   obtain⟨s1,hs1⟩:∃ s1,s1=(s.new (.row [Z0,Z0,.nilsl,Z0,.nilsl,.nilsl,.nilsl])).put s.next (.row [.int .i64 x.e.prop,.int .i64 x.e.gate,x.e.vsl,a,b',c',x.csl]):=⟨_,rfl⟩
   rw[<-hs1] at sto
   have n1:s1.next=s.next+1:=by rw[hs1];rfl
   have k1:Vd s s1:=by rw[hs1];exact(Vd.refl s).newput _ _
   have G1:s1.get s.next=some (.row [.int .i64 x.e.prop,.int .i64 x.e.gate,x.e.vsl,a,b',c',x.csl]):=by rw[hs1,St.get_put,Qm rfl]
   obtain⟨sv,xv,s2,c54,k2,hv1,hv2⟩:=fresh54_run x.e.vals x.e.gate hsh (by omega) q Y (by omega) (fun _=>False) s1 x.e.vsl (Tm.cellsL x.e.vals) (slAV_SlR x.e.vnl x.e.vex x.e.vals o1 o2 _ s1) (Vy.line _ s1 x.e.vals o3) (fun _ h=>h.elim)
   have c54:((gT (q+1)).cg Y).fn 54 [.agg [.int .i64 x.e.gate,x.e.vsl]] s1=.ret (.agg [.int .i64 x.e.gate,sv]) s2:=c54
   obtain⟨cs,s3,c80,k3,hd3⟩:=freshDeriv_run _ x.e.d (q+1) Y rfl (by omega) hgd (fun _=>False) s2 x.e.d.cells (VU.line _ s2 x.e.d o4) (fun _ h=>h.elim)
   have hcs3:=hd3.cells3
   rw[hda] at c80
   have c80:((gT (q+1)).cg Y).fn 80 [.agg [a,b',c']] s2=.ret (.agg cs) s3:=c80
   have hbq:VG [a,b',c'] [a,b',c']=true:=by rw[<-hda];exact VU.beq x.e.d _ (VU.line (fun _=>False) s1 x.e.d o4)
   obtain⟨ca,cb,cc,rfl⟩:∃ ca cb cc,cs=[ca,cb,cc]:=by
    match cs,hcs3.1 with
    | [a,b,c],_=>exact⟨a,b,c,rfl⟩
   have G2:=(k2.2 s.next (by omega)).trans G1
   have G3:=(k3.2 s.next (by have:=k2.1;omega)).trans G2
   have e1:Vf true 2 s1 (.ptr s.next 1)=some (.agg [.int .i64 x.e.gate,x.e.vsl]):=WE G1 rfl rfl
   have e3:Vf true 3 s2 (.ptr s.next 3)=some (.agg [a,b',c']):=WE G2 rfl rfl
   have e3':Vf true 3 s1 (.ptr s.next 3)=some (.agg [a,b',c']):=WE G1 rfl rfl
   have osv:=hv1.one
   have t1:Vt 2 s3 (.ptr s.next 1) (.agg [.int .i64 x.e.gate,sv])=some (s3.put s.next (.row [.int .i64 x.e.prop,.int .i64 x.e.gate,sv,a,b',c',x.csl])):=V4 G3 rfl rfl (by simp) (by show (AV.one (.int .i64 x.e.gate)&&(AV.one sv&&true))=true;rw[osv];rfl)
   have t2:Vt 3 (s3.put s.next (.row [.int .i64 x.e.prop,.int .i64 x.e.gate,sv,a,b',c',x.csl])) (.ptr s.next 3) (.agg [ca,cb,cc])=some ((s3.put s.next (.row [.int .i64 x.e.prop,.int .i64 x.e.gate,sv,a,b',c',x.csl])).put s.next (.row [.int .i64 x.e.prop,.int .i64 x.e.gate,sv,ca,cb,cc,x.csl])):=V4 (by rw[St.get_put,Qm rfl]) rfl rfl (by simp) hcs3.2
   obtain⟨s4,hs4⟩:∃ s4,s4=(s3.put s.next (.row [.int .i64 x.e.prop,.int .i64 x.e.gate,sv,a,b',c',x.csl])).put s.next (.row [.int .i64 x.e.prop,.int .i64 x.e.gate,sv,ca,cb,cc,x.csl]):=⟨_,rfl⟩
   rw[<-hs4] at t2
   have n4:s4.next=s3.next:=by rw[hs4];rfl
   have o4':∀ j,j≠s.next->s4.get j=s3.get j:=fun j hj=>by rw[hs4,St.get_put,Qe hj,St.get_put,Qe hj]
   have G4:s4.get s.next=some (.row [.int .i64 x.e.prop,.int .i64 x.e.gate,sv,ca,cb,cc,x.csl]):=by rw[hs4,St.get_put,Qm rfl]
   have nn:=k2.1
   have nn3:=k3.1
   have k4:Vd s s4:=⟨by omega,fun j hj=>by rw[o4' j (by omega),k3.2 j (by omega),k2.2 j (by omega),k1.2 j hj]⟩
   have hy7:[AV.int .i64 x.e.prop,.int .i64 x.e.gate,sv,ca,cb,cc,x.csl].all AV.one=true:=by
    have h3:=hcs3.2
    simp only[QN,QW,Qy,Qd] at h3
    simp only[QN,QW,osv,h3.1,h3.2.1,h3.2.2];rfl
   have l47:Vf true 7 s4 (.ptr s.next 0)=some (.agg [.int .i64 x.e.prop,.int .i64 x.e.gate,sv,ca,cb,cc,x.csl]):=Wk G4 rfl
   have ct:=cnt7 (s:=s4) (y:=[.int .i64 x.e.prop,.int .i64 x.e.gate,sv,ca,cb,cc,x.csl]) rfl
   have fl:=fl7 (y:=[.int .i64 x.e.prop,.int .i64 x.e.gate,sv,ca,cb,cc,x.csl]) rfl
   obtain⟨s5,ap,n5,o5,hgr5⟩:=hgr.app (bytes:=120) hks.1 (by omega) (by omega) k4 (y:=[.int .i64 x.e.prop,.int .i64 x.e.gate,sv,ca,cb,cc,x.csl]) ⟨rfl,hy7⟩
   have hold:∀ i,s.next<=i->¬ hO mv i:=fun i hi ⟨_,_,_,_,he⟩=>by
    rcases hgr.2 with⟨h,_⟩|⟨oid,p1,p2,p3,_⟩
    ·rw[h] at he;cases he
    ·rw[p3] at he;injection he with h1;omega
   have holdb:∀ i,i < st.next->¬ hO mv i:=fun i hi ⟨_,_,_,_,he⟩=>by
    rcases hgr.2 with⟨h,_⟩|⟨oid,p1,p2,p3,_⟩
    ·rw[h] at he;cases he
    ·rw[p3] at he;injection he with h1;omega
   have hk0:=hks.1
   have k5:Vd st s5:=⟨by omega,fun j hj=>by rw[o5 j (by omega) (holdb j hj),k4.2 j (by omega),hks.2 j hj]⟩
   have hnew:∀ i,i < s4.next->¬ hO (.own s4.next 0 (rows.length+1) 7 none (rows.length+1)) i:=fun i hi ⟨_,_,_,_,he⟩=>by injection he with h1;omega
   have Sold:Vs (fun i=>st.next<=i/\i < s.next/\¬ hO mv i) s s5:=fun i hi=>by rw[o5 i (by omega) hi.2.2,k4.2 i hi.2.1]
   have S25:Vs (fun i=>s1.next<=i/\i < s2.next) s2 s5:=fun i hi=>by rw[o5 i (by omega) (hold i (by omega)),o4' i (by omega),k3.2 i hi.2]
   have S35:Vs (fun i=>s2.next<=i/\i < s3.next) s3 s5:=fun i hi=>by rw[o5 i (by omega) (hold i (by omega)),o4' i (by omega)]
   have had:=WC (i:=k) (by omega)
   rw[Qs hkN] at hlt
   obtain⟨J43,H43,O43_10⟩:∃ fr',ar (q+1) Y wg32_3 f s=.ok fr' s/\fr'.get 10=some (.bool true):=⟨_,by simp only[amE,rQ,rA,q8,q9,wg32_3,hlt]<;>rfl,gh⟩
   have V43_3:=ag H43 q3
   have V43_7:=ag H43 q7
   have V43_9:=ag H43 q9
   have W43:=ad H43 d0
   obtain⟨J44,H44,O44_5⟩:∃ fr',ar (q+1) Y wg32_4 J43 s=.ok fr' s/\fr'.get 5=some (.ptr x.id 0):=⟨_,by simp only[amE,rQ,rA,V43_7,V43_9,wg32_4,ie,lde]<;>rfl,gh⟩
   have V44_3:=ag H44 V43_3
   have W44:=ad H44 W43
   obtain⟨J45,H45,O45_6⟩:∃ fr',ar (q+1) Y wg32_5 J44 s=.ok fr' s1/\fr'.get 6=some (.ptr s.next 0):=⟨_,by simp only[amE,rQ,rA,O44_5,wg32_5,Yq,faP,l7,sto]<;>rfl,gh⟩
   obtain⟨J46,H46,K46⟩:∃ fr',VK ((gT (q+1)).cg Y) wg32_6 [(4,some 2),(4,some 5)] J45 s1=.ok fr' s4/\Kp [3,7,8,9,10,5,6] J45 fr':=by
    refine⟨?r460,?r461,?r462⟩
    case r461=>
     refine KB (its:=?r46i) ?r46x ?r46y ?r46z
     case r46x=>
      simp only[amE,rQ,rA,WH,WU,DR.cons,V5,VJ,VT,O45_6,wg32_6,faP,e1,e3,e3',c54,c80,t1,t2]
      rfl
     case r46y=>rfl
     case r46z=>
      simp only[QN,QW,Qy,Qd]
      refine⟨Wo (i:=4) (k:=2) rfl rfl rfl rfl ?r46k0,Wo (i:=4) (k:=5) rfl rfl rfl rfl ?r46k1⟩
      case r46k0=>
       right
       refine⟨?r46s0,?r46l0,(by simp only[V8,hbq])⟩
       case r46l0=>
        simp only[amE,rQ,rA,V5,O45_6,wg32_6,faP,e1,e3,e3',c54,c80,t1,t2]
        rfl
      case r46k1=>
       right
       refine⟨?r46s1,?r46l1,(by simp only[V8,hbq])⟩
       case r46l1=>
        simp only[amE,rQ,rA,V5,O45_6,wg32_6,faP,e1,e3,e3',c54,c80,t1,t2]
        rfl
    case r462=>repeat (first | exact Kp.refl | refine Kp.set (by decide) ?_)
   have V46_3:=K46.g 3 (ag H45 V44_3)
   have V46_7:=K46.g 7 (ag H45 (ag H44 V43_7))
   have V46_8:=K46.g 8 (ag H45 (ag H44 (ag H43 q8)))
   have V46_9:=K46.g 9 (ag H45 (ag H44 V43_9))
   have V46_6:=K46.g 6 O45_6
   have W46:=K46.1.trans (ad H45 W44)
   obtain⟨J47,H47,O47_3⟩:∃ fr',ar (q+1) Y wg32_7 J46 s4=.ok fr' s5/\fr'.get 3=some (.own s4.next 0 (rows.length+1) 7 none (rows.length+1)):=⟨_,by simp only[amE,rQ,rA,V46_3,V46_6,wg32_7,l47,fl,ct,ap,tag0]<;>rfl,gh⟩
   have V47_9:=ag H47 V46_9
   obtain⟨J48,H48,O48_9⟩:∃ fr',ar (q+1) Y wg32_8 J47 s5=.ok fr' s5/\fr'.get 9=some (ZI ((k+1))):=⟨_,by simp only[amE,rQ,rA,V47_9,wg32_8,had]<;>rfl,gh⟩
   have W48:=ad H48 (ad H47 W46)
   have hI48:ac (q+1) Y Tq none f s=.norm J48 s5:=by
    simp only[amE,rQ,rA,Tq,b00,b11,b22,b33,H43,H44,H45,H46,H47,H48,O43_10]
   rw[hI48]
   exact⟨hkN,W48,(ag H48 (ag H47 V46_7)),(ag H48 (ag H47 V46_8)),O48_9,k5,_,_,(ag H48 O47_3),hgr5,by simp[hrl],fun h=>absurd h (by simp),fun j y ys hj hr=>by
     by_cases hjk:j < k
     ·rw[Xk (by omega)] at hr
      exact(hmv j y ys hj hr).mono Sold fun i hi=>⟨hi.1,by omega,hnew i (by omega)⟩
     ·by_cases hjk2:j=k
      ·subst hjk2
       rw[Xg (by omega),hrl,ZJ] at hr
       rw[hx] at hj;injection hj with hj;subst hj
       simp only[Q0,Qa] at hr
       subst hr
       exact⟨sv,xv,[ca,cb,cc],rfl,hv1.mono S25 fun i hi=>⟨by omega,by omega,hnew i (by omega)⟩,Vy.mono S25 (fun i hi=>⟨by omega,by omega,hnew i (by omega)⟩) _ _ hv2,VU.mono S35 (fun i hi=>⟨by omega,by omega,hnew i (by omega)⟩) _ _ hd3⟩
      ·rw[Za (by simp;omega)] at hr;cases hr⟩
  ·rw[Qp hkN] at hlt
   have hkl:k=PS.length:=by omega
   obtain⟨J49,H49,O49_10⟩:∃ fr',ar (q+1) Y wg32_3 f s=.ok fr' s/\fr'.get 10=some (.bool false):=⟨_,by simp only[amE,rQ,rA,q8,q9,wg32_3,hlt]<;>rfl,gh⟩
   have W49:=ad H49 d0
   have hI49:ac (q+1) Y Tq none f s=.exit 0 J49 s:=by
    simp only[amE,rQ,rA,Tq,b00,b11,b22,b33,H49,O49_10]
   rw[hI49]
   exact⟨_,_,mv,rows,rfl,W49,(ag H49 q3),hks,hgr,by omega,hz,hmv⟩
 obtain⟨fA50,hA50⟩:∃ fA,fA=Vo 0 [ov] Fr.nil:=⟨_,rfl⟩
 have gA50_0:=gAt hA50 0
 have dA50:fA50.ds=[]:=by rw[hA50];rfl
 obtain⟨J51,H51⟩:∃ fr',ar (q+1) Y wg32_0 fA50 st=.ok fr' st:=⟨_,by simp only[amE,rQ,rA,wg32_0]<;>rfl⟩
 have V51_0:=ag H51 gA50_0
 have W51:=ad H51 dA50
 obtain⟨J52,H52,O52_3⟩:∃ fr',ar (q+1) Y wg32_1 J51 st=.ok fr' st/\fr'.get 3=some (.nilsl):=⟨_,by simp only[amE,rQ,rA,wg32_1]<;>rfl,gh⟩
 have V52_0:=ag H52 V51_0
 have W52:=ad H52 W51
 obtain⟨J53,H53,O53_7,O53_8,O53_9⟩:∃ fr',ar (q+1) Y wg32_2 J52 st=.ok fr' st/\fr'.get 7=some (ov)/\fr'.get 8=some (ZI PS.length)/\fr'.get 9=some Z0:=⟨_,by simp only[amE,rQ,rA,V52_0,wg32_2,hln]<;>rfl,gn (gn gh),gn gh,gh⟩
 have W53:=ad H53 W52
 obtain⟨FR,s',mv,rows,hL,dF,F3,k3,hgr,hrl,hz,hmv⟩:=hL J53 W53 (ag H53 O52_3) O53_7 O53_8 O53_9
 obtain⟨J55,H55,O55_2⟩:∃ fr',ar (q+1) Y wg32_9 FR s'=.ok fr' s'/\fr'.get 2=some (mv):=⟨_,by simp only[amE,rQ,rA,F3,wg32_9]<;>rfl,gh⟩
 have W55:=ad H55 dF
 refine⟨mv,rows,_,Ve (mf:=wf32) (fr:=J55) t32 rfl (.inl ?q55) W55 (by simp only[wf32,amE,O55_2]),k3,hgr.sln (by omega) (by omega),hrl,fun j x ys hj hr=>(hmv j x ys hj hr).mono (Vs.refl _ _) fun i hi=>⟨hi.1,hi.2.1⟩,fun h=>hz (XU.1 (by rw[hrl,h];rfl))⟩
 case q55=>
  rw[<-hA50]
  simp only[amE,rQ,rA,wf32,b00,b11,b22,b33,H51,H52,H53,hL,H55]
def wg10_0:List Vc:=[ZO 2 (.box true (.t 0)),ZM 4 (.c .nilsl),ZO 5 (.alloc [Z0,Z0,Z0]),ZM 6 (ZC 0)]
def wg10_1:List Vc:=[ZK 9 3 2,ZX 10 29 [(.t 9)],ZO 11 (.un .not (.t 10))]
def wg10_2:List Vc:=[ZO 12 (.build [Z0,Z0,Z0] []),ZM 4 (.c .nilsl),ZS 3 5 12,ZM 6 (ZC 300)]
def wg10_3:List Vc:=[ZK 13 3 2,ZV 14 1,ZX 15 30 [(.t 13),(.t 14)],ZO 16 (.un .not (.t 15))]
def wg10_4:List Vc:=[ZO 17 (.build [Z0,Z0,Z0] []),ZM 4 (.c .nilsl),ZS 3 5 17,ZM 6 (ZC 320)]
def wg10_5:List Vc:=[ZK 19 3 2,ZV 20 1,ZX 21 31 [(.t 19),(.t 20)],ZV 18 21,ZO 22 (.extract 0 (.t 18)),ZO 23 (.extract 1 (.t 18)),ZO 8 (.alloc [Z0,Z0,Z0]),ZV 7 22,ZS 3 8 23]
def wg10_6:List (Vc × Nat):=[(ZV 24 7,0),(ZX 25 32 [(.t 24)],1),(ZK 26 3 8,0),(ZV 4 25,3),(ZS 3 5 26,15),(ZM 6 (ZC 0),31)]
def wf10:Vm:=⟨27,(ZQ wg10_0 (.seq (ZQ wg10_1 (.cond (.t 11) (ZR wg10_2) .skip)) (.seq (ZQ wg10_3 (.cond (.t 16) (ZR wg10_4) .skip)) (ZQ wg10_5 (.seq (.draw wg10_6 [(2,some 1),(2,some 4)]) .ret))))),[.t 4,.cell 5 true 3,.t 6]⟩
theorem t10:tbl 10=some wf10:=by kernel_rfl
set_option maxHeartbeats 1000000 in
theorem merge10_run{F:Nat->Prop}{st:St}{lv pv jv:AV}{ls:List (List AV)}{ps:List Int}{N:Int}{js:List (AV × List En)}(hl:SlN 1 F st lv ls)(hp:SlI F st pv ps)(hj:YQ F st jv js)(hF:∀ i,F i->i < st.next)(hP:ps.length=ls.length)(hA:areB ls.length N js=true)(m:Nat)(Y:Vi)(hn:fzJ js+40000 < m)(hk24:ls.length<=24)(hpl:Rb ls.length ps N=true):
  ∃ st' mv r,R (m+5) Y 10 [.agg [lv,pv,.int .i64 N],jv] st=.ret (.tuple [mv,.agg r,ZI 0]) st'/\Vd st st' ∧
   ((okM ls.length ps (Vq js)/\r=[Z0,Z0,Z0]/\∃ (PS:List Pr) (rows:List (List AV)),PS.map (fun x=>x.e.prop)=(Yb (Vq js)).2/\SlN 7 (fun i=>st.next<=i/\i < st'.next) st' mv rows/\rows.length=PS.length/\(∀(j:Nat) (x:Pr) (ys:List AV),PS[j]?=some x->rows[j]?=some ys->MvR (fun i=>st.next<=i/\i < st'.next) st' x ys)/\∀ x∈PS,PrM (Vq js) st.next st' x) ∨
    (¬ okM ls.length ps (Vq js)/\mv=.nilsl/\∃ kd p i:Nat,kd≠0/\r=[ZI kd,ZI p,ZI i])):=by
 have hAo:=hA
 unfold areB at hAo
 simp only[Qd,QF,QB] at hAo
 obtain⟨⟨hA1,hA2⟩,hA3⟩:=hAo
 obtain⟨s0,hs0⟩:∃ s0,s0=st.new (.row [Z0,Z0,Z0]):=⟨_,rfl⟩
 have n0:s0.next=st.next+1:=by rw[hs0];rfl
 have k0:Vd st s0:=by rw[hs0];exact Vd.new st _
 have g0:s0.get st.next=some (.row [Z0,Z0,Z0]):=by rw[hs0,St.get_new,Qm rfl]
 have S0:=Vs.of k0 hF
 have hF0:∀ i,F i->i < s0.next:=fun i hi=>by have:=hF i hi;omega
 have hl0:=hl.mono S0 fun _ h=>h
 have hp0:=hp.mono S0 fun _ h=>h
 have hpn:ps.length<=24:=by omega
 have c29:((gT (m+4)).cg Y).fn 29 [.agg [lv,pv,.int .i64 N]] s0=.ret (.bool true) (s0.new (.row [lv,pv,.int .i64 N])):=by
  have:=layout_run (n:=m) (Y:=Y) (N:=N) hl0 hp0 hF0 (by omega)
  rw[hpl] at this;exact this
 have k1:Vd s0 (s0.new (.row [lv,pv,.int .i64 N])):=Vd.new s0 _
 have n1:(s0.new (.row [lv,pv,.int .i64 N])).next=s0.next+1:=rfl
 generalize s0.new (.row [lv,pv,.int .i64 N])=s1 at c29 k1 n1
 have S1:=Vs.of (k0.trans k1) hF
 have hF1:∀ i,F i->i < s1.next:=fun i hi=>by have:=hF i hi;omega
 obtain⟨s2,c30,k2⟩:=journals_run (hl.mono S1 fun _ h=>h) (hj.mono S1 fun _ h=>h) hF1 (m+2) Y (by omega) hA
 have c30:((gT (m+4)).cg Y).fn 30 [.agg [lv,pv,.int .i64 N],jv] s1=.ret (.bool true) s2:=c30
 have n2:=k2.1
 have S2:=Vs.of ((k0.trans k1).trans k2) hF
 have hF2:∀ i,F i->i < s2.next:=fun i hi=>by have:=hF i hi;omega
 obtain⟨s3,ov,r,c31,k3,hM⟩:=merge_run (hl.mono S2 fun _ h=>h) (hp.mono S2 fun _ h=>h) (hj.mono S2 fun _ h=>h) hF2 hP hA (m+1) Y (by omega) hk24
 have c31:((gT (m+4)).cg Y).fn 31 [.agg [lv,pv,.int .i64 N],jv] s2=.ret (.tuple [ov,.agg r]) s3:=c31
 have n3:=k3.1
 obtain⟨ra,rb,rc,hr⟩:∃ ra rb rc:Int,r=[.int .i64 ra,.int .i64 rb,.int .i64 rc]:=by
  rcases hM with⟨_,h,_⟩|⟨_,_,_,_,_,_,h⟩<;>exact⟨_,_,_,h⟩
 rw[hr] at c31
 have sto:Vt 3 (s3.new (.row [Z0,Z0,Z0])) (.ptr s3.next 0) (.agg [.int .i64 ra,.int .i64 rb,.int .i64 rc])=some ((s3.new (.row [Z0,Z0,Z0])).put s3.next (.row [.int .i64 ra,.int .i64 rb,.int .i64 rc])):=VQ rfl rfl rfl
 obtain⟨s4,hs4⟩:∃ s4,s4=(s3.new (.row [Z0,Z0,Z0])).put s3.next (.row [.int .i64 ra,.int .i64 rb,.int .i64 rc]):=⟨_,rfl⟩
 rw[<-hs4] at sto
 have n4:s4.next=s3.next+1:=by rw[hs4];rfl
 have k4:Vd s3 s4:=by rw[hs4];exact(Vd.refl s3).newput _ _
 have g4:s4.get s3.next=some (.row [.int .i64 ra,.int .i64 rb,.int .i64 rc]):=by rw[hs4,St.get_put,Qm rfl]
 -- the moves
 obtain⟨PS,hov,hPS,hcase⟩:∃ PS:List Pr,JU s2.next s3 ov PS/\(∀ x∈PS,PrM (Vq js) s2.next s3 x)/\((okM ls.length ps (Vq js)/\r=[Z0,Z0,Z0]/\PS.map (fun x=>x.e.prop)=(Yb (Vq js)).2)\/(¬ okM ls.length ps (Vq js)/\ov=.nilsl/\PS=[]/\∃ kd p i:Nat,kd≠0/\r=[ZI kd,ZI p,ZI i])):=by
  rcases hM with⟨h1,h2,PS,h3,h4,h5⟩|⟨h1,h2,h3⟩
  ·exact⟨PS,h4,h5,.inl ⟨h1,h2,h3⟩⟩
  ·exact⟨[],.inl ⟨h2,rfl⟩,fun x hx=>by simp at hx,.inr ⟨h1,h2,rfl,h3⟩⟩
 have hov4:JU s2.next s4 ov PS:=hov.keep (fun j _ h=>k4.2 j h) k4.1
 have hen:∀ x∈PS,(∃ q∈js,x.e∈q.2)/\En.good ls.length x.e=true/\x.e.ok:=fun x hx=>by
  have h1:(x.p,x.i,x.e)∈Vq js:=X9 (hPS x hx).1
  unfold Vq at h1
  obtain⟨y,hy,hzr⟩:=QO.1 h1
  have hy1:y.1∈js:=by
   have hy':=XF hy
   rw[hy'.2.2];exact Xu _
  unfold row at hzr
  obtain⟨u,hu,hue⟩:=Q6.1 hzr
  have hu1:u.1∈y.1.2:=by
   have hu':=XF hu
   rw[hu'.2.2];exact Xu _
  have he:x.e=u.1:=by injection hue with _ h;injection h with _ h;exact h.symm
  rw[he]
  exact⟨⟨y.1,hy1,hu1⟩,hA3 y.1 hy1 u.1 hu1,(hj.2 y.1 hy1).2 u.1 hu1⟩
 have hPn:PS.length<=4000:=by
  rcases hcase with⟨h1,h2,h3⟩|⟨_,_,h,_⟩
  ·have h4:=Xn List.length h3
   rw[Qu] at h4
   have hpl':∀ l:List En,(V6 l).length<=l.length:=fun l=>by
    induction l using JS with
    | nil=>simp[V6]
    | snoc l x ih=>
     rw[Yp]
     split
     ·simp;omega
     ·simp;omega
   have hfE:YP (ens (Vq js)):=h1.1.fitE fun z hz=>by
    unfold Vq at hz
    obtain⟨y,hy,hzr⟩:=QO.1 hz
    have hy1:y.1∈js:=by
     have hy':=XF hy
     rw[hy'.2.2];exact Xu _
    unfold row at hzr
    obtain⟨u,hu,rfl⟩:=Q6.1 hzr
    have hu1:u.1∈y.1.2:=by
     have hu':=XF hu
     rw[hu'.2.2];exact Xu _
    have hg:=hA3 y.1 hy1 u.1 hu1
    unfold En.good at hg
    simp only[Qd,QF] at hg
    exact⟨((Tb _).1 hg.1.1.1.1.1.1).1,hg.1.2⟩
   have hpo:=(UL hfE (Wn (V6 (ens (Vq js)))).length (Wn (V6 (ens (Vq js)))) [] (by rw[QG];exact(WA _).nodup_iff.2 (Wu _)) (Y9.nil _) (YB.nil _)).2.2.length_eq
   rw[QG,QJ] at hpo
   have h7:(Yb (Vq js)).1.length+(Yb (Vq js)).2.length=(Wn (V6 (ens (Vq js)))).length:=hpo
   have h8:=(WA (V6 (ens (Vq js)))).length_eq
   have h5:=hpl' (ens (Vq js))
   rw[spots_len] at h5
   omega
  ·rw[h];simp
 obtain⟨mv,rows,s5,c32,k5,hsl5,hrl,hmv,hnil⟩:=moves32_run hov4 (fun x hx=>by
  obtain⟨_,hg,hok⟩:=hen x hx
  obtain⟨_,_,p3,_,_,_,p7,_⟩:=hPS x hx
  unfold En.good valsB at hg
  simp only[Qd,QF] at hg
  exact⟨(k4.2 _ p7).trans p3,by omega,hok,SF hg.1.1.1.2.2,hg.1.1.1.2.1,((isDv_iff _).1 hg.1.1.2).1⟩) hPn (m+3) Y (by omega) (fun x hx=>by
  obtain⟨⟨q,hq,hxq⟩,_,_⟩:=hen x hx
  have:=fzJ_en hq hxq
  omega)
 have c32:((gT (m+4)).cg Y).fn 32 [ov] s4=.ret mv s5:=c32
 have l8:Vf true 3 s5 (.ptr s3.next 0)=some (.agg [.int .i64 ra,.int .i64 rb,.int .i64 rc]):=Wk ((k5.2 _ (by omega)).trans g4) rfl
 have l8':Vf true 3 s4 (.ptr s3.next 0)=some (.agg [.int .i64 ra,.int .i64 rb,.int .i64 rc]):=Wk g4 rfl
 have n5:=k5.1
 have g5:s5.get st.next=some (.row [Z0,Z0,Z0]):=by rw[k5.2 _ (by omega),k4.2 _ (by omega),k3.2 _ (by omega),k2.2 _ (by omega),k1.2 _ (by omega)];exact g0
 have t5:Vt 3 s5 (.ptr st.next 0) (.agg [.int .i64 ra,.int .i64 rb,.int .i64 rc])=some (s5.put st.next (.row [.int .i64 ra,.int .i64 rb,.int .i64 rc])):=V4 g5 rfl rfl (by simp) rfl
 obtain⟨s6,hs6⟩:∃ s6,s6=s5.put st.next (.row [.int .i64 ra,.int .i64 rb,.int .i64 rc]):=⟨_,rfl⟩
 rw[<-hs6] at t5
 have n6:s6.next=s5.next:=by rw[hs6];rfl
 have o6:∀ j,j≠st.next->s6.get j=s5.get j:=fun j hj=>by rw[hs6,St.get_put,Qe hj]
 have ldr:Vf true 3 s6 (.ptr st.next 0)=some (.agg [.int .i64 ra,.int .i64 rb,.int .i64 rc]):=Wk (by rw[hs6,St.get_put,Qm rfl]) rfl
 have kk:Vd st s6:=⟨by omega,fun j hj=>by rw[o6 j (by omega),k5.2 j (by omega),k4.2 j (by omega),k3.2 j (by omega),k2.2 j (by omega),k1.2 j (by omega),k0.2 j hj]⟩
 have S56:Vs (fun i=>s4.next<=i/\i < s5.next) s5 s6:=fun i hi=>o6 i (by omega)
 have hW:∀ i,(s4.next<=i/\i < s5.next)->(st.next<=i/\i < s6.next):=fun i hi=>⟨by omega,by omega⟩
 have hfin:(okM ls.length ps (Vq js)/\[AV.int .i64 ra,.int .i64 rb,.int .i64 rc]=[Z0,Z0,Z0]/\∃ (PS:List Pr) (rows:List (List AV)),PS.map (fun x=>x.e.prop)=(Yb (Vq js)).2/\SlN 7 (fun i=>st.next<=i/\i < s6.next) s6 mv rows/\rows.length=PS.length/\(∀(j:Nat) (x:Pr) (ys:List AV),PS[j]?=some x->rows[j]?=some ys->MvR (fun i=>st.next<=i/\i < s6.next) s6 x ys)/\∀ x∈PS,PrM (Vq js) st.next s6 x) ∨
    (¬ okM ls.length ps (Vq js)/\mv=.nilsl/\∃ kd p i:Nat,kd≠0/\[AV.int .i64 ra,.int .i64 rb,.int .i64 rc]=[ZI kd,ZI p,ZI i]):=by
  rw[<-hr]
  rcases hcase with⟨h1,h2,h3⟩|⟨h1,h2,h3,h4⟩
  ·refine .inl ⟨h1,h2,PS,rows,h3,hsl5.mono S56 hW,hrl,fun j x ys hj' hr'=>(hmv j x ys hj' hr').mono S56 hW,fun x hx=>?_⟩
   obtain⟨p1,p2,p3,p4,p5,p6,p7,p8⟩:=hPS x hx
   exact⟨p1,p2,by rw[o6 _ (by omega),k5.2 _ (by omega),k4.2 _ p7];exact p3,by rw[o6 _ (by omega),k5.2 _ (by omega),k4.2 _ p8];exact p4,by omega,by omega,by omega,by omega⟩
  ·refine .inr ⟨h1,?_,h4⟩
   exact hnil h3
 obtain⟨fA56,hA56⟩:∃ fA,fA=Vo 0 [.agg [lv,pv,.int .i64 N],jv] Fr.nil:=⟨_,rfl⟩
 have gA56_0:=gAt hA56 0
 have gA56_1:=gAt hA56 1
 have dA56:fA56.ds=[]:=by rw[hA56];rfl
 obtain⟨J57,H57,O57_2,O57_4,O57_5,O57_6⟩:∃ fr',ar (m+4) Y wg10_0 fA56 st=.ok fr' s0/\fr'.get 2=some (.fptr [lv,pv,.int .i64 N] 0)/\fr'.get 4=some (.nilsl)/\fr'.get 5=some (.ptr st.next 0)/\fr'.get 6=some Z0:=⟨_,by simp only[amE,rQ,rA,gA56_0,wg10_0,hs0]<;>rfl,gn (gn (gn gh)),gn (gn gh),gn gh,gh⟩
 have V57_1:=ag H57 gA56_1
 have W57:=ad H57 dA56
 obtain⟨J58,H58,O58_11⟩:∃ fr',ar (m+4) Y wg10_1 J57 s0=.ok fr' s1/\fr'.get 11=some (.bool false):=⟨_,by simp only[amE,rQ,rA,O57_2,wg10_1,Jh,c29,WN,Qc,Qc,Qb]<;>rfl,gh⟩
 have V58_1:=ag H58 V57_1
 have V58_2:=ag H58 O57_2
 obtain⟨J59,H59,O59_16⟩:∃ fr',ar (m+4) Y wg10_3 J58 s1=.ok fr' s2/\fr'.get 16=some (.bool false):=⟨_,by simp only[amE,rQ,rA,V58_1,V58_2,wg10_3,Jh,c30,WN,Qc,Qc,Qb]<;>rfl,gh⟩
 have V59_1:=ag H59 V58_1
 have V59_2:=ag H59 V58_2
 have W59:=ad H59 (ad H58 W57)
 obtain⟨J60,H60,O60_7,O60_8⟩:∃ fr',ar (m+4) Y wg10_5 J59 s2=.ok fr' s4/\fr'.get 7=some (ov)/\fr'.get 8=some (.ptr s3.next 0):=⟨_,by simp only[amE,rQ,rA,V59_1,V59_2,wg10_5,Jh,c31,extract0,extract1,sto]<;>rfl,gh,gn gh⟩
 have V60_5:=ag H60 (ag H59 (ag H58 O57_5))
 obtain⟨J61,H61,K61,O61_4,O61_6⟩:∃ fr',VK ((gT (m+4)).cg Y) wg10_6 [(2,some 1),(2,some 4)] J60 s4=.ok fr' s6/\Kp [0,1,2,5,11,16,7,8] J60 fr'/\fr'.get 4=some (mv)/\fr'.get 6=some Z0:=by
  refine⟨?r610,?r611,?r612,?r61o4,?r61o6⟩
  case r611=>
   refine KB (its:=?r61i) ?r61x ?r61y ?r61z
   case r61x=>
    simp only[amE,rQ,rA,WH,WU,DR.cons,V5,VJ,VT,V60_5,O60_7,O60_8,wg10_6,c32,l8,l8',t5]
    rfl
   case r61y=>rfl
   case r61z=>
    simp only[QN,QW,Qy,Qd]
    refine⟨Wo (i:=2) (k:=1) rfl rfl rfl rfl ?r61k0,Wo (i:=2) (k:=4) rfl rfl rfl rfl ?r61k1⟩
    case r61k0=>
     right
     refine⟨?r61s0,?r61l0,(avBeq3 _ _ _)⟩
     case r61l0=>
      simp only[amE,rQ,rA,V5,V60_5,O60_7,O60_8,wg10_6,c32,l8,l8',t5]
      rfl
    case r61k1=>
     right
     refine⟨?r61s1,?r61l1,(avBeq3 _ _ _)⟩
     case r61l1=>
      simp only[amE,rQ,rA,V5,V60_5,O60_7,O60_8,wg10_6,c32,l8,l8',t5]
      rfl
  case r612=>repeat (first | exact Kp.refl | refine Kp.set (by decide) ?_)
  case r61o4=>simp only[Fr.get_set,rQ,↓reduceIte]
  case r61o6=>simp only[Fr.get_set,rQ,↓reduceIte]
 have V61_5:=K61.g 5 V60_5
 have W61:=K61.1.trans (ad H60 W59)
 refine⟨_,mv,[.int .i64 ra,.int .i64 rb,.int .i64 rc],Ve (mf:=wf10) (fr:=J61) t10 rfl (.inl ?q61) W61 (by simp only[wf10,amE,O61_4,O61_6,V61_5,ldr]),kk,hfin⟩
 case q61=>
  rw[<-hA56]
  simp only[amE,rQ,rA,wf10,b00,b11,b22,b33,H57,H58,H59,H60,H61,O58_11,O59_16]
end
noncomputable section
open Nat renaming reduceEqDiff -> rQ, reduceAdd -> rA
theorem neqI0(x:Int):Vr false .neq (.int .i64 x) (.int .i64 x)=some (.bool false):=by
 rw[Yk];simp
theorem Rr(x y z:AV)(st:St):Vf false 1 st (.fptr [x,y,z] 2)=some z:=rfl
theorem lss0(x:Int):Vr false .lss (.int .i64 x) (.int .i64 x)=some (.bool false):=by
 show some (AV.bool (decide (x < x)))=_
 simp
theorem gtr0(x:Int):Vr false .gtr (.int .i64 x) (.int .i64 x)=some (.bool false):=by
 show some (AV.bool (decide (x > x)))=_
 simp
theorem eql0:Vr false .eql Z0 Z0=some (.bool true):=rfl
def wg209_0:List Vc:=[ZM 4 (ZC 0)]
def wg209_1:List Vc:=[ZV 5 0,ZV 6 1,ZO 7 (.bin false .lss (.t 5) (.t 6))]
def wg209_2:List Vc:=[ZM 4 (.c (.int .i64 (.negSucc 0)))]
def wg209_3:List Vc:=[ZV 8 0,ZV 9 1,ZO 10 (.bin false .gtr (.t 8) (.t 9))]
def wg209_4:List Vc:=[ZM 4 (ZC 1)]
def wg209_5:List Vc:=[ZM 4 (ZC 0)]
def wf209:Vm:=⟨11,(ZQ wg209_0 (.seq (ZQ wg209_1 (.cond (.t 7) (ZR wg209_2) .skip)) (.seq (ZQ wg209_3 (.cond (.t 10) (ZR wg209_4) .skip)) (ZR wg209_5)))),[.t 4]⟩
theorem t209:tbl 209=some wf209:=by kernel_rfl
theorem order209(m:Nat)(Y:Vi)(x:Int)(st:St):R (m+1) Y 209 [.int .i64 x,.int .i64 x] st=.ret Z0 st:=by
 have h1:=lss0 x
 have h2:=gtr0 x
 obtain⟨fA1,hA1⟩:∃ fA,fA=Vo 0 [.int .i64 x,.int .i64 x] Fr.nil:=⟨_,rfl⟩
 have gA1_0:=gAt hA1 0
 have gA1_1:=gAt hA1 1
 have dA1:fA1.ds=[]:=by rw[hA1];rfl
 obtain⟨J2,H2⟩:∃ fr',ar m Y wg209_0 fA1 st=.ok fr' st:=⟨_,by simp only[amE,rQ,rA,wg209_0]<;>rfl⟩
 have V2_0:=ag H2 gA1_0
 have V2_1:=ag H2 gA1_1
 have W2:=ad H2 dA1
 obtain⟨J3,H3,O3_7⟩:∃ fr',ar m Y wg209_1 J2 st=.ok fr' st/\fr'.get 7=some (.bool false):=⟨_,by simp only[amE,rQ,rA,V2_0,V2_1,wg209_1,h1]<;>rfl,gh⟩
 have V3_0:=ag H3 V2_0
 have V3_1:=ag H3 V2_1
 have W3:=ad H3 W2
 obtain⟨J4,H4,O4_10⟩:∃ fr',ar m Y wg209_3 J3 st=.ok fr' st/\fr'.get 10=some (.bool false):=⟨_,by simp only[amE,rQ,rA,V3_0,V3_1,wg209_3,h2]<;>rfl,gh⟩
 have W4:=ad H4 W3
 obtain⟨J5,H5,O5_4⟩:∃ fr',ar m Y wg209_5 J4 st=.ok fr' st/\fr'.get 4=some Z0:=⟨_,by simp only[amE,rQ,rA,wg209_5]<;>rfl,gh⟩
 have W5:=ad H5 W4
 refine Ve (mf:=wf209) (fr:=J5) t209 rfl (.inl ?q5) W5 (by simp only[wf209,Vg,Vu,V0,O5_4,Qg,Ql])
 case q5=>
  rw[<-hA1]
  simp only[amE,rQ,rA,wf209,b00,b11,b22,b33,H2,H3,H4,H5,O3_7,O4_10]
def wg153_0:List Vc:=[ZO 2 (.box true (.t 0)),ZO 3 (.box true (.t 1)),ZM 4 (ZC 0)]
def wg153_1:List Vc:=[ZA 7 0 2,ZL 8 7,ZA 9 0 3,ZL 10 9,ZX 11 209 [(.t 8),(.t 10)],ZV 5 11]
def wg153_2:List Vc:=[ZV 12 5,ZO 13 (.bin false .eql (.t 12) (ZC 0))]
def wg153_3:List Vc:=[ZA 14 1 2,ZL 15 14,ZA 16 1 3,ZL 17 16,ZX 18 209 [(.t 15),(.t 17)],ZV 5 18]
def wg153_4:List Vc:=[ZV 19 5,ZO 20 (.bin false .eql (.t 19) (ZC 0))]
def wg153_5:List Vc:=[ZA 21 2 2,ZL 22 21,ZN 23 22,ZA 24 2 3,ZL 25 24,ZN 26 25,ZX 27 209 [(.t 23),(.t 26)],ZV 5 27]
def wg153_6:List Vc:=[ZM 6 (ZC 0)]
def wg153_7:List Vc:=[ZV 28 6,ZA 29 2 2,ZL 30 29,ZN 31 30,ZO 32 (.bin false .lss (.t 28) (.t 31)),ZV 33 32,ZG 34 (.mv (.t 5)) 33 true,ZG 35 (.bin false .eql (.t 34) (ZC 0)) 33 true,ZO 36 (.pick (.t 33) (.t 35) (ZB false))]
def wg153_8:List (Vc × Nat):=[(ZA 39 2 2,0),(ZL 40 39,1),(ZV 41 6,0),(ZP 42 3 40 41,7),(ZK 43 3 42,15),(ZA 44 2 3,0),(ZL 45 44,32),(ZV 46 6,0),(ZP 47 3 45 46,224),(ZK 48 3 47,480),(ZX 49 153 [(.t 43),(.t 48)],1023),(ZV 5 49,2047)]
def wg153_9:List Vc:=[ZV 37 6,ZO 38 (.bin false .add (.t 37) (ZC 1)),ZV 6 38]
def wg153_10:List Vc:=[ZV 50 5,ZV 4 50]
def Ru:Vn:=(.seq (ZQ wg153_7 (.cond (.t 36) .skip (.exit 0))) (.seq (.block 1 (.draw wg153_8 [])) (.region wg153_9)))
def wf153:Vm:=⟨51,(ZQ wg153_0 (ZQ wg153_1 (.seq (ZQ wg153_2 (.cond (.t 13) (.region wg153_3) .skip)) (.seq (ZQ wg153_4 (.cond (.t 20) (.region wg153_5) .skip)) (.seq (ZQ wg153_6 (.block 0 (.loop Ru))) (ZR wg153_10)))))),[.t 4]⟩
theorem u153:tbl 153=some wf153:=by kernel_rfl
theorem self153(a:Tm):∀(n:Nat) (Y:Vi) (F:Nat->Prop) (st:St) (ca cb:List AV),We F st a ca->We F st a cb->a.fz < n ->
  R n Y 153 [.agg ca,.agg cb] st=.ret Z0 st:=by
 induction hs:a.fz using Nat.strongRecOn generalizing a with
 | _ s ih=>
 intro n Y F st ca cb ha hb hn
 cases a with
 | mk r q nl ex l=>
 simp only[We] at ha hb
 obtain⟨s1,x1,rfl,hx1,rx1⟩:=ha
 obtain⟨t1,y1,rfl,hy1,ry1⟩:=hb
 simp only[Tm.fz] at hs
 obtain⟨m,rfl⟩:∃ m,n=m+1:=⟨n - 1,by omega⟩
 have n1:=hx1.len st
 have k1:=hy1.len st
 have hB1:=hx1.2.1
 rw[rx1.len] at n1 hB1
 rw[ry1.len] at k1
 have c209:∀ x:Int,((gT m).cg Y).fn 209 [.int .i64 x,.int .i64 x] st=.ret Z0 st:=fun x=>by
  obtain⟨m',rfl⟩:∃ m',m=m'+1:=⟨m - 1,by omega⟩
  exact order209 m' Y x st
 have hL:∀(fr:Fr),fr.ds=[]->fr.get 2=some (.fptr [.int .i64 r,.int .i64 q,s1] 0)->fr.get 3=some (.fptr [.int .i64 r,.int .i64 q,t1] 0)->fr.get 6=some Z0->fr.get 5=some Z0->∃ FR,FR.ds=[]/\FR.get 5=some Z0/\Vx (ac m Y Ru none) m fr st=.exit 0 FR st:=by
  intro fr d0 g2 g3 gi g5
  refine Ws (B:=ac m Y Ru none) (N:=l.length) (Inv:=fun k fr st1=>fr.ds=[]/\fr.get 2=some (.fptr [.int .i64 r,.int .i64 q,s1] 0)/\fr.get 3=some (.fptr [.int .i64 r,.int .i64 q,t1] 0)/\fr.get 6=some (ZI k)/\st1=st/\fr.get 5=some Z0)
   (Out:=fun q=>∃ FR,FR.ds=[]/\FR.get 5=some Z0/\q=.exit 0 FR st) ?_ l.length 0 fr st m (by omega) (by omega) ⟨d0,g2,g3,gi,rfl,g5⟩
  intro k fr st1 hk ⟨d0,g2,g3,gi,e1,g5⟩
  subst e1
  have hlt:=Wt k l.length
  by_cases hkN:k < l.length
  ·obtain⟨t,ht,_⟩:=WR (l:=l) (k:=k) hkN
   obtain⟨x,hx,hrx⟩:=rx1.at ht
   obtain⟨y,hy,hry⟩:=ry1.at ht
   obtain⟨px,ix,ldx⟩:=hx1.at hx
   obtain⟨py,iy,ldy⟩:=hy1.at hy
   have ldx:=ldx st1 (Vs.refl _ _)
   have ldy:=ldy st1 (Vs.refl _ _)
   have hfz:=Tm.fzL_mem (Qr ht)
   have cc:((gT m).cg Y).fn 153 [.agg x,.agg y] st1=.ret Z0 st1:=ih t.fz (by omega) t rfl m Y F st1 x y hrx hry (by omega)
   have had:=WC (i:=k) (by omega)
   rw[Qs hkN] at hlt
   obtain⟨J6,H6,O6_36⟩:∃ fr',ar m Y wg153_7 fr st1=.ok fr' st1/\fr'.get 36=some (.bool true):=⟨_,by simp only[amE,rQ,rA,g2,g5,gi,wg153_7,faF,Rr,n1,hlt,eql0,Qc,Qb]<;>rfl,gh⟩
   have V6_2:=ag H6 g2
   have V6_3:=ag H6 g3
   have V6_6:=ag H6 gi
   obtain⟨J7,H7,K7,O7_5⟩:∃ fr',VK ((gT m).cg Y) wg153_8 [] J6 st1=.ok fr' st1/\Kp [2,3,6,36] J6 fr'/\fr'.get 5=some Z0:=⟨_,Wj rfl (by simp only[amE,rQ,rA,V6_2,V6_3,V6_6,wg153_8,faF,Rr,ix,ldx,iy,ldy,cc]<;>rfl),Kp.refl.s.s.s.s.s.s.s.s.s.s.s.s,gh⟩
   have V7_2:=K7.g 2 V6_2
   have V7_3:=K7.g 3 V6_3
   have V7_6:=K7.g 6 V6_6
   have W7:=K7.1.trans (ad H6 d0)
   obtain⟨J8,H8,O8_6⟩:∃ fr',ar m Y wg153_9 J7 st1=.ok fr' st1/\fr'.get 6=some (ZI ((k+1))):=⟨_,by simp only[amE,rQ,rA,V7_6,wg153_9,had]<;>rfl,gh⟩
   have W8:=ad H8 W7
   have hI8:ac m Y Ru none fr st1=.norm J8 st1:=by
    simp only[amE,rQ,rA,Ru,b00,b11,b22,b33,H6,H7,H8,O6_36]
   rw[hI8]
   exact⟨hkN,W8,(ag H8 V7_2),(ag H8 V7_3),O8_6,rfl,(ag H8 O7_5)⟩
  ·rw[Qp hkN] at hlt
   obtain⟨J9,H9,O9_36⟩:∃ fr',ar m Y wg153_7 fr st1=.ok fr' st1/\fr'.get 36=some (.bool false):=⟨_,by simp only[amE,rQ,rA,g2,g5,gi,wg153_7,faF,Rr,n1,hlt,Qc,Qb,Qc,Qb]<;>rfl,gh⟩
   have hI9:ac m Y Ru none fr st1=.exit 0 J9 st1:=by
    simp only[amE,rQ,rA,Ru,b00,b11,b22,b33,H9,O9_36]
   rw[hI9]
   exact⟨_,(ad H9 d0),(ag H9 g5),rfl⟩
 obtain⟨fA10,hA10⟩:∃ fA,fA=Vo 0 [.agg [.int .i64 r,.int .i64 q,s1],.agg [.int .i64 r,.int .i64 q,t1]] Fr.nil:=⟨_,rfl⟩
 have gA10_0:=gAt hA10 0
 have gA10_1:=gAt hA10 1
 have dA10:fA10.ds=[]:=by rw[hA10];rfl
 obtain⟨J11,H11,O11_2,O11_3⟩:∃ fr',ar m Y wg153_0 fA10 st=.ok fr' st/\fr'.get 2=some (.fptr [.int .i64 r,.int .i64 q,s1] 0)/\fr'.get 3=some (.fptr [.int .i64 r,.int .i64 q,t1] 0):=⟨_,by simp only[amE,rQ,rA,gA10_0,gA10_1,wg153_0]<;>rfl,gn (gn gh),gn gh⟩
 obtain⟨J12,H12,O12_5⟩:∃ fr',ar m Y wg153_1 J11 st=.ok fr' st/\fr'.get 5=some Z0:=⟨_,by simp only[amE,rQ,rA,O11_2,O11_3,wg153_1,faF,Y7,c209]<;>rfl,gh⟩
 have W12:=ad H12 (ad H11 dA10)
 obtain⟨J13,H13,O13_13⟩:∃ fr',ar m Y wg153_2 J12 st=.ok fr' st/\fr'.get 13=some (.bool true):=⟨_,by simp only[amE,rQ,rA,O12_5,wg153_2,eql0]<;>rfl,gh⟩
 have V13_2:=ag H13 (ag H12 O11_2)
 have V13_3:=ag H13 (ag H12 O11_3)
 have W13:=ad H13 W12
 obtain⟨J14,H14,O14_5⟩:∃ fr',ar m Y wg153_3 J13 st=.ok fr' st/\fr'.get 5=some Z0:=⟨_,by simp only[amE,rQ,rA,V13_2,V13_3,wg153_3,faF,Yg,c209]<;>rfl,gh⟩
 have V14_2:=ag H14 V13_2
 have V14_3:=ag H14 V13_3
 have W14:=ad H14 W13
 obtain⟨J15,H15,O15_20⟩:∃ fr',ar m Y wg153_4 J14 st=.ok fr' st/\fr'.get 20=some (.bool true):=⟨_,by simp only[amE,rQ,rA,O14_5,wg153_4,eql0]<;>rfl,gh⟩
 have V15_2:=ag H15 V14_2
 have V15_3:=ag H15 V14_3
 have W15:=ad H15 W14
 obtain⟨J16,H16,O16_5⟩:∃ fr',ar m Y wg153_5 J15 st=.ok fr' st/\fr'.get 5=some Z0:=⟨_,by simp only[amE,rQ,rA,V15_2,V15_3,wg153_5,faF,Rr,n1,k1,c209]<;>rfl,gh⟩
 obtain⟨J17,H17,O17_6⟩:∃ fr',ar m Y wg153_6 J16 st=.ok fr' st/\fr'.get 6=some Z0:=⟨_,by simp only[amE,rQ,rA,wg153_6]<;>rfl,gh⟩
 have W17:=ad H17 (ad H16 W15)
 obtain⟨FR,dF,F5,hL⟩:=hL J17 W17 (ag H17 (ag H16 V15_2)) (ag H17 (ag H16 V15_3)) O17_6 (ag H17 O16_5)
 obtain⟨J19,H19,O19_4⟩:∃ fr',ar m Y wg153_10 FR st=.ok fr' st/\fr'.get 4=some Z0:=⟨_,by simp only[amE,rQ,rA,F5,wg153_10]<;>rfl,gh⟩
 have W19:=ad H19 dF
 refine Ve (mf:=wf153) (fr:=J19) u153 rfl (.inl ?q19) W19 (by simp only[wf153,Vg,Vu,V0,O19_4,Qg,Ql])
 case q19=>
  rw[<-hA10]
  simp only[amE,rQ,rA,wf153,b00,b11,b22,b33,H11,H12,H13,H14,H15,H16,H17,hL,H19,O13_13,O15_20]
def wg123_0:List Vc:=[ZO 2 (.box true (.t 0)),ZO 3 (.box true (.t 1)),ZM 4 (ZB false)]
def wg123_1:List Vc:=[ZA 6 0 2,ZL 7 6,ZA 8 0 3,ZL 9 8,ZO 10 (.bin false .neq (.t 7) (.t 9)),ZV 11 10,ZG 12 (.faddr 1 (.t 2)) 11 false,ZG 13 (.load false 1 (.t 12)) 11 false,ZG 14 (.faddr 1 (.t 3)) 11 false,ZG 15 (.load false 1 (.t 14)) 11 false,ZG 16 (.bin false .neq (.t 13) (.t 15)) 11 false,ZO 17 (.pick (.t 11) (ZB true) (.t 16)),ZV 18 17,ZG 19 (.faddr 2 (.t 2)) 18 false,ZG 20 (.load false 1 (.t 19)) 18 false,ZG 21 (.len 0 (.t 20)) 18 false,ZG 22 (.faddr 2 (.t 3)) 18 false,ZG 23 (.load false 1 (.t 22)) 18 false,ZG 24 (.len 0 (.t 23)) 18 false,ZG 25 (.bin false .neq (.t 21) (.t 24)) 18 false,ZO 26 (.pick (.t 18) (ZB true) (.t 25))]
def wg123_2:List Vc:=[ZM 4 (ZB false)]
def wg123_3:List Vc:=[ZM 5 (ZC 0)]
def wg123_4:List Vc:=[ZV 27 5,ZA 28 2 2,ZL 29 28,ZN 30 29,ZO 31 (.bin false .lss (.t 27) (.t 30))]
def wg123_5:List (Vc × Nat):=[(ZA 34 2 2,0),(ZL 35 34,1),(ZV 36 5,0),(ZP 37 3 35 36,7),(ZK 38 3 37,15),(ZA 39 2 3,0),(ZL 40 39,32),(ZV 41 5,0),(ZP 42 3 40 41,224),(ZK 43 3 42,480),(ZX 44 123 [(.t 38),(.t 43)],1023),(ZO 45 (.un .not (.t 44)),2047)]
def wg123_6:List Vc:=[ZM 4 (ZB false)]
def wg123_7:List Vc:=[ZV 32 5,ZO 33 (.bin false .add (.t 32) (ZC 1)),ZV 5 33]
def wg123_8:List Vc:=[ZM 4 (ZB true)]
def Rt:Vn:=(.seq (ZQ wg123_4 (.cond (.t 31) .skip (.exit 0))) (.seq (.block 1 (.seq (.draw wg123_5 []) (.cond (.t 45) (ZR wg123_6) .skip))) (.region wg123_7)))
def wf123:Vm:=⟨46,(ZQ wg123_0 (.seq (ZQ wg123_1 (.cond (.t 26) (ZR wg123_2) .skip)) (.seq (ZQ wg123_3 (.block 0 (.loop Rt))) (ZR wg123_8)))),[.t 4]⟩
theorem u123:tbl 123=some wf123:=by kernel_rfl
theorem same123(a:Tm):∀(n:Nat) (Y:Vi) (F:Nat->Prop) (st:St) (ca cb:List AV),We F st a ca->We F st a cb->a.fz < n ->
  R n Y 123 [.agg ca,.agg cb] st=.ret (.bool true) st:=by
 induction hs:a.fz using Nat.strongRecOn generalizing a with
 | _ s ih=>
 intro n Y F st ca cb ha hb hn
 cases a with
 | mk r q nl ex l=>
 simp only[We] at ha hb
 obtain⟨s1,x1,rfl,hx1,rx1⟩:=ha
 obtain⟨t1,y1,rfl,hy1,ry1⟩:=hb
 simp only[Tm.fz] at hs
 obtain⟨m,rfl⟩:∃ m,n=m+1:=⟨n - 1,by omega⟩
 have n1:=hx1.len st
 have k1:=hy1.len st
 have hB1:=hx1.2.1
 rw[rx1.len] at n1 hB1
 rw[ry1.len] at k1
 have e1:=neqI0 r
 have e2:=neqI0 q
 have e3:=neqI0 (.ofNat l.length)
 have hL:∀(fr:Fr),fr.ds=[]->fr.get 2=some (.fptr [.int .i64 r,.int .i64 q,s1] 0)->fr.get 3=some (.fptr [.int .i64 r,.int .i64 q,t1] 0)->fr.get 5=some Z0->∃ FR,FR.ds=[]/\Vx (ac m Y Rt none) m fr st=.exit 0 FR st:=by
  intro fr d0 g2 g3 gi
  refine Ws (B:=ac m Y Rt none) (N:=l.length) (Inv:=fun k fr st1=>fr.ds=[]/\fr.get 2=some (.fptr [.int .i64 r,.int .i64 q,s1] 0)/\fr.get 3=some (.fptr [.int .i64 r,.int .i64 q,t1] 0)/\fr.get 5=some (ZI k)/\st1=st)
   (Out:=fun q=>∃ FR,FR.ds=[]/\q=.exit 0 FR st) ?_ l.length 0 fr st m (by omega) (by omega) ⟨d0,g2,g3,gi,rfl⟩
  intro k fr st1 hk ⟨d0,g2,g3,gi,e1⟩
  subst e1
  have hlt:=Wt k l.length
  by_cases hkN:k < l.length
  ·obtain⟨t,ht,_⟩:=WR (l:=l) (k:=k) hkN
   obtain⟨x,hx,hrx⟩:=rx1.at ht
   obtain⟨y,hy,hry⟩:=ry1.at ht
   obtain⟨px,ix,ldx⟩:=hx1.at hx
   obtain⟨py,iy,ldy⟩:=hy1.at hy
   have ldx:=ldx st1 (Vs.refl _ _)
   have ldy:=ldy st1 (Vs.refl _ _)
   have hfz:=Tm.fzL_mem (Qr ht)
   have cc:((gT m).cg Y).fn 123 [.agg x,.agg y] st1=.ret (.bool true) st1:=ih t.fz (by omega) t rfl m Y F st1 x y hrx hry (by omega)
   have had:=WC (i:=k) (by omega)
   rw[Qs hkN] at hlt
   obtain⟨J20,H20,O20_31⟩:∃ fr',ar m Y wg123_4 fr st1=.ok fr' st1/\fr'.get 31=some (.bool true):=⟨_,by simp only[amE,rQ,rA,g2,gi,wg123_4,faF,Rr,n1,hlt]<;>rfl,gh⟩
   have V20_2:=ag H20 g2
   have V20_3:=ag H20 g3
   have V20_5:=ag H20 gi
   have W20:=ad H20 d0
   obtain⟨J21,H21,K21,O21_45⟩:∃ fr',VK ((gT m).cg Y) wg123_5 [] J20 st1=.ok fr' st1/\Kp [2,3,5,31] J20 fr'/\fr'.get 45=some (.bool false):=⟨_,Wj rfl (by simp only[amE,rQ,rA,V20_2,V20_3,V20_5,wg123_5,faF,Rr,ix,ldx,iy,ldy,cc,Qc,Qc,Qb]<;>rfl),Kp.refl.s.s.s.s.s.s.s.s.s.s.s.s,gh⟩
   have V21_2:=K21.g 2 V20_2
   have V21_3:=K21.g 3 V20_3
   have V21_5:=K21.g 5 V20_5
   have W21:=K21.1.trans W20
   obtain⟨J22,H22,O22_5⟩:∃ fr',ar m Y wg123_7 J21 st1=.ok fr' st1/\fr'.get 5=some (ZI ((k+1))):=⟨_,by simp only[amE,rQ,rA,V21_5,wg123_7,had]<;>rfl,gh⟩
   have V22_2:=ag H22 V21_2
   have V22_3:=ag H22 V21_3
   have W22:=ad H22 W21
   have hI22:ac m Y Rt none fr st1=.norm J22 st1:=by
    simp only[amE,rQ,rA,Rt,b00,b11,b22,b33,H20,H21,H22,O20_31,O21_45]
   rw[hI22]
   exact⟨hkN,W22,V22_2,V22_3,O22_5,rfl⟩
  ·rw[Qp hkN] at hlt
   obtain⟨J23,H23,O23_31⟩:∃ fr',ar m Y wg123_4 fr st1=.ok fr' st1/\fr'.get 31=some (.bool false):=⟨_,by simp only[amE,rQ,rA,g2,gi,wg123_4,faF,Rr,n1,hlt]<;>rfl,gh⟩
   have W23:=ad H23 d0
   have hI23:ac m Y Rt none fr st1=.exit 0 J23 st1:=by
    simp only[amE,rQ,rA,Rt,b00,b11,b22,b33,H23,O23_31]
   rw[hI23]
   exact⟨_,W23,rfl⟩
 obtain⟨fA24,hA24⟩:∃ fA,fA=Vo 0 [.agg [.int .i64 r,.int .i64 q,s1],.agg [.int .i64 r,.int .i64 q,t1]] Fr.nil:=⟨_,rfl⟩
 have gA24_0:=gAt hA24 0
 have gA24_1:=gAt hA24 1
 have dA24:fA24.ds=[]:=by rw[hA24];rfl
 obtain⟨J25,H25,O25_2,O25_3⟩:∃ fr',ar m Y wg123_0 fA24 st=.ok fr' st/\fr'.get 2=some (.fptr [.int .i64 r,.int .i64 q,s1] 0)/\fr'.get 3=some (.fptr [.int .i64 r,.int .i64 q,t1] 0):=⟨_,by simp only[amE,rQ,rA,gA24_0,gA24_1,wg123_0]<;>rfl,gn (gn gh),gn gh⟩
 have W25:=ad H25 dA24
 obtain⟨J26,H26,O26_26⟩:∃ fr',ar m Y wg123_1 J25 st=.ok fr' st/\fr'.get 26=some (.bool false):=⟨_,by simp only[amE,rQ,rA,O25_2,O25_3,wg123_1,faF,Y7,Yg,Rr,n1,k1,e1,e2,e3,Qc,Qb,Qc,Qb]<;>rfl,gh⟩
 have W26:=ad H26 W25
 obtain⟨J27,H27,O27_5⟩:∃ fr',ar m Y wg123_3 J26 st=.ok fr' st/\fr'.get 5=some Z0:=⟨_,by simp only[amE,rQ,rA,wg123_3]<;>rfl,gh⟩
 obtain⟨FR,dF,hL⟩:=hL J27 (ad H27 W26) (ag H27 (ag H26 O25_2)) (ag H27 (ag H26 O25_3)) O27_5
 obtain⟨J29,H29,O29_4⟩:∃ fr',ar m Y wg123_8 FR st=.ok fr' st/\fr'.get 4=some (.bool true):=⟨_,by simp only[amE,rQ,rA,wg123_8]<;>rfl,gh⟩
 have W29:=ad H29 dF
 refine Ve (mf:=wf123) (fr:=J29) u123 rfl (.inl ?q29) W29 (by simp only[wf123,Vg,Vu,V0,O29_4,Qg,Ql])
 case q29=>
  rw[<-hA24]
  simp only[amE,rQ,rA,wf123,b00,b11,b22,b33,H25,H26,H27,hL,H29,O26_26]
end
noncomputable section
open Nat renaming reduceEqDiff -> rQ, reduceAdd -> rA
theorem cmpI_self(a:Int):VS a a=0:=by have:=cmpI_anti a a;omega
theorem cmpI_at0{n:Nat}(hn:2<=n)(Y:Vi)(x:Int)(st:St):R n Y 79 [.int .i64 x,.int .i64 x] st=.ret Z0 st:=by
 have h:=Ri hn Y .i64 x x st
 rw[cmpI_self] at h;exact h
theorem nd_eqag{Γ:Cg}{dst:Option Nat}{gd:Option (Nat × Bool)}{ms:List Vc}{fr:Fr}{st:St}{k:Nat}{n:Bool}{a b:X}:Vj Γ (⟨dst,(MOp.eqag k n a b),gd⟩::ms) fr st=match Vv fr gd with
 | some true=>(match opr Γ fr st (MOp.eqag k n a b) with
  | .val v st'=>Vj Γ ms (Fr.put fr dst v) st'
  | .pan v st'=>.pan fr v st'
  | .stuck=>.stuck)
 | some false=>Vj Γ ms (Fr.put fr dst .undef) st
 | none=>.stuck:=VE rfl
theorem eqag2(a b:Int):eqagA 2 true (.agg [.int .i64 a,.int .i64 b]) (.agg [.int .i64 a,.int .i64 b])=some (.bool false):=by
 simp[eqagA,Ub]
def wg104_0:List Vc:=[ZM 4 (ZC 0)]
def wg104_1:List Vc:=[ZM 5 (ZC 0)]
def wg104_2:List Vc:=[ZV 7 5,ZV 8 0,ZN 9 8,ZO 10 (.bin false .lss (.t 7) (.t 9)),ZV 11 10,ZG 12 (.mv (.t 5)) 11 true,ZG 13 (.mv (.t 1)) 11 true,ZG 14 (.len 0 (.t 13)) 11 true,ZG 15 (.bin false .lss (.t 12) (.t 14)) 11 true,ZO 16 (.pick (.t 11) (.t 15) (ZB false))]
def wg104_3:List (Vc × Nat):=[(ZV 19 0,0),(ZV 20 5,0),(ZP 21 3 19 20,3),(ZK 22 3 21,7),(ZV 23 1,0),(ZV 24 5,0),(ZP 25 3 23 24,48),(ZK 26 3 25,112),(ZX 27 153 [(.t 22),(.t 26)],255),(ZV 6 27,511)]
def wg104_4:List Vc:=[ZV 28 6,ZO 29 (.bin false .neq (.t 28) (ZC 0))]
def wg104_5:List Vc:=[ZV 30 6,ZV 4 30]
def wg104_6:List Vc:=[ZV 17 5,ZO 18 (.bin false .add (.t 17) (ZC 1)),ZV 5 18]
def wg104_7:List Vc:=[ZV 31 0,ZN 32 31,ZV 33 1,ZN 34 33,ZX 35 79 [(.t 32),(.t 34)],ZV 4 35]
def Re:Vn:=(.seq (ZQ wg104_2 (.cond (.t 16) .skip (.exit 0))) (.seq (.block 1 (.seq (.draw wg104_3 []) (ZQ wg104_4 (.cond (.t 29) (ZR wg104_5) .skip)))) (.region wg104_6)))
def wf104:Vm:=⟨36,(ZQ wg104_0 (.seq (ZQ wg104_1 (.block 0 (.loop Re))) (ZR wg104_7))),[.t 4]⟩
theorem t104:tbl 104=some wf104:=by kernel_rfl
theorem terms104_run{F:Nat->Prop}{st:St}{sl tl:AV}{l:List Tm}{xs ys:List (List AV)}(hx:SlR F st sl xs)(hy:SlR F st tl ys)(rx:Vy F st l xs)(ry:Vy F st l ys)(m:Nat)(Y:Vi)(hn:Tm.fzL l+l.length+6 < m):
  R (m+1) Y 104 [sl,tl] st=.ret Z0 st:=by
 have n1:=hx.len st
 have n2:=hy.len st
 have hB:=hx.2.1
 rw[rx.len] at n1 hB
 rw[ry.len] at n2
 have c79:((gT m).cg Y).fn 79 [ZI l.length,ZI l.length] st=.ret Z0 st:=cmpI_at0 (by omega) Y _ st
 have hL:∀(fr:Fr),fr.ds=[]->fr.get 0=some sl->fr.get 1=some tl->fr.get 5=some Z0->∃ FR,FR.ds=[]/\FR.get 0=some sl/\FR.get 1=some tl/\Vx (ac m Y Re none) m fr st=.exit 0 FR st:=by
  intro fr d0 g0 g1 g5
  refine Ws (B:=ac m Y Re none) (N:=l.length) (Inv:=fun k fr st1=>fr.ds=[]/\fr.get 0=some sl/\fr.get 1=some tl/\fr.get 5=some (ZI k)/\st1=st)
   (Out:=fun r=>∃ FR,FR.ds=[]/\FR.get 0=some sl/\FR.get 1=some tl/\r=.exit 0 FR st) ?_ l.length 0 fr st m (by omega) (by omega) ⟨d0,g0,g1,g5,rfl⟩
  intro k fr st1 hk ⟨d0,g0,g1,g5,e1⟩
  subst e1
  have hlt:=Wt k l.length
  by_cases hkN:k < l.length
  ·obtain⟨t,ht,_⟩:=WR (l:=l) (k:=k) hkN
   obtain⟨x,hx1,hrx⟩:=rx.at ht
   obtain⟨y,hy1,hry⟩:=ry.at ht
   obtain⟨px,ix,ldx⟩:=hx.at hx1
   obtain⟨py,iy,ldy⟩:=hy.at hy1
   have ldx:=ldx st1 (Vs.refl _ _)
   have ldy:=ldy st1 (Vs.refl _ _)
   have hfz:=Tm.fzL_mem (Qr ht)
   have c153:((gT m).cg Y).fn 153 [.agg x,.agg y] st1=.ret Z0 st1:=self153 t m Y F st1 x y hrx hry (by omega)
   have had:=WC (i:=k) (by omega)
   rw[Qs hkN] at hlt
   obtain⟨J1,H1,O1_16⟩:∃ fr',ar m Y wg104_2 fr st1=.ok fr' st1/\fr'.get 16=some (.bool true):=⟨_,by simp only[amE,rQ,rA,g0,g1,g5,wg104_2,n1,n2,hlt,Qc,Qb]<;>rfl,gh⟩
   have V1_0:=ag H1 g0
   have V1_1:=ag H1 g1
   have V1_5:=ag H1 g5
   obtain⟨J2,H2,K2,O2_6⟩:∃ fr',VK ((gT m).cg Y) wg104_3 [] J1 st1=.ok fr' st1/\Kp [0,1,5,16] J1 fr'/\fr'.get 6=some Z0:=⟨_,Wj rfl (by simp only[amE,rQ,rA,V1_0,V1_1,V1_5,wg104_3,ix,ldx,iy,ldy,c153]<;>rfl),Kp.refl.s.s.s.s.s.s.s.s.s.s,gh⟩
   have V2_0:=K2.g 0 V1_0
   have V2_1:=K2.g 1 V1_1
   have V2_5:=K2.g 5 V1_5
   have W2:=K2.1.trans (ad H1 d0)
   obtain⟨J3,H3,O3_29⟩:∃ fr',ar m Y wg104_4 J2 st1=.ok fr' st1/\fr'.get 29=some (.bool false):=⟨_,by simp only[amE,rQ,rA,O2_6,wg104_4,ne00]<;>rfl,gh⟩
   have V3_0:=ag H3 V2_0
   have V3_1:=ag H3 V2_1
   have V3_5:=ag H3 V2_5
   have W3:=ad H3 W2
   obtain⟨J4,H4,O4_5⟩:∃ fr',ar m Y wg104_6 J3 st1=.ok fr' st1/\fr'.get 5=some (ZI ((k+1))):=⟨_,by simp only[amE,rQ,rA,V3_5,wg104_6,had]<;>rfl,gh⟩
   have W4:=ad H4 W3
   have hI4:ac m Y Re none fr st1=.norm J4 st1:=by
    simp only[amE,rQ,rA,Re,b00,b11,b22,b33,H1,H2,H3,H4,O1_16,O3_29]
   rw[hI4]
   exact⟨hkN,W4,(ag H4 V3_0),(ag H4 V3_1),O4_5,rfl⟩
  ·rw[Qp hkN] at hlt
   obtain⟨J5,H5,O5_16⟩:∃ fr',ar m Y wg104_2 fr st1=.ok fr' st1/\fr'.get 16=some (.bool false):=⟨_,by simp only[amE,rQ,rA,g0,g1,g5,wg104_2,n1,hlt,Qc,Qb,Qc,Qb]<;>rfl,gh⟩
   have W5:=ad H5 d0
   have hI5:ac m Y Re none fr st1=.exit 0 J5 st1:=by
    simp only[amE,rQ,rA,Re,b00,b11,b22,b33,H5,O5_16]
   rw[hI5]
   exact⟨_,W5,(ag H5 g0),(ag H5 g1),rfl⟩
 obtain⟨fA6,hA6⟩:∃ fA,fA=Vo 0 [sl,tl] Fr.nil:=⟨_,rfl⟩
 have gA6_0:=gAt hA6 0
 have gA6_1:=gAt hA6 1
 have dA6:fA6.ds=[]:=by rw[hA6];rfl
 obtain⟨J7,H7⟩:∃ fr',ar m Y wg104_0 fA6 st=.ok fr' st:=⟨_,by simp only[amE,rQ,rA,wg104_0]<;>rfl⟩
 have W7:=ad H7 dA6
 obtain⟨J8,H8,O8_5⟩:∃ fr',ar m Y wg104_1 J7 st=.ok fr' st/\fr'.get 5=some Z0:=⟨_,by simp only[amE,rQ,rA,wg104_1]<;>rfl,gh⟩
 have W8:=ad H8 W7
 obtain⟨FR,dF,F0,F1,hL⟩:=hL J8 W8 (ag H8 (ag H7 gA6_0)) (ag H8 (ag H7 gA6_1)) O8_5
 obtain⟨J10,H10,O10_4⟩:∃ fr',ar m Y wg104_7 FR st=.ok fr' st/\fr'.get 4=some Z0:=⟨_,by simp only[amE,rQ,rA,F0,F1,wg104_7,n1,n2,c79]<;>rfl,gh⟩
 refine Ve (mf:=wf104) (fr:=J10) t104 rfl (.inl ?q10) (ad H10 dF) (by simp only[wf104,Vg,Vu,V0,O10_4,Qg,Ql])
 case q10=>
  rw[<-hA6]
  simp only[amE,rQ,rA,wf104,b00,b11,b22,b33,H7,H8,hL,H10]
def wg59_0:List Vc:=[ZO 2 (.box true (.t 0)),ZO 3 (.box true (.t 1)),ZM 4 (ZC 0)]
def wg59_1:List Vc:=[ZA 6 0 2,ZL 7 6,ZA 8 0 3,ZL 9 8,ZX 10 79 [(.t 7),(.t 9)],ZV 5 10]
def wg59_2:List Vc:=[ZV 11 5,ZO 12 (.bin false .neq (.t 11) (ZC 0))]
def wg59_3:List Vc:=[ZV 13 5,ZV 4 13]
def wg59_4:List Vc:=[ZA 14 1 2,ZL 15 14,ZA 16 1 3,ZL 17 16,ZX 18 104 [(.t 15),(.t 17)],ZV 4 18]
def wf59:Vm:=⟨19,(ZQ wg59_0 (.seq (ZQ wg59_1 (ZQ wg59_2 (.cond (.t 12) (ZR wg59_3) .skip))) (ZR wg59_4))),[.t 4]⟩
theorem t59:tbl 59=some wf59:=by kernel_rfl
theorem labels59_run{F:Nat->Prop}{st:St}{sl tl:AV}{l:List Tm}{xs ys:List (List AV)}(hx:SlR F st sl xs)(hy:SlR F st tl ys)(rx:Vy F st l xs)(ry:Vy F st l ys)(g:Int)(m:Nat)(Y:Vi)(hn:Tm.fzL l+l.length+8 < m):R (m+1) Y 59 [.agg [.int .i64 g,sl],.agg [.int .i64 g,tl]] st=.ret Z0 st:=by
 have c79:((gT m).cg Y).fn 79 [.int .i64 g,.int .i64 g] st=.ret Z0 st:=cmpI_at0 (by omega) Y _ st
 have c104:((gT m).cg Y).fn 104 [sl,tl] st=.ret Z0 st:=by
  obtain⟨q,rfl⟩:∃ q,m=q+1:=⟨m - 1,by omega⟩
  exact terms104_run hx hy rx ry q Y (by omega)
 obtain⟨fA11,hA11⟩:∃ fA,fA=Vo 0 [.agg [.int .i64 g,sl],.agg [.int .i64 g,tl]] Fr.nil:=⟨_,rfl⟩
 have gA11_0:=gAt hA11 0
 have gA11_1:=gAt hA11 1
 have dA11:fA11.ds=[]:=by rw[hA11];rfl
 obtain⟨J12,H12,O12_2,O12_3⟩:∃ fr',ar m Y wg59_0 fA11 st=.ok fr' st/\fr'.get 2=some (.fptr [.int .i64 g,sl] 0)/\fr'.get 3=some (.fptr [.int .i64 g,tl] 0):=⟨_,by simp only[amE,rQ,rA,gA11_0,gA11_1,wg59_0]<;>rfl,gn (gn gh),gn gh⟩
 have W12:=ad H12 dA11
 obtain⟨J13,H13,O13_5⟩:∃ fr',ar m Y wg59_1 J12 st=.ok fr' st/\fr'.get 5=some Z0:=⟨_,by simp only[amE,rQ,rA,O12_2,O12_3,wg59_1,faF,ld2_0,c79]<;>rfl,gh⟩
 have V13_2:=ag H13 O12_2
 have V13_3:=ag H13 O12_3
 have W13:=ad H13 W12
 obtain⟨J14,H14,O14_12⟩:∃ fr',ar m Y wg59_2 J13 st=.ok fr' st/\fr'.get 12=some (.bool false):=⟨_,by simp only[amE,rQ,rA,O13_5,wg59_2,ne00]<;>rfl,gh⟩
 have V14_2:=ag H14 V13_2
 have V14_3:=ag H14 V13_3
 have W14:=ad H14 W13
 obtain⟨J15,H15,O15_4⟩:∃ fr',ar m Y wg59_4 J14 st=.ok fr' st/\fr'.get 4=some Z0:=⟨_,by simp only[amE,rQ,rA,V14_2,V14_3,wg59_4,faF,ld2_1,c104]<;>rfl,gh⟩
 have W15:=ad H15 W14
 refine Ve (mf:=wf59) (fr:=J15) t59 rfl (.inl ?q15) W15 (by simp only[wf59,Vg,Vu,V0,O15_4,Qg,Ql])
 case q15=>
  rw[<-hA11]
  simp only[amE,rQ,rA,wf59,b00,b11,b22,b33,H12,H13,H14,H15,O14_12]
def wg27_0:List Vc:=[ZO 2 (.box true (.t 0)),ZO 3 (.box true (.t 1)),ZM 4 (ZB false)]
def wg27_1:List Vc:=[ZK 5 2 2,ZK 6 2 3,ZX 7 59 [(.t 5),(.t 6)],ZO 8 (.bin false .eql (.t 7) (ZC 0)),ZV 4 8]
def wf27:Vm:=⟨9,(ZQ wg27_0 (ZR wg27_1)),[.t 4]⟩
theorem t27:tbl 27=some wf27:=by kernel_rfl
theorem sameLabel27_run{F:Nat->Prop}{st:St}{sl tl:AV}{l:List Tm}{xs ys:List (List AV)}(hx:SlR F st sl xs)(hy:SlR F st tl ys)(rx:Vy F st l xs)(ry:Vy F st l ys)(g:Int)(m:Nat)(Y:Vi)(hn:Tm.fzL l+l.length+10 < m):R (m+1) Y 27 [.agg [.int .i64 g,sl],.agg [.int .i64 g,tl]] st=.ret (.bool true) st:=by
 have c59:((gT m).cg Y).fn 59 [.agg [.int .i64 g,sl],.agg [.int .i64 g,tl]] st=.ret Z0 st:=by
  obtain⟨q,rfl⟩:∃ q,m=q+1:=⟨m - 1,by omega⟩
  exact labels59_run hx hy rx ry g q Y (by omega)
 have eq:Vr false .eql Z0 Z0=some (.bool true):=rfl
 obtain⟨fA16,hA16⟩:∃ fA,fA=Vo 0 [.agg [.int .i64 g,sl],.agg [.int .i64 g,tl]] Fr.nil:=⟨_,rfl⟩
 have gA16_0:=gAt hA16 0
 have gA16_1:=gAt hA16 1
 have dA16:fA16.ds=[]:=by rw[hA16];rfl
 obtain⟨J17,H17,O17_2,O17_3⟩:∃ fr',ar m Y wg27_0 fA16 st=.ok fr' st/\fr'.get 2=some (.fptr [.int .i64 g,sl] 0)/\fr'.get 3=some (.fptr [.int .i64 g,tl] 0):=⟨_,by simp only[amE,rQ,rA,gA16_0,gA16_1,wg27_0]<;>rfl,gn (gn gh),gn gh⟩
 have W17:=ad H17 dA16
 obtain⟨J18,H18,O18_4⟩:∃ fr',ar m Y wg27_1 J17 st=.ok fr' st/\fr'.get 4=some (.bool true):=⟨_,by simp only[amE,rQ,rA,O17_2,O17_3,wg27_1,ld2_a,c59,eq]<;>rfl,gh⟩
 refine Ve (mf:=wf27) (fr:=J18) t27 rfl (.inl ?q18) (ad H18 W17) (by simp only[wf27,Vg,Vu,V0,O18_4,Qg,Ql])
 case q18=>
  rw[<-hA16]
  simp only[amE,rQ,rA,wf27,b00,b11,b22,b33,H17,H18]
def wg82_0:List Vc:=[ZO 2 (.box true (.t 0)),ZO 3 (.box true (.t 1)),ZM 4 (ZB false)]
def wg82_1:List Vc:=[ZA 7 0 2,ZL 8 7,ZA 9 0 3,ZL 10 9,ZO 11 (.bin false .neq (.t 8) (.t 10)),ZV 12 11,ZG 13 (.faddr 1 (.t 2)) 12 false,ZG 14 (.load false 1 (.t 13)) 12 false,ZG 15 (.len 0 (.t 14)) 12 false,ZG 16 (.faddr 1 (.t 3)) 12 false,ZG 17 (.load false 1 (.t 16)) 12 false,ZG 18 (.len 0 (.t 17)) 12 false,ZG 19 (.bin false .neq (.t 15) (.t 18)) 12 false,ZO 20 (.pick (.t 12) (ZB true) (.t 19)),ZV 21 20,ZG 22 (.faddr 2 (.t 2)) 21 false,ZG 23 (.load false 1 (.t 22)) 21 false,ZG 24 (.len 0 (.t 23)) 21 false,ZG 25 (.faddr 2 (.t 3)) 21 false,ZG 26 (.load false 1 (.t 25)) 21 false,ZG 27 (.len 0 (.t 26)) 21 false,ZG 28 (.bin false .neq (.t 24) (.t 27)) 21 false,ZO 29 (.pick (.t 21) (ZB true) (.t 28))]
def wg82_2:List Vc:=[ZM 4 (ZB false)]
def wg82_3:List Vc:=[ZM 5 (ZC 0)]
def wg82_4:List Vc:=[ZV 30 5,ZA 31 1 2,ZL 32 31,ZN 33 32,ZO 34 (.bin false .lss (.t 30) (.t 33))]
def wg82_5:List (Vc × Nat):=[(ZA 37 1 2,0),(ZL 38 37,1),(ZV 39 5,0),(ZP 40 3 38 39,7),(ZK 41 3 40,15),(ZA 42 1 3,0),(ZL 43 42,32),(ZV 44 5,0),(ZP 45 3 43 44,224),(ZK 46 3 45,480),(ZX 47 123 [(.t 41),(.t 46)],1023),(ZO 48 (.un .not (.t 47)),2047)]
def wg82_6:List Vc:=[ZM 4 (ZB false)]
def wg82_7:List Vc:=[ZV 35 5,ZO 36 (.bin false .add (.t 35) (ZC 1)),ZV 5 36]
def wg82_8:List Vc:=[ZM 6 (ZC 0)]
def wg82_9:List Vc:=[ZV 49 6,ZA 50 2 2,ZL 51 50,ZN 52 51,ZO 53 (.bin false .lss (.t 49) (.t 52))]
def wg82_10:List (Vc × Nat):=[(ZA 56 2 2,0),(ZL 57 56,1),(ZV 58 6,0),(ZP 59 3 57 58,7),(ZK 60 3 59,15),(ZA 61 2 3,0),(ZL 62 61,32),(ZV 63 6,0),(ZP 64 3 62 63,224),(ZK 65 3 64,480),(ZX 66 82 [(.t 60),(.t 65)],1023),(ZO 67 (.un .not (.t 66)),2047)]
def wg82_11:List Vc:=[ZM 4 (ZB false)]
def wg82_12:List Vc:=[ZV 54 6,ZO 55 (.bin false .add (.t 54) (ZC 1)),ZV 6 55]
def wg82_13:List Vc:=[ZM 4 (ZB true)]
def Rm:Vn:=(.seq (ZQ wg82_9 (.cond (.t 53) .skip (.exit 2))) (.seq (.block 3 (.seq (.draw wg82_10 []) (.cond (.t 67) (ZR wg82_11) .skip))) (.region wg82_12)))
def Rk:Vn:=(.seq (ZQ wg82_4 (.cond (.t 34) .skip (.exit 0))) (.seq (.block 1 (.seq (.draw wg82_5 []) (.cond (.t 48) (ZR wg82_6) .skip))) (.region wg82_7)))
def wf82:Vm:=⟨68,(ZQ wg82_0 (.seq (ZQ wg82_1 (.cond (.t 29) (ZR wg82_2) .skip)) (.seq (ZQ wg82_3 (.block 0 (.loop Rk))) (.seq (ZQ wg82_8 (.block 2 (.loop Rm))) (ZR wg82_13))))),[.t 4]⟩
theorem t82:tbl 82=some wf82:=by kernel_rfl
theorem same82(a:Dv):∀(n:Nat) (Y:Vi) (F:Nat->Prop) (st:St) (ca cb:List AV),VU F st a ca->VU F st a cb->a.fz < n ->
  R n Y 82 [.agg ca,.agg cb] st=.ret (.bool true) st:=by
 induction hs:a.fz using Nat.strongRecOn generalizing a with
 | _ s ih=>
 intro n Y F st ca cb ha hb hn
 cases a with
 | mk r nv ev vs nl ex l=>
 simp only[VU] at ha hb
 obtain⟨s1,x1,s2,x2,rfl,hx1,rx1,hx2,rx2⟩:=ha
 obtain⟨t1,y1,t2,y2,rfl,hy1,ry1,hy2,ry2⟩:=hb
 simp only[Dv.fz] at hs
 obtain⟨m,rfl⟩:∃ m,n=m+1:=⟨n - 1,by omega⟩
 have n1:=hx1.len st
 have n2:=hx2.len st
 have k1:=hy1.len st
 have k2:=hy2.len st
 have hB1:=hx1.2.1
 have hB2:=hx2.2.1
 rw[rx1.len] at n1 hB1
 rw[rx2.len] at n2 hB2
 rw[ry1.len] at k1
 rw[ry2.len] at k2
 have e1:=neqI0 r
 have e2:=neqI0 (.ofNat vs.length)
 have e3:=neqI0 (.ofNat l.length)
 have hL1:∀(fr:Fr),fr.ds=[]->fr.get 2=some (.fptr [.int .i64 r,s1,s2] 0)->fr.get 3=some (.fptr [.int .i64 r,t1,t2] 0)->fr.get 5=some Z0->∃ FR,FR.ds=[]/\FR.get 2=some (.fptr [.int .i64 r,s1,s2] 0)/\FR.get 3=some (.fptr [.int .i64 r,t1,t2] 0)/\Vx (ac m Y Rk none) m fr st=.exit 0 FR st:=by
  intro fr d0 g2 g3 g5
  refine Ws (B:=ac m Y Rk none) (N:=vs.length) (Inv:=fun k fr st1=>fr.ds=[]/\fr.get 2=some (.fptr [.int .i64 r,s1,s2] 0)/\fr.get 3=some (.fptr [.int .i64 r,t1,t2] 0)/\fr.get 5=some (ZI k)/\st1=st)
   (Out:=fun q=>∃ FR,FR.ds=[]/\FR.get 2=some (.fptr [.int .i64 r,s1,s2] 0)/\FR.get 3=some (.fptr [.int .i64 r,t1,t2] 0)/\q=.exit 0 FR st) ?_ vs.length 0 fr st m (by omega) (by omega) ⟨d0,g2,g3,g5,rfl⟩
  intro k fr st1 hk ⟨d0,g2,g3,g5,e1⟩
  subst e1
  have hlt:=Wt k vs.length
  by_cases hkN:k < vs.length
  ·obtain⟨t,ht,_⟩:=WR (l:=vs) (k:=k) hkN
   obtain⟨x,hx,hrx⟩:=rx1.at ht
   obtain⟨y,hy,hry⟩:=ry1.at ht
   obtain⟨px,ix,ldx⟩:=hx1.at hx
   obtain⟨py,iy,ldy⟩:=hy1.at hy
   have ldx:=ldx st1 (Vs.refl _ _)
   have ldy:=ldy st1 (Vs.refl _ _)
   have hfz:=Tm.fzL_mem (Qr ht)
   have c123:((gT m).cg Y).fn 123 [.agg x,.agg y] st1=.ret (.bool true) st1:=same123 t m Y F st1 x y hrx hry (by omega)
   have had:=WC (i:=k) (by omega)
   rw[Qs hkN] at hlt
   obtain⟨J19,H19,O19_34⟩:∃ fr',ar m Y wg82_4 fr st1=.ok fr' st1/\fr'.get 34=some (.bool true):=⟨_,by simp only[amE,rQ,rA,g2,g5,wg82_4,faF,Yg,n1,hlt]<;>rfl,gh⟩
   have V19_2:=ag H19 g2
   have V19_3:=ag H19 g3
   have V19_5:=ag H19 g5
   have W19:=ad H19 d0
   obtain⟨J20,H20,K20,O20_48⟩:∃ fr',VK ((gT m).cg Y) wg82_5 [] J19 st1=.ok fr' st1/\Kp [2,3,5,34] J19 fr'/\fr'.get 48=some (.bool false):=⟨_,Wj rfl (by simp only[amE,rQ,rA,V19_2,V19_3,V19_5,wg82_5,faF,Yg,ix,ldx,iy,ldy,c123,Qc,Qc,Qb]<;>rfl),Kp.refl.s.s.s.s.s.s.s.s.s.s.s.s,gh⟩
   have V20_2:=K20.g 2 V19_2
   have V20_3:=K20.g 3 V19_3
   have V20_5:=K20.g 5 V19_5
   have W20:=K20.1.trans W19
   obtain⟨J21,H21,O21_5⟩:∃ fr',ar m Y wg82_7 J20 st1=.ok fr' st1/\fr'.get 5=some (ZI ((k+1))):=⟨_,by simp only[amE,rQ,rA,V20_5,wg82_7,had]<;>rfl,gh⟩
   have V21_2:=ag H21 V20_2
   have V21_3:=ag H21 V20_3
   have W21:=ad H21 W20
   have hI21:ac m Y Rk none fr st1=.norm J21 st1:=by
    simp only[amE,rQ,rA,Rk,b00,b11,b22,b33,H19,H20,H21,O19_34,O20_48]
   rw[hI21]
   exact⟨hkN,W21,V21_2,V21_3,O21_5,rfl⟩
  ·rw[Qp hkN] at hlt
   obtain⟨J22,H22,O22_34⟩:∃ fr',ar m Y wg82_4 fr st1=.ok fr' st1/\fr'.get 34=some (.bool false):=⟨_,by simp only[amE,rQ,rA,g2,g5,wg82_4,faF,Yg,n1,hlt]<;>rfl,gh⟩
   have V22_2:=ag H22 g2
   have V22_3:=ag H22 g3
   have W22:=ad H22 d0
   have hI22:ac m Y Rk none fr st1=.exit 0 J22 st1:=by
    simp only[amE,rQ,rA,Rk,b00,b11,b22,b33,H22,O22_34]
   rw[hI22]
   exact⟨_,W22,V22_2,V22_3,rfl⟩
 have hL2:∀(fr:Fr),fr.ds=[]->fr.get 2=some (.fptr [.int .i64 r,s1,s2] 0)->fr.get 3=some (.fptr [.int .i64 r,t1,t2] 0)->fr.get 6=some Z0->∃ FR,FR.ds=[]/\Vx (ac m Y Rm none) m fr st=.exit 2 FR st:=by
  intro fr d0 g2 g3 g6
  refine Ws (B:=ac m Y Rm none) (N:=l.length) (Inv:=fun k fr st1=>fr.ds=[]/\fr.get 2=some (.fptr [.int .i64 r,s1,s2] 0)/\fr.get 3=some (.fptr [.int .i64 r,t1,t2] 0)/\fr.get 6=some (ZI k)/\st1=st)
   (Out:=fun q=>∃ FR,FR.ds=[]/\q=.exit 2 FR st) ?_ l.length 0 fr st m (by omega) (by omega) ⟨d0,g2,g3,g6,rfl⟩
  intro k fr st1 hk ⟨d0,g2,g3,g6,e1⟩
  subst e1
  have hlt:=Wt k l.length
  by_cases hkN:k < l.length
  ·obtain⟨t,ht,_⟩:=WR (l:=l) (k:=k) hkN
   obtain⟨x,hx,hrx⟩:=rx2.at ht
   obtain⟨y,hy,hry⟩:=ry2.at ht
   obtain⟨px,ix,ldx⟩:=hx2.at hx
   obtain⟨py,iy,ldy⟩:=hy2.at hy
   have ldx:=ldx st1 (Vs.refl _ _)
   have ldy:=ldy st1 (Vs.refl _ _)
   have hfz:=Dv.fzL_mem (Qr ht)
   have c82:((gT m).cg Y).fn 82 [.agg x,.agg y] st1=.ret (.bool true) st1:=ih t.fz (by omega) t rfl m Y F st1 x y hrx hry (by omega)
   have had:=WC (i:=k) (by omega)
   rw[Qs hkN] at hlt
   obtain⟨J23,H23,O23_53⟩:∃ fr',ar m Y wg82_9 fr st1=.ok fr' st1/\fr'.get 53=some (.bool true):=⟨_,by simp only[amE,rQ,rA,g2,g6,wg82_9,faF,Rr,n2,hlt]<;>rfl,gh⟩
   have V23_2:=ag H23 g2
   have V23_3:=ag H23 g3
   have V23_6:=ag H23 g6
   have W23:=ad H23 d0
   obtain⟨J24,H24,K24,O24_67⟩:∃ fr',VK ((gT m).cg Y) wg82_10 [] J23 st1=.ok fr' st1/\Kp [2,3,6,53] J23 fr'/\fr'.get 67=some (.bool false):=⟨_,Wj rfl (by simp only[amE,rQ,rA,V23_2,V23_3,V23_6,wg82_10,faF,Rr,ix,ldx,iy,ldy,c82,Qc,Qc,Qb]<;>rfl),Kp.refl.s.s.s.s.s.s.s.s.s.s.s.s,gh⟩
   have V24_2:=K24.g 2 V23_2
   have V24_3:=K24.g 3 V23_3
   have V24_6:=K24.g 6 V23_6
   have W24:=K24.1.trans W23
   obtain⟨J25,H25,O25_6⟩:∃ fr',ar m Y wg82_12 J24 st1=.ok fr' st1/\fr'.get 6=some (ZI ((k+1))):=⟨_,by simp only[amE,rQ,rA,V24_6,wg82_12,had]<;>rfl,gh⟩
   have W25:=ad H25 W24
   have hI25:ac m Y Rm none fr st1=.norm J25 st1:=by
    simp only[amE,rQ,rA,Rm,b00,b11,b22,b33,H23,H24,H25,O23_53,O24_67]
   rw[hI25]
   exact⟨hkN,W25,(ag H25 V24_2),(ag H25 V24_3),O25_6,rfl⟩
  ·rw[Qp hkN] at hlt
   obtain⟨J26,H26,O26_53⟩:∃ fr',ar m Y wg82_9 fr st1=.ok fr' st1/\fr'.get 53=some (.bool false):=⟨_,by simp only[amE,rQ,rA,g2,g6,wg82_9,faF,Rr,n2,hlt]<;>rfl,gh⟩
   have W26:=ad H26 d0
   have hI26:ac m Y Rm none fr st1=.exit 2 J26 st1:=by
    simp only[amE,rQ,rA,Rm,b00,b11,b22,b33,H26,O26_53]
   rw[hI26]
   exact⟨_,W26,rfl⟩
 obtain⟨fA27,hA27⟩:∃ fA,fA=Vo 0 [.agg [.int .i64 r,s1,s2],.agg [.int .i64 r,t1,t2]] Fr.nil:=⟨_,rfl⟩
 have gA27_0:=gAt hA27 0
 have gA27_1:=gAt hA27 1
 have dA27:fA27.ds=[]:=by rw[hA27];rfl
 obtain⟨J28,H28,O28_2,O28_3⟩:∃ fr',ar m Y wg82_0 fA27 st=.ok fr' st/\fr'.get 2=some (.fptr [.int .i64 r,s1,s2] 0)/\fr'.get 3=some (.fptr [.int .i64 r,t1,t2] 0):=⟨_,by simp only[amE,rQ,rA,gA27_0,gA27_1,wg82_0]<;>rfl,gn (gn gh),gn gh⟩
 obtain⟨J29,H29,O29_29⟩:∃ fr',ar m Y wg82_1 J28 st=.ok fr' st/\fr'.get 29=some (.bool false):=⟨_,by simp only[amE,rQ,rA,O28_2,O28_3,wg82_1,faF,Y7,Yg,Rr,n1,n2,k1,k2,e1,e2,e3,Qc,Qb]<;>rfl,gh⟩
 have W29:=ad H29 (ad H28 dA27)
 obtain⟨J30,H30,O30_5⟩:∃ fr',ar m Y wg82_3 J29 st=.ok fr' st/\fr'.get 5=some Z0:=⟨_,by simp only[amE,rQ,rA,wg82_3]<;>rfl,gh⟩
 obtain⟨FR,dF,F2,F3,hL1⟩:=hL1 J30 (ad H30 W29) (ag H30 (ag H29 O28_2)) (ag H30 (ag H29 O28_3)) O30_5
 obtain⟨J32,H32,O32_6⟩:∃ fr',ar m Y wg82_8 FR st=.ok fr' st/\fr'.get 6=some Z0:=⟨_,by simp only[amE,rQ,rA,wg82_8]<;>rfl,gh⟩
 obtain⟨FQ,dQ,hL2⟩:=hL2 J32 (ad H32 dF) (ag H32 F2) (ag H32 F3) O32_6
 obtain⟨J34,H34,O34_4⟩:∃ fr',ar m Y wg82_13 FQ st=.ok fr' st/\fr'.get 4=some (.bool true):=⟨_,by simp only[amE,rQ,rA,wg82_13]<;>rfl,gh⟩
 refine Ve (mf:=wf82) (fr:=J34) t82 rfl (.inl ?q34) (ad H34 dQ) (by simp only[wf82,Vg,Vu,V0,O34_4,Qg,Ql])
 case q34=>
  rw[<-hA27]
  simp only[amE,rQ,rA,wf82,b00,b11,b22,b33,H28,H29,H30,hL1,H32,hL2,H34,O29_29]
def wg36_0:List Vc:=[ZO 2 (.box true (.t 0)),ZO 3 (.box true (.t 1)),ZM 4 (ZB false)]
def wg36_1_0:List Vc:=[ZA 6 0 2,ZL 7 6,ZA 8 0 3,ZL 9 8,ZO 10 (.bin false .neq (.t 7) (.t 9)),ZV 11 10]
def wg36_1_1:List Vc:=[ZG 12 (.faddr 1 (.t 2)) 11 false,ZG 13 (.load true 2 (.t 12)) 11 false,ZG 14 (.faddr 1 (.t 3)) 11 false,ZG 15 (.load true 2 (.t 14)) 11 false,ZG 16 (.call (.c (.func (.func 27) [] [])) [(.t 13),(.t 15)]) 11 false,ZG 17 (.un .not (.t 16)) 11 false,ZO 18 (.pick (.t 11) (ZB true) (.t 17)),ZV 19 18]
def wg36_1_2:List Vc:=[ZG 20 (.faddr 3 (.t 2)) 19 false,ZG 21 (.load true 3 (.t 20)) 19 false,ZG 22 (.faddr 3 (.t 3)) 19 false,ZG 23 (.load true 3 (.t 22)) 19 false,ZG 24 (.call (.c (.func (.func 82) [] [])) [(.t 21),(.t 23)]) 19 false,ZG 25 (.un .not (.t 24)) 19 false,ZO 26 (.pick (.t 19) (ZB true) (.t 25)),ZV 27 26]
def wg36_1_3:List Vc:=[ZG 28 (.faddr 6 (.t 2)) 27 false,ZG 29 (.load false 1 (.t 28)) 27 false,ZG 30 (.len 0 (.t 29)) 27 false,ZG 31 (.faddr 6 (.t 3)) 27 false,ZG 32 (.load false 1 (.t 31)) 27 false,ZG 33 (.len 0 (.t 32)) 27 false,ZG 34 (.bin false .neq (.t 30) (.t 33)) 27 false,ZO 35 (.pick (.t 27) (ZB true) (.t 34))]
def wg36_1:List Vc:=wg36_1_0++(wg36_1_1++(wg36_1_2++wg36_1_3))
def wg36_2:List Vc:=[ZM 4 (ZB false)]
def wg36_3:List Vc:=[ZM 5 (ZC 0)]
def wg36_4:List Vc:=[ZV 36 5,ZA 37 6 2,ZL 38 37,ZN 39 38,ZO 40 (.bin false .lss (.t 36) (.t 39))]
def wg36_5:List (Vc × Nat):=[(ZA 43 6 2,0),(ZL 44 43,1),(ZV 45 5,0),(ZP 46 2 44 45,7),(ZK 47 2 46,15),(ZA 48 6 3,0),(ZL 49 48,32),(ZV 50 5,0),(ZP 51 2 49 50,224),(ZK 52 2 51,480),(ZO 53 (.eqag 2 true (.t 47) (.t 52)),1023)]
def wg36_6:List Vc:=[ZM 4 (ZB false)]
def wg36_7:List Vc:=[ZV 41 5,ZO 42 (.bin false .add (.t 41) (ZC 1)),ZV 5 42]
def wg36_8:List Vc:=[ZM 4 (ZB true)]
def Rp:Vn:=(.seq (ZQ wg36_4 (.cond (.t 40) .skip (.exit 0))) (.seq (.block 1 (.seq (.draw wg36_5 []) (.cond (.t 53) (ZR wg36_6) .skip))) (.region wg36_7)))
def wf36:Vm:=⟨54,(ZQ wg36_0 (.seq (ZQ wg36_1 (.cond (.t 35) (ZR wg36_2) .skip)) (.seq (ZQ wg36_3 (.block 0 (.loop Rp))) (ZR wg36_8)))),[.t 4]⟩
theorem t36:tbl 36=some wf36:=by kernel_rfl
theorem ld7_0(a b c d e f g:AV)(st:St):Vf false 1 st (.fptr [a,b,c,d,e,f,g] 0)=some a:=rfl
theorem ld7_1(a b c d e f g:AV)(st:St):Vf true 2 st (.fptr [a,b,c,d,e,f,g] 1)=some (.agg [b,c]):=rfl
theorem ld7_3(a b c d e f g:AV)(st:St):Vf true 3 st (.fptr [a,b,c,d,e,f,g] 3)=some (.agg [d,e,f]):=rfl
theorem ld7_6(a b c d e f g:AV)(st:St):Vf false 1 st (.fptr [a,b,c,d,e,f,g] 6)=some g:=rfl
theorem sameMove36_run{F:Nat->Prop}{st:St}{sv sw csl dsl:AV}{l:List Tm}{xs ys:List (List AV)}(hx:SlR F st sv xs)(hy:SlR F st sw ys)(rx:Vy F st l xs)(ry:Vy F st l ys)(p g r:Int){d:Dv}{s1 s2 t1 t2:AV}(rd:VU F st d [.int .i64 r,s1,s2])(re:VU F st d [.int .i64 r,t1,t2]){cl:List (Int × Int)}{F1 F2:Nat->Prop}(h1:SlN 2 F1 st csl (cl.map fun c=>[.int .i64 c.1,.int .i64 c.2]))(h2:SlN 2 F2 st dsl (cl.map fun c=>[.int .i64 c.1,.int .i64 c.2]))
  (m:Nat) (Y:Vi) (hn:Tm.fzL l+l.length+12 < m) (hd:d.fz < m) (hc:cl.length < m):R (m+1) Y 36 [.agg [.int .i64 p,.int .i64 g,sv,.int .i64 r,s1,s2,csl],.agg [.int .i64 p,.int .i64 g,sw,.int .i64 r,t1,t2,dsl]] st=.ret (.bool true) st:=by
 have c27:((gT m).cg Y).fn 27 [.agg [.int .i64 g,sv],.agg [.int .i64 g,sw]] st=.ret (.bool true) st:=by
  obtain⟨q,rfl⟩:∃ q,m=q+1:=⟨m - 1,by omega⟩
  exact sameLabel27_run hx hy rx ry g q Y (by omega)
 have c82:((gT m).cg Y).fn 82 [.agg [.int .i64 r,s1,s2],.agg [.int .i64 r,t1,t2]] st=.ret (.bool true) st:=same82 d m Y F st _ _ rd re hd
 have n1:=h1.len st
 have n2:=h2.len st
 have hB:=h1.2.2.1
 rw[Qu] at n1 n2 hB
 have e1:=neqI0 p
 have e2:=neqI0 (.ofNat cl.length)
 have hL:∀(fr:Fr),fr.ds=[]->fr.get 2=some (.fptr [.int .i64 p,.int .i64 g,sv,.int .i64 r,s1,s2,csl] 0)->fr.get 3=some (.fptr [.int .i64 p,.int .i64 g,sw,.int .i64 r,t1,t2,dsl] 0)->fr.get 5=some Z0->∃ FR,FR.ds=[]/\Vx (ac m Y Rp none) m fr st=.exit 0 FR st:=by
  intro fr d0 g2 g3 g5
  refine Ws (B:=ac m Y Rp none) (N:=cl.length) (Inv:=fun k fr st1=>fr.ds=[]/\fr.get 2=some (.fptr [.int .i64 p,.int .i64 g,sv,.int .i64 r,s1,s2,csl] 0)/\fr.get 3=some (.fptr [.int .i64 p,.int .i64 g,sw,.int .i64 r,t1,t2,dsl] 0)/\fr.get 5=some (ZI k)/\st1=st)
   (Out:=fun q=>∃ FR,FR.ds=[]/\q=.exit 0 FR st) ?_ cl.length 0 fr st m (by omega) (by omega) ⟨d0,g2,g3,g5,rfl⟩
  intro k fr st1 hk ⟨d0,g2,g3,g5,e1⟩
  subst e1
  have hlt:=Wt k cl.length
  by_cases hkN:k < cl.length
  ·obtain⟨t,ht,_⟩:=WR (l:=cl) (k:=k) hkN
   have hm:(cl.map fun c=>[AV.int .i64 c.1,AV.int .i64 c.2])[k]?=some [.int .i64 t.1,.int .i64 t.2]:=by rw[Q5,ht];rfl
   obtain⟨px,ix,ldx⟩:=h1.at hm
   obtain⟨py,iy,ldy⟩:=h2.at hm
   have ldx:=ldx st1 (Vs.refl _ _)
   have ldy:=ldy st1 (Vs.refl _ _)
   have eqg:=eqag2 t.1 t.2
   have had:=WC (i:=k) (by omega)
   rw[Qs hkN] at hlt
   obtain⟨J35,H35,O35_40⟩:∃ fr',ar m Y wg36_4 fr st1=.ok fr' st1/\fr'.get 40=some (.bool true):=⟨_,by simp only[amE,rQ,rA,g2,g5,wg36_4,faF,ld7_6,n1,hlt]<;>rfl,gh⟩
   have V35_2:=ag H35 g2
   have V35_3:=ag H35 g3
   have V35_5:=ag H35 g5
   obtain⟨J36,H36,K36,O36_53⟩:∃ fr',VK ((gT m).cg Y) wg36_5 [] J35 st1=.ok fr' st1/\Kp [2,3,5,40] J35 fr'/\fr'.get 53=some (.bool false):=⟨_,Wj rfl (by simp only[amE,rQ,rA,V35_2,V35_3,V35_5,wg36_5,nd_eqag,faF,ld7_6,ix,ldx,iy,ldy,eqg]<;>rfl),Kp.refl.s.s.s.s.s.s.s.s.s.s.s,gh⟩
   have V36_2:=K36.g 2 V35_2
   have V36_3:=K36.g 3 V35_3
   have V36_5:=K36.g 5 V35_5
   have W36:=K36.1.trans (ad H35 d0)
   obtain⟨J37,H37,O37_5⟩:∃ fr',ar m Y wg36_7 J36 st1=.ok fr' st1/\fr'.get 5=some (ZI ((k+1))):=⟨_,by simp only[amE,rQ,rA,V36_5,wg36_7,had]<;>rfl,gh⟩
   have hI37:ac m Y Rp none fr st1=.norm J37 st1:=by
    simp only[amE,rQ,rA,Rp,b00,b11,b22,b33,H35,H36,H37,O35_40,O36_53]
   rw[hI37]
   exact⟨hkN,(ad H37 W36),(ag H37 V36_2),(ag H37 V36_3),O37_5,rfl⟩
  ·rw[Qp hkN] at hlt
   obtain⟨J38,H38,O38_40⟩:∃ fr',ar m Y wg36_4 fr st1=.ok fr' st1/\fr'.get 40=some (.bool false):=⟨_,by simp only[amE,rQ,rA,g2,g5,wg36_4,faF,ld7_6,n1,hlt]<;>rfl,gh⟩
   have hI38:ac m Y Rp none fr st1=.exit 0 J38 st1:=by
    simp only[amE,rQ,rA,Rp,b00,b11,b22,b33,H38,O38_40]
   rw[hI38]
   exact⟨_,(ad H38 d0),rfl⟩
 obtain⟨fA39,hA39⟩:∃ fA,fA=Vo 0 [.agg [.int .i64 p,.int .i64 g,sv,.int .i64 r,s1,s2,csl],.agg [.int .i64 p,.int .i64 g,sw,.int .i64 r,t1,t2,dsl]] Fr.nil:=⟨_,rfl⟩
 have gA39_0:=gAt hA39 0
 have gA39_1:=gAt hA39 1
 have dA39:fA39.ds=[]:=by rw[hA39];rfl
 obtain⟨J40,H40,O40_2,O40_3⟩:∃ fr',ar m Y wg36_0 fA39 st=.ok fr' st/\fr'.get 2=some (.fptr [.int .i64 p,.int .i64 g,sv,.int .i64 r,s1,s2,csl] 0)/\fr'.get 3=some (.fptr [.int .i64 p,.int .i64 g,sw,.int .i64 r,t1,t2,dsl] 0):=⟨_,by simp only[amE,rQ,rA,gA39_0,gA39_1,wg36_0]<;>rfl,gn (gn gh),gn gh⟩
 obtain⟨J41,H41,O41_11⟩:∃ fr',ar m Y wg36_1_0 J40 st=.ok fr' st/\fr'.get 11=some (.bool false):=⟨_,by simp only[amE,rQ,rA,O40_2,O40_3,wg36_1_0,faF,ld7_0,e1]<;>rfl,gh⟩
 have V41_2:=ag H41 O40_2
 have V41_3:=ag H41 O40_3
 obtain⟨J42,H42,O42_19⟩:∃ fr',ar m Y wg36_1_1 J41 st=.ok fr' st/\fr'.get 19=some (.bool false):=⟨_,by simp only[amE,rQ,rA,V41_2,V41_3,O41_11,wg36_1_1,faF,ld7_1,c27,Qc,Qb,Qc,Qb]<;>rfl,gh⟩
 have V42_2:=ag H42 V41_2
 have V42_3:=ag H42 V41_3
 obtain⟨J43,H43,O43_27⟩:∃ fr',ar m Y wg36_1_2 J42 st=.ok fr' st/\fr'.get 27=some (.bool false):=⟨_,by simp only[amE,rQ,rA,V42_2,V42_3,O42_19,wg36_1_2,faF,ld7_3,c82,Qc,Qb,Qc,Qb]<;>rfl,gh⟩
 have V43_2:=ag H43 V42_2
 have V43_3:=ag H43 V42_3
 have W43:=ad H43 (ad H42 (ad H41 (ad H40 dA39)))
 obtain⟨J44,H44,O44_35⟩:∃ fr',ar m Y wg36_1_3 J43 st=.ok fr' st/\fr'.get 35=some (.bool false):=⟨_,by simp only[amE,rQ,rA,V43_2,V43_3,O43_27,wg36_1_3,faF,ld7_6,n1,n2,e2,Qc,Qb,Qc,Qb]<;>rfl,gh⟩
 have V44_3:=ag H44 V43_3
 have W44:=ad H44 W43
 have H45:ar m Y wg36_1 J40 st=.ok J44 st:=by show Vj _ (wg36_1_0++(wg36_1_1++(wg36_1_2++wg36_1_3))) _ _=_;rw[Yv H41,Yv H42,Yv H43];exact H44
 obtain⟨J46,H46,O46_5⟩:∃ fr',ar m Y wg36_3 J44 st=.ok fr' st/\fr'.get 5=some Z0:=⟨_,by simp only[amE,rQ,rA,wg36_3]<;>rfl,gh⟩
 have V46_3:=ag H46 V44_3
 have W46:=ad H46 W44
 obtain⟨FR,dF,hL⟩:=hL J46 W46 (ag H46 (ag H44 V43_2)) V46_3 O46_5
 obtain⟨J48,H48,O48_4⟩:∃ fr',ar m Y wg36_8 FR st=.ok fr' st/\fr'.get 4=some (.bool true):=⟨_,by simp only[amE,rQ,rA,wg36_8]<;>rfl,gh⟩
 have W48:=ad H48 dF
 refine Ve (mf:=wf36) (fr:=J48) t36 rfl (.inl ?q48) W48 (by simp only[wf36,Vg,Vu,V0,O48_4,Qg,Ql])
 case q48=>
  rw[<-hA39]
  simp only[amE,rQ,rA,wf36,b00,b11,b22,b33,H40,H45,H46,hL,H48,O44_35]
def wg19_0:List Vc:=[ZM 4 (ZB false)]
def wg19_1:List Vc:=[ZV 7 0,ZN 8 7,ZV 9 1,ZN 10 9,ZO 11 (.bin false .neq (.t 8) (.t 10))]
def wg19_2:List Vc:=[ZM 4 (ZB false)]
def wg19_3:List Vc:=[ZM 5 (ZC 0)]
def wg19_4:List Vc:=[ZV 12 5,ZV 13 0,ZN 14 13,ZO 15 (.bin false .lss (.t 12) (.t 14))]
def wg19_5:List (Vc × Nat):=[(ZV 18 0,0),(ZV 19 5,0),(ZP 20 7 18 19,3),(ZK 21 7 20,7),(ZV 22 1,0),(ZV 23 5,0),(ZP 24 7 22 23,48),(ZK 25 7 24,112),(ZX 26 36 [(.t 21),(.t 25)],255),(ZV 6 26,511)]
def wg19_6:List Vc:=[ZV 27 6,ZO 28 (.un .not (.t 27))]
def wg19_7:List Vc:=[ZM 4 (ZB false)]
def wg19_8:List Vc:=[ZV 16 5,ZO 17 (.bin false .add (.t 16) (ZC 1)),ZV 5 17]
def wg19_9:List Vc:=[ZM 4 (ZB true)]
def Rj:Vn:=(.seq (ZQ wg19_4 (.cond (.t 15) .skip (.exit 0))) (.seq (.block 1 (.seq (.draw wg19_5 []) (ZQ wg19_6 (.cond (.t 28) (ZR wg19_7) .skip)))) (.region wg19_8)))
def wf19:Vm:=⟨29,(ZQ wg19_0 (.seq (ZQ wg19_1 (.cond (.t 11) (ZR wg19_2) .skip)) (.seq (ZQ wg19_3 (.block 0 (.loop Rj))) (ZR wg19_9)))),[.t 4]⟩
theorem t19:tbl 19=some wf19:=by kernel_rfl
theorem sameMoves19_run{F1 F2:Nat->Prop}{st:St}{mv mw:AV}{r1 r2:List (List AV)}(h1:SlN 7 F1 st mv r1)(h2:SlN 7 F2 st mw r2)(hl:r1.length=r2.length)(m:Nat)(Y:Vi)(hn:r1.length < m)
  (hc:∀(k:Nat) (x y:List AV),r1[k]?=some x->r2[k]?=some y->R m Y 36 [.agg x,.agg y] st=.ret (.bool true) st):R (m+1) Y 19 [mv,mw] st=.ret (.bool true) st:=by
 have n1:=h1.len st
 have n2:=h2.len st
 have hB:=h1.2.2.1
 rw[<-hl] at n2
 have e1:=neqI0 (.ofNat r1.length)
 have hL:∀(fr:Fr),fr.ds=[]->fr.get 0=some mv->fr.get 1=some mw->fr.get 5=some Z0->∃ FR,FR.ds=[]/\Vx (ac m Y Rj none) m fr st=.exit 0 FR st:=by
  intro fr d0 g0 g1 g5
  refine Ws (B:=ac m Y Rj none) (N:=r1.length) (Inv:=fun k fr st1=>fr.ds=[]/\fr.get 0=some mv/\fr.get 1=some mw/\fr.get 5=some (ZI k)/\st1=st)
   (Out:=fun q=>∃ FR,FR.ds=[]/\q=.exit 0 FR st) ?_ r1.length 0 fr st m (by omega) (by omega) ⟨d0,g0,g1,g5,rfl⟩
  intro k fr st1 hk ⟨d0,g0,g1,g5,e1⟩
  subst e1
  have hlt:=Wt k r1.length
  by_cases hkN:k < r1.length
  ·have hx1:r1[k]?=some r1[k]:=Qn hkN
   have hy1:r2[k]?=some r2[k]:=Qn (by omega)
   generalize r1[k]=x at hx1
   generalize r2[k]=y at hy1
   obtain⟨px,ix,ldx⟩:=h1.at hx1
   obtain⟨py,iy,ldy⟩:=h2.at hy1
   have ldx:=ldx st1 (Vs.refl _ _)
   have ldy:=ldy st1 (Vs.refl _ _)
   have c36:((gT m).cg Y).fn 36 [.agg x,.agg y] st1=.ret (.bool true) st1:=hc k x y hx1 hy1
   have had:=WC (i:=k) (by omega)
   rw[Qs hkN] at hlt
   obtain⟨J49,H49,O49_15⟩:∃ fr',ar m Y wg19_4 fr st1=.ok fr' st1/\fr'.get 15=some (.bool true):=⟨_,by simp only[amE,rQ,rA,g0,g5,wg19_4,n1,hlt]<;>rfl,gh⟩
   have V49_0:=ag H49 g0
   have V49_1:=ag H49 g1
   have V49_5:=ag H49 g5
   have W49:=ad H49 d0
   obtain⟨J50,H50,K50,O50_6⟩:∃ fr',VK ((gT m).cg Y) wg19_5 [] J49 st1=.ok fr' st1/\Kp [0,1,5,15] J49 fr'/\fr'.get 6=some (.bool true):=⟨_,Wj rfl (by simp only[amE,rQ,rA,V49_0,V49_1,V49_5,wg19_5,ix,ldx,iy,ldy,c36]<;>rfl),Kp.refl.s.s.s.s.s.s.s.s.s.s,gh⟩
   have V50_0:=K50.g 0 V49_0
   have V50_1:=K50.g 1 V49_1
   have V50_5:=K50.g 5 V49_5
   have W50:=K50.1.trans W49
   obtain⟨J51,H51,O51_28⟩:∃ fr',ar m Y wg19_6 J50 st1=.ok fr' st1/\fr'.get 28=some (.bool false):=⟨_,by simp only[amE,rQ,rA,O50_6,wg19_6,Qc,Qc,Qb]<;>rfl,gh⟩
   have V51_0:=ag H51 V50_0
   have V51_5:=ag H51 V50_5
   have W51:=ad H51 W50
   obtain⟨J52,H52,O52_5⟩:∃ fr',ar m Y wg19_8 J51 st1=.ok fr' st1/\fr'.get 5=some (ZI ((k+1))):=⟨_,by simp only[amE,rQ,rA,V51_5,wg19_8,had]<;>rfl,gh⟩
   have V52_0:=ag H52 V51_0
   have W52:=ad H52 W51
   have hI52:ac m Y Rj none fr st1=.norm J52 st1:=by
    simp only[amE,rQ,rA,Rj,b00,b11,b22,b33,H49,H50,H51,H52,O49_15,O51_28]
   rw[hI52]
   exact⟨hkN,W52,V52_0,(ag H52 (ag H51 V50_1)),O52_5,rfl⟩
  ·rw[Qp hkN] at hlt
   obtain⟨J53,H53,O53_15⟩:∃ fr',ar m Y wg19_4 fr st1=.ok fr' st1/\fr'.get 15=some (.bool false):=⟨_,by simp only[amE,rQ,rA,g0,g5,wg19_4,n1,hlt]<;>rfl,gh⟩
   have W53:=ad H53 d0
   have hI53:ac m Y Rj none fr st1=.exit 0 J53 st1:=by
    simp only[amE,rQ,rA,Rj,b00,b11,b22,b33,H53,O53_15]
   rw[hI53]
   exact⟨_,W53,rfl⟩
 obtain⟨fA54,hA54⟩:∃ fA,fA=Vo 0 [mv,mw] Fr.nil:=⟨_,rfl⟩
 have gA54_0:=gAt hA54 0
 have gA54_1:=gAt hA54 1
 have dA54:fA54.ds=[]:=by rw[hA54];rfl
 obtain⟨J55,H55⟩:∃ fr',ar m Y wg19_0 fA54 st=.ok fr' st:=⟨_,by simp only[amE,rQ,rA,wg19_0]<;>rfl⟩
 have V55_0:=ag H55 gA54_0
 have V55_1:=ag H55 gA54_1
 have W55:=ad H55 dA54
 obtain⟨J56,H56,O56_11⟩:∃ fr',ar m Y wg19_1 J55 st=.ok fr' st/\fr'.get 11=some (.bool false):=⟨_,by simp only[amE,rQ,rA,V55_0,V55_1,wg19_1,n1,n2,e1]<;>rfl,gh⟩
 obtain⟨J57,H57,O57_5⟩:∃ fr',ar m Y wg19_3 J56 st=.ok fr' st/\fr'.get 5=some Z0:=⟨_,by simp only[amE,rQ,rA,wg19_3]<;>rfl,gh⟩
 have V57_1:=ag H57 (ag H56 V55_1)
 have W57:=ad H57 (ad H56 W55)
 obtain⟨FR,dF,hL⟩:=hL J57 W57 (ag H57 (ag H56 V55_0)) V57_1 O57_5
 obtain⟨J59,H59,O59_4⟩:∃ fr',ar m Y wg19_9 FR st=.ok fr' st/\fr'.get 4=some (.bool true):=⟨_,by simp only[amE,rQ,rA,wg19_9]<;>rfl,gh⟩
 have W59:=ad H59 dF
 refine Ve (mf:=wf19) (fr:=J59) t19 rfl (.inl ?q59) W59 (by simp only[wf19,Vg,Vu,V0,O59_4,Qg,Ql])
 case q59=>
  rw[<-hA54]
  simp only[amE,rQ,rA,wf19,b00,b11,b22,b33,H55,H56,H57,hL,H59,O56_11]
end
end Go.AM.D32
