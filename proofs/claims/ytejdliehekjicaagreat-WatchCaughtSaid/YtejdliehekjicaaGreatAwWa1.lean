import Derived.Test.YtejdliehekjicaaGreatAwSh11
set_option maxRecDepth 100000
set_option linter.unusedSimpArgs false
namespace Go.AM.D32
open Go Go.AM
noncomputable section
open Nat renaming reduceEqDiff -> rQ, reduceAdd -> rA
def Ir(lo:Nat)(s:St)(sl:AV)(l:List Int):Prop:=(sl=.lst 0 [] true/\l=[])\/∃ id,sl=.own id 0 l.length 1 none l.length/\lo<=id/\id < s.next/\s.get id=some (.row (l.map (AV.int .i64)))
theorem Ir.len{lo:Nat}{s:St}{sl:AV}{l:List Int}(h:Ir lo s sl l)(s':St):(bif VD 0 sl then Wm s' sl else none)=some (ZI l.length):=by
 rcases h with⟨rfl,rfl⟩|⟨id,rfl,_⟩<;>rfl
theorem Ir.at{lo:Nat}{s:St}{sl:AV}{l:List Int}(h:Ir lo s sl l){k:Nat}{x:Int}(hx:l[k]?=some x):∃ p,VC 1 sl (ZI k)=some p/\Vf false 1 s p=some (.int .i64 x):=by
 have hk:=(Qt.1 hx).1
 rcases h with⟨_,rfl⟩|⟨id,rfl,_,_,hg⟩
 ·simp at hk
 ·refine⟨.ptr id (0+k*1),?_,?_⟩
  ·simp only[VC]
   rw[Qo (show k+1<=l.length from hk)];rfl
  ·simp only[Vf,Wy,hg,Qg,Q7,XP]
   have:((l.map (AV.int .i64)).drop k).take 1=[.int .i64 x]:=by
    rw[XO (by simpa using hk)]
    simp only[Xf,Xe,List.getElem_map]
    have:=(Qt.1 hx).2
    rw[this]
   rw[this];rfl
theorem Ir.app{lo:Nat}{s:St}{sl:AV}{l:List Int}(h:Ir lo s sl l)(x:Int)(fw:lo<=s.next)(hb:l.length<=100000):
  ∃ bI s',VX 8 1 s sl 1 [.int .i64 x]=some (bI,s')/\s.next<=s'.next/\(∀ i,i < lo->s'.get i=s.get i)/\Ir lo s' bI (l++[x]):=by
 rcases h with⟨rfl,rfl⟩|⟨id,rfl,aZ,qh,hg⟩
 ·exact⟨.own s.next 0 (0+1) 1 none (0+1),s.new (.row [.int .i64 x]),rfl,by simp,fun i hi=>by rw[St.get_new,Qe (by omega)],.inr ⟨s.next,rfl,fw,by simp,by rw[St.get_new,Qm rfl];rfl⟩⟩
 ·refine⟨.own s.next 0 (l.length+1) 1 none (l.length+1),(s.del id).new (.row (l.map (AV.int .i64)++[.int .i64 x])),?_,by simp[St.del,St.new],fun i hi=>?_,.inr ⟨s.next,by simp,fw,by simp[St.del,St.new],?_⟩⟩
  ·have h0:Nat.beq 1 0=false:=rfl
   have h1:((l.length+1)*8).ble 140737488355328=true:=Qo (by omega)
   have h2:(l.length+1).ble 140737488355328=true:=Qo (by omega)
   have h3:(0+l.length*1).ble (l.map (AV.int .i64)).length=true:=Qo (by simp)
   have h4:KY (l.length+1) l.length none=none:=by
    have:(l.length+1).ble l.length=false:=by
     cases hc:(l.length+1).ble l.length with
     | false=>rfl
     | true=>have:=Qk hc;omega
    simp only[KY,this];rfl
   have h5:(l.length*1).beq (l.map (AV.int .i64)).length=true:=by rw[Qu,XP];exact QD _
   have h6:[AV.int .i64 x].all AV.one=true:=rfl
   unfold VX
   simp only[h0,Qq,hg,h1,h2,h3,h4,h5,h6];rfl
  ·rw[St.get_new,Qe (by simp only[St.next_del];omega),St.get_del,Qe (by omega)]
  ·have:(s.del id).next=s.next:=rfl
   rw[<-this,St.get_new,Qm rfl];simp
def g215_0:List Vc:=[ZV 12 0,ZV 13 5,ZP 14 1 12 13,ZL 15 14,ZV 16 1,ZO 17 (.bin false .eql (.t 15) (.t 16))]
def UV:Vn:=(ZQ g215_0
 (.cond (.t 17)
 (ZR [ZM 4 (ZB true)])
 .skip))
def cf215_0:List Vc:=[ZV 6 5,ZV 7 0,ZN 8 7,ZO 9 (.bin false .lss (.t 6) (.t 8))]
def kf215:Vm:=⟨18,(ZQ [ZM 4 (ZB false)]
 (.seq (ZQ [ZM 5 (ZC 0)]
 (.block 0 (.loop (lb2 9 5 10 11 0 1 cf215_0 UV))))
 (ZR [ZM 4 (ZB false)]))),[.t 4]⟩
theorem t267:Ry 267=some kf215:=by kernel_rfl
def g168_0:List Vc:=[ZA 26 2 2,ZL 27 26,ZV 28 5,ZP 29 3 27 28,ZK 30 3 29,ZV 31 1,ZX 32 213 [(.t 30),(.t 31)],ZV 1 32]
def g168_2:List Vc:=[ZA 6 0 2,ZL 7 6,ZO 8 (.bin false .eql (.t 7) (ZC 1))]
def g168_3:List Vc:=[ZV 9 1,ZA 10 1 2,ZL 11 10,ZX 12 267 [(.t 9),(.t 11)]]
def g168_5:List Vc:=[ZV 14 1,ZA 15 1 2,ZL 16 15,ZO 17 (.bslice 1 [Z0] [(0,1,(.t 16))]),ZO 18 (.append 8 1 none (.t 14) (.t 17)),ZV 4 18]
def bf168_0:Vn:=(.region g168_0)
def cf168_0:List Vc:=[ZV 19 5,ZA 20 2 2,ZL 21 20,ZN 22 21,ZO 23 (.bin false .lss (.t 19) (.t 22))]
def Uw:Vm:=⟨34,(ZQ [ZO 2 (.box true (.t 0)),ZM 4 (.c .nilsl)]
 (.seq (ZQ g168_2
 (.cond (.t 8)
 (.seq (ZQ g168_3
 (.cond (.t 12)
 (ZR [ZV 13 1,ZV 4 13])
 .skip))
 (ZR g168_5))
 .skip))
 (.seq (ZQ [ZM 5 (ZC 0)]
 (.block 0 (.loop (lb2 23 5 24 25 0 1 cf168_0 bf168_0))))
 (ZR [ZV 33 1,ZV 4 33])))),[.t 4]⟩
theorem t213:Ry 213=some Uw:=by kernel_rfl
def g167_0:List Vc:=[ZV 10 0,ZV 11 3,ZP 12 3 10 11,ZK 13 3 12,ZX 14 154 [(.t 13)],ZO 15 (.un .not (.t 14))]
def US:Vn:=(ZQ g167_0
 (.cond (.t 15)
 (ZR [ZM 2 (ZB false)])
 .skip))
def cf167_0:List Vc:=[ZV 4 3,ZV 5 0,ZN 6 5,ZO 7 (.bin false .lss (.t 4) (.t 6))]
def kf167:Vm:=⟨16,(ZQ [ZM 2 (ZB false)]
 (.seq (ZQ [ZM 3 (ZC 0)]
 (.block 0 (.loop (lb2 7 3 8 9 0 1 cf167_0 US))))
 (ZR [ZM 2 (ZB true)]))),[.t 2]⟩
theorem t212:Ry 212=some kf167:=by kernel_rfl
def g141_0:List Vc:=[ZV 16 0,ZV 17 4,ZP 18 3 16 17,ZK 19 3 18,ZV 20 3,ZX 21 213 [(.t 19),(.t 20)],ZV 3 21]
def g141_3:List Vc:=[ZV 6 0,ZX 7 212 [(.t 6)],ZO 8 (.un .not (.t 7))]
def bf141_0:Vn:=(.region g141_0)
def cf141_0:List Vc:=[ZV 10 4,ZV 11 0,ZN 12 11,ZO 13 (.bin false .lss (.t 10) (.t 12))]
def kf141:Vm:=⟨23,(ZQ [ZM 2 (.c .nilsl)]
 (ZQ [ZO 5 (.bslice 0 [] []),ZV 3 5]
 (.seq (ZQ g141_3
 (.cond (.t 8)
 (ZR [ZV 9 3,ZV 2 9])
 .skip))
 (.seq (ZQ [ZM 4 (ZC 0)]
 (.block 0 (.loop (lb2 13 4 14 15 0 1 cf141_0 bf141_0))))
 (ZR [ZV 22 3,ZV 2 22]))))),[.t 2]⟩
theorem t155:Ry 155=some kf141:=by kernel_rfl
def g116_1:List Vc:=[ZK 3 3 1,ZX 4 154 [(.t 3)],ZV 5 4,ZG 6 (.load true 3 (.t 1)) 5 true,ZG 7 (.bslice 1 [Z0,Z0,.nilsl] [(0,3,(.t 6))]) 5 true,ZG 8 (.call (.c (.func (.func 155) [] [])) [(.t 7)]) 5 true,ZG 9 (.len 0 (.t 8)) 5 true,ZG 10 (.bin false .eql (.t 9) (ZC 0)) 5 true,ZO 11 (.pick (.t 5) (.t 10) (ZB false)),ZV 2 11]
def kf116:Vm:=⟨12,(ZQ [ZO 1 (.box true (.t 0)),ZM 2 (ZB false)]
 (ZR g116_1)),[.t 2]⟩
theorem t105:Ry 105=some kf116:=by kernel_rfl
theorem in_run{lo:Nat}{st:St}{sl:AV}{l:List Int}(h:Ir lo st sl l)(x:Int)(n:Nat)(Y:Vi)(hn:l.length+1 < n)(hb:l.length<=100000):R n Y 267 [sl,.int .i64 x] st=.ret (.bool (decide (x∈l))) st:=by
 obtain⟨m,rfl⟩:∃ m,n=m+1:=⟨n - 1,by omega⟩
 have Rx:Nat.beq 0 0=true:=rfl
 have al:=h.len st
 obtain⟨fA1,au⟩:∃ fA,fA=Vo 0 [sl,.int .i64 x] Fr.nil:=⟨_,rfl⟩
 have gA1_0:=R9 au 0
 have gA1_1:=R9 au 1
 have dA1:fA1.ds=[]:=by rw[au];rfl
 obtain⟨J2,H2,O2_4⟩:∃ aa,ar m Y [ZM 4 (ZB false)] fA1 st=.ok aa st/\aa.get 4=some (.bool false):=⟨_,by simp only[Rw,rQ,rA]<;>rfl,gh⟩
 obtain⟨J3,H3,O3_5⟩:∃ aa,ar m Y [ZM 5 (ZC 0)] J2 st=.ok aa st/\aa.get 5=some Z0:=⟨_,by simp only[Rw,rQ,rA]<;>rfl,gh⟩
 have V3_0:=ag H3 (ag H2 gA1_0)
 have W3:=ad H3 (ad H2 dA1)
 have hC:∀ k fr s,k<=l.length->Kp [0,1] J3 fr->fr.get 5=some (ZI k)->(s=st/\x∉l.take k) ->
   ∃ aa,ar m Y cf215_0 fr s=.ok aa s/\Kp [5,0,1] fr aa/\aa.get 9=some (.bool (decide (k < l.length)))/\(s=st/\x∉l.take k):=by
  intro k fr s hk aI gi ⟨ax,hq⟩
  subst ax
  have q4:=aI.at (k:=0) (by decide) V3_0
  refine⟨?c0,?c1,?c2,?c3,rfl,hq⟩
  case c1=>
   simp only[Rw,rQ,rA,cf215_0,q4,gi,al,lssD]
   rfl
  case c2=>repeat (first | exact Kp.refl | refine Kp.set (by decide) ?_)
  case c3=>simp only[Fr.get_set,rQ,↓reduceIte]
 have hB:∀ k fr s,k < l.length->Kp [0,1] J3 fr->fr.get 5=some (ZI k)->(s=st/\x∉l.take k) ->
   (∃ FR s',ac m Y UV none fr s=.norm FR s'/\Kp [5,0,1] fr FR/\(s'=st/\x∉l.take (k+1))) ∨
   (∃ FR s',ac m Y UV none fr s=.ret FR s'/\(s'=st/\FR.ds=[]/\FR.get 4=some (.bool true)/\x∈l)):=by
  intro k fr s hk aI gi ⟨ax,hq⟩
  subst ax
  obtain⟨y,hy,-⟩:=WR hk
  obtain⟨p,ia,ld⟩:=h.at hy
  have q4:=aI.at (k:=0) (by decide) V3_0
  have q1:=aI.at (k:=1) (by decide) (ag H3 (ag H2 gA1_1))
  have eq:Vr false .eql (.int .i64 y) (.int .i64 x)=some (.bool (y==x)):=rfl
  have nu:l.take (k+1)=l.take k++[y]:=by rw[QT,hy];rfl
  generalize hE:(y==x)=E at *
  obtain⟨J5,H5,K5,O5_17⟩:∃ aa,ar m Y g215_0 fr s=.ok aa s/\Kp [0,1,5] fr aa/\aa.get 17=some (.bool E):=⟨_,by simp only[Rw,rQ,rA,q4,q1,gi,g215_0,ia,ld,eq]<;>rfl,Kp.refl.s.s.s.s.s.s,gh⟩
  cases E with
  | false=>
   refine .inl ⟨J5,s,?q5,K5.sub (by decide),rfl,?r4⟩
   case q5=>simp only[Rw,rQ,rA,UV,H5,O5_17]
   case r4=>
    have:y≠x:=by simpa using hE
    rw[nu];simp only[QV,Xd,Z8];exact⟨hq,fun e=>this e.symm⟩
  | true=>
   obtain⟨J6,H6,O6_4⟩:∃ aa,ar m Y [ZM 4 (ZB true)] J5 s=.ok aa s/\aa.get 4=some (.bool true):=⟨_,by simp only[Rw,rQ,rA]<;>rfl,gh⟩
   refine .inr ⟨J6,s,?q6,rfl,ad H6 (K5.1.trans (aI.1.trans W3)),O6_4,?z5⟩
   case q6=>simp only[Rw,rQ,rA,UV,H5,H6,O5_17]
   case z5=>
    have:y=x:=by simpa using hE
    rw[<-this];exact Qr hy
 rcases U4 (Γ:=(gT m)) (Y:=Y) (m:=m) (N:=l.length) (c:=9) (i:=5) (j1:=10) (j2:=11) (b:=0) (b1:=1) (ro:=none) (C:=cf215_0) (B:=UV) (L:=[0,1]) (av:=J3) (by decide) (by decide) (by decide) (by omega)
  (Q:=fun k _ s=>s=st/\x∉l.take k) (fun _ _ _ _ _ _ h=>h) hC hB l.length 0 J3 st m (by omega) (by omega) Kp.refl O3_5 ⟨rfl,by simp⟩
  with⟨FR,s',h1,h2,h3,h4⟩|⟨FR,s',h1,h2,h3,h4,h5⟩
 ·subst h3
  rw[QH] at h4
  rw[Qp h4]
  refine Ve (mf:=kf215) (fr:=FR.set 4 (some (.bool false))) t267 rfl (.inl ?w1) (h2.1.trans W3) ?w2
  case w1=>
   rw[<-au]
   simp only[Rw,rQ,rA,kf215,Rx,H2,H3,h1]
  case w2=>simp only[kf215,Vg,Vu,V0,Fr.get_set,↓reduceIte,Qg,Ql]
 ·subst h2
  rw[Qs h5]
  refine Ve (mf:=kf215) (fr:=FR) t267 rfl (.inl ?w3) h3 (by simp only[kf215,Vg,Vu,V0,h4,Qg,Ql])
  case w3=>
   rw[<-au]
   simp only[Rw,rQ,rA,kf215,Rx,H2,H3,h1]
mutual
theorem vT_len:∀(t:Tm) (o:List Int),(vT t o).length<=o.length+t.size
 | .mk k n _ _ l,o=>by
  unfold vT Tm.size
  split
  ·split
   ·omega
   ·simp
  ·have:=vL_len l o;omega
theorem vL_len:∀(l:List Tm) (o:List Int),(vL l o).length<=o.length+Tm.sizeL l
 | [],o=>by rw[vL_nil];omega
 | t::l,o=>by
  rw[Tf]
  have h1:=vT_len t o
  have h2:=vL_len l (vT t o)
  unfold Tm.sizeL;omega
end
theorem vL_take:∀(l:List Tm) (k:Nat) (t:Tm) (o:List Int),l[k]?=some t->vL (l.take (k+1)) o=vT t (vL (l.take k) o)
 | [],k,t,o,h=>by simp at h
 | x::l,0,t,o,h=>by
  simp only[Q0,Qa] at h;subst h
  simp only[Xf,Xe,Tf,vL_nil]
 | x::l,k+1,t,o,h=>by
  simp only[QE] at h
  simp only[Xf,Tf]
  exact vL_take l k t _ h
theorem sizeL_take:∀(l:List Tm) (k:Nat) (t:Tm),l[k]?=some t->Tm.sizeL (l.take k)+t.size<=Tm.sizeL l
 | [],k,t,h=>by simp at h
 | x::l,0,t,h=>by
  simp only[Q0,Qa] at h;subst h
  simp only[Xe,Tm.sizeL];omega
 | x::l,k+1,t,h=>by
  simp only[QE] at h
  have:=sizeL_take l k t h
  simp only[Xf,Tm.sizeL];omega
def VarsR(n:Nat)(Y:Vi)(t:Tm):Prop:=∀(F:Nat->Prop) (lo:Nat) (st:St) (cs:List AV) (sl:AV) (o:List Int),We F st t cs->(∀ i,F i->i < lo)->lo<=st.next->Ir lo st sl o->o.length+t.size<=50000->o.length+t.size+2 < n->t.fz<=n ->
 ∃ bI af,R n Y 213 [.agg cs,sl] st=.ret bI af/\st.next<=af.next/\(∀ i,i < lo->af.get i=st.get i)/\Ir lo af bI (vT t o)
theorem vars_run(t:Tm):∀(n:Nat) (Y:Vi),VarsR n Y t:=by
 induction hs:t.fz using Nat.strongRecOn generalizing t with
 | _ s ih=>
 intro n Y F lo st cs sl o hr hF fw mg hb hn cq
 cases t with
 | mk k0 n0 nl ex l=>
 simp only[We] at hr
 obtain⟨sk,xs,rfl,aD,bg⟩:=hr
 simp only[Tm.fz] at hs
 simp only[Tm.size] at hb hn
 simp only[Tm.fz] at cq
 obtain⟨m,rfl⟩:∃ m,n=m+1:=⟨n - 1,by omega⟩
 have Rx:Nat.beq 0 0=true:=rfl
 have bJ:=bg.len
 have e1:Vr false .eql (.int .i64 k0) (ZI 1)=some (.bool (k0==1)):=rfl
 have cin:((gT m).cg Y).fn 267 [sl,.int .i64 n0] st=.ret (.bool (decide (n0∈o))) st:=in_run mg n0 m Y (by omega) (by omega)
 have hv:vT (.mk k0 n0 nl ex l) o=if k0=1 then (if n0∈o then o else o++[n0]) else vL l o:=by conv=>lhs;unfold vT
 rw[hv]
 generalize hB:(k0==1)=B at *
 obtain⟨fA1,au⟩:∃ fA,fA=Vo 0 [.agg [.int .i64 k0,.int .i64 n0,sk],sl] Fr.nil:=⟨_,rfl⟩
 have gA1_0:=R9 au 0
 have gA1_1:=R9 au 1
 have dA1:fA1.ds=[]:=by rw[au];rfl
 obtain⟨J2,H2,O2_2,O2_4⟩:∃ aa,ar m Y [ZO 2 (.box true (.t 0)),ZM 4 (.c .nilsl)] fA1 st=.ok aa st/\aa.get 2=some (.fptr [.int .i64 k0,.int .i64 n0,sk] 0)/\aa.get 4=some (.nilsl):=⟨_,by simp only[Rw,rQ,rA,gA1_0]<;>rfl,gn gh,gh⟩
 obtain⟨J3,H3,O3_8⟩:∃ aa,ar m Y g168_2 J2 st=.ok aa st/\aa.get 8=some (.bool B):=⟨_,by simp only[Rw,rQ,rA,O2_2,g168_2,RP,Y7,e1]<;>rfl,gh⟩
 have V3_1:=ag H3 (ag H2 gA1_1)
 have V3_2:=ag H3 O2_2
 have W3:=ad H3 (ad H2 dA1)
 cases B with
 | true=>
  rw[Qm (by simpa using hB)]
  generalize hI:decide (n0∈o)=I at *
  obtain⟨J4,H4,O4_12⟩:∃ aa,ar m Y g168_3 J3 st=.ok aa st/\aa.get 12=some (.bool I):=⟨_,by simp only[Rw,rQ,rA,V3_1,V3_2,g168_3,RP,Yg,cin]<;>rfl,gh⟩
  have V4_1:=ag H4 V3_1
  have W4:=ad H4 W3
  cases I with
  | true=>
   obtain⟨J5,H5,O5_4⟩:∃ aa,ar m Y [ZV 13 1,ZV 4 13] J4 st=.ok aa st/\aa.get 4=some (sl):=⟨_,by simp only[Rw,rQ,rA,V4_1]<;>rfl,gh⟩
   refine⟨sl,st,Ve (mf:=Uw) (fr:=J5) t213 rfl (.inl ?q5) (ad H5 W4) (by simp only[Uw,Vg,Vu,V0,O5_4,Qg,Ql]),Qw _,fun _ _=>rfl,by rw[Qm (ZD hI)];exact mg⟩
   case q5=>
    rw[<-au]
    simp only[Rw,rQ,rA,Uw,Rx,H2,H3,H4,H5,O3_8,O4_12]
  | false=>
   obtain⟨bI,af,cM,fT,jS,nw⟩:=mg.app n0 fw (by omega)
   have fl:VN [ZI 0] [(0,1,.int .i64 n0)]=some [.int .i64 n0]:=rfl
   have ct:Wd 1 st (.lst 1 [.int .i64 n0] true)=some (1,[.int .i64 n0]):=rfl
   obtain⟨J6,H6,O6_4⟩:∃ aa,ar m Y g168_5 J4 st=.ok aa af/\aa.get 4=some (bI):=⟨_,by simp only[Rw,rQ,rA,V4_1,(ag H4 V3_2),g168_5,RP,Yg,fl,ct,cM,tag0]<;>rfl,gh⟩
   refine⟨bI,af,Ve (mf:=Uw) (fr:=J6) t213 rfl (.inl ?q6) (ad H6 W4) (by simp only[Uw,Vg,Vu,V0,O6_4,Qg,Ql]),fT,jS,by rw[Qe (of_decide_eq_false hI)];exact nw⟩
   case q6=>
    rw[<-au]
    simp only[Rw,rQ,rA,Uw,Rx,H2,H3,H4,H6,O3_8,O4_12]
 | false=>
  rw[Qe (by simpa using hB)]
  obtain⟨J7,H7,O7_5⟩:∃ aa,ar m Y [ZM 5 (ZC 0)] J3 st=.ok aa st/\aa.get 5=some Z0:=⟨_,by simp only[Rw,rQ,rA]<;>rfl,gh⟩
  have V7_2:=ag H7 V3_2
  have hC:∀ k fr s,k<=xs.length->Kp [2] J7 fr->fr.get 5=some (ZI k)->(st.next<=s.next/\(∀ i,i < lo->s.get i=st.get i)/\∃ sk,fr.get 1=some sk/\Ir lo s sk (vL (l.take k) o)) ->
    ∃ aa,ar m Y cf168_0 fr s=.ok aa s/\Kp [5,2] fr aa/\aa.get 23=some (.bool (decide (k < xs.length)))/\(st.next<=s.next/\(∀ i,i < lo->s.get i=st.get i)/\∃ sk,aa.get 1=some sk/\Ir lo s sk (vL (l.take k) o)):=by
   intro k fr s hk aI gi ⟨fT,jS,sq,q8,hq⟩
   have q9:=aI.at (k:=2) (by decide) V7_2
   have al:=aD.len s
   refine⟨?c0,?c1,?c2,?c3,fT,jS,sq,?c4,hq⟩
   case c1=>
    simp only[Rw,rQ,rA,cf168_0,q9,gi,RP,WB,al,lssD]
    rfl
   case c2=>repeat (first | exact Kp.refl | refine Kp.set (by decide) ?_)
   case c3=>simp only[Fr.get_set,rQ,↓reduceIte]
   case c4=>simp only[Fr.get_set,rQ,↓reduceIte,q8]
  have hB:∀ k fr s,k < xs.length->Kp [2] J7 fr->fr.get 5=some (ZI k)->(st.next<=s.next/\(∀ i,i < lo->s.get i=st.get i)/\∃ sk,fr.get 1=some sk/\Ir lo s sk (vL (l.take k) o)) ->
    (∃ FR s',ac m Y bf168_0 none fr s=.norm FR s'/\Kp [5,2] fr FR/\(st.next<=s'.next/\(∀ i,i < lo->s'.get i=st.get i)/\∃ sk,FR.get 1=some sk/\Ir lo s' sk (vL (l.take (k+1)) o))) ∨
    (∃ FR s',ac m Y bf168_0 none fr s=.ret FR s'/\False):=by
   intro k fr s hk aI gi ⟨fT,jS,sq,q8,hq⟩
   obtain⟨t,ht,bH⟩:=WR (l:=l) (k:=k) (by omega)
   obtain⟨x,hx,bZ⟩:=bg.at ht
   obtain⟨p,ia,ld⟩:=aD.at hx
   have aO:Vs F st s:=fun i hi=>jS i (hF i hi)
   have ld:=ld s aO
   have bv:=Tm.fzL_mem (Qr ht)
   have cI:=sizeL_take l k t ht
   have dq:=vL_len (l.take k) o
   obtain⟨s1,s',ay,zf,tY,nw⟩:=ih t.fz (by omega) t rfl m Y F lo s x sq (vL (l.take k) o) (bZ.mono aO fun _ h=>h) hF (by omega) hq (by omega) (by omega) (by omega)
   have aC:((gT m).cg Y).fn 213 [.agg x,sq] s=.ret s1 s':=ay
   have q9:=aI.at (k:=2) (by decide) V7_2
   obtain⟨J10,H10,K10,O10_1⟩:∃ aa,ar m Y g168_0 fr s=.ok aa s'/\Kp [2,5] fr aa/\aa.get 1=some (s1):=⟨_,by simp only[Rw,rQ,rA,q8,q9,gi,g168_0,RP,WB,ia,ld,aC]<;>rfl,Kp.refl.s.s.s.s.s.s.s.s,gh⟩
   refine .inl ⟨J10,s',?q10,K10.sub (by decide),by omega,fun i hi=>(tY i hi).trans (jS i hi),s1,O10_1,by rw[vL_take l k t o ht];exact nw⟩
   case q10=>simp only[Rw,rQ,rA,bf168_0,H10]
  rcases U4 (Γ:=(gT m)) (Y:=Y) (m:=m) (N:=xs.length) (c:=23) (i:=5) (j1:=24) (j2:=25) (b:=0) (b1:=1) (ro:=none) (C:=cf168_0) (B:=bf168_0) (L:=[2]) (av:=J7) (by decide) (by decide) (by decide) aD.2.1
   (Q:=fun k fr s=>st.next<=s.next/\(∀ i,i < lo->s.get i=st.get i)/\∃ sk,fr.get 1=some sk/\Ir lo s sk (vL (l.take k) o)) (fun k fr s x v hx ⟨h1,h2,sk,h3,h4⟩=>⟨h1,h2,sk,by rw[Fr.get_set,Qe (by omega)];exact h3,h4⟩) hC hB xs.length 0 J7 st m (by omega) (by omega) Kp.refl O7_5 ⟨Qw _,fun _ _=>rfl,sl,(ag H7 V3_1),by simpa only [Xe,vL_nil] using mg⟩
   with⟨FR,s',h1,h2,h3,h4,tZ,h5,h6⟩|⟨FR,s',h1,h2⟩
  ·rw[bJ,QH] at h6
   refine⟨tZ,s',Ve (mf:=Uw) (fr:=(FR.set 33 (some tZ)).set 4 (some tZ)) t213 rfl (.inl ?w1) (h2.1.trans (ad H7 W3)) ?w2,h3,h4,h6⟩
   case w1=>
    rw[<-au]
    simp only[Rw,rQ,rA,Uw,Rx,H2,H3,H7,O3_8,h1,h5]
   case w2=>simp only[Uw,Vg,Vu,V0,Fr.get_set,↓reduceIte,Qg,Ql]
  ·exact absurd h2 id
theorem all_run(l:List Tm)(n:Nat)(Y:Vi)(F:Nat->Prop)(st:St)(sl:AV)(xs:List (List AV))(aD:RL F st sl xs)(bg:Vy F st l xs)(hn:Tm.fzL l+l.length+2 < n):R n Y 212 [sl] st=.ret (.bool (l.all rIs)) st:=by
 obtain⟨m,rfl⟩:∃ m,n=m+1:=⟨n - 1,by omega⟩
 have Rx:Nat.beq 0 0=true:=rfl
 have bJ:=bg.len
 have al:=aD.len st
 obtain⟨fA1,au⟩:∃ fA,fA=Vo 0 [sl] Fr.nil:=⟨_,rfl⟩
 have gA1_0:=R9 au 0
 have dA1:fA1.ds=[]:=by rw[au];rfl
 obtain⟨J2,H2,O2_2⟩:∃ aa,ar m Y [ZM 2 (ZB false)] fA1 st=.ok aa st/\aa.get 2=some (.bool false):=⟨_,by simp only[Rw,rQ,rA]<;>rfl,gh⟩
 have W2:=ad H2 dA1
 obtain⟨J3,H3,O3_3⟩:∃ aa,ar m Y [ZM 3 (ZC 0)] J2 st=.ok aa st/\aa.get 3=some Z0:=⟨_,by simp only[Rw,rQ,rA]<;>rfl,gh⟩
 have V3_0:=ag H3 (ag H2 gA1_0)
 have W3:=ad H3 W2
 have hC:∀ k fr s,k<=xs.length->Kp [0] J3 fr->fr.get 3=some (ZI k)->(s=st/\(l.drop k).all rIs=l.all rIs) ->
   ∃ aa,ar m Y cf167_0 fr s=.ok aa s/\Kp [3,0] fr aa/\aa.get 7=some (.bool (decide (k < xs.length)))/\(s=st/\(l.drop k).all rIs=l.all rIs):=by
  intro k fr s hk aI gi ⟨ax,hq⟩
  subst ax
  have q4:=aI.at (k:=0) (by decide) V3_0
  refine⟨?c0,?c1,?c2,?c3,rfl,hq⟩
  case c1=>
   simp only[Rw,rQ,rA,cf167_0,q4,gi,al,lssD]
   rfl
  case c2=>repeat (first | exact Kp.refl | refine Kp.set (by decide) ?_)
  case c3=>simp only[Fr.get_set,rQ,↓reduceIte]
 have hB:∀ k fr s,k < xs.length->Kp [0] J3 fr->fr.get 3=some (ZI k)->(s=st/\(l.drop k).all rIs=l.all rIs) ->
   (∃ FR s',ac m Y US none fr s=.norm FR s'/\Kp [3,0] fr FR/\(s'=st/\(l.drop (k+1)).all rIs=l.all rIs)) ∨
   (∃ FR s',ac m Y US none fr s=.ret FR s'/\(s'=st/\FR.ds=[]/\FR.get 2=some (.bool false)/\l.all rIs=false)):=by
  intro k fr s hk aI gi ⟨ax,hq⟩
  subst ax
  obtain⟨t,ht,bH⟩:=WR (l:=l) (k:=k) (by omega)
  obtain⟨x,hx,bZ⟩:=bg.at ht
  obtain⟨p,ia,ld⟩:=aD.at hx
  have ld:=ld s (Vs.refl _ _)
  have bv:=Tm.fzL_mem (Qr ht)
  have ay:((gT m).cg Y).fn 154 [.agg x] s=.ret (.bool (rIs t)) s:=is_run t m Y F s x bZ (by omega)
  have q4:=aI.at (k:=0) (by decide) V3_0
  rw[bH,QN] at hq
  generalize rIs t=ok at *
  obtain⟨J5,H5,K5,O5_15⟩:∃ aa,ar m Y g167_0 fr s=.ok aa s/\Kp [0,3] fr aa/\aa.get 15=some (.bool (!ok)):=⟨_,by simp only[Rw,rQ,rA,q4,gi,g167_0,ia,ld,ay,unN,Qc,Qb]<;>rfl,Kp.refl.s.s.s.s.s.s,gh⟩
  cases ok with
  | true=>
   refine .inl ⟨J5,s,?q5,K5.sub (by decide),rfl,by simpa using hq⟩
   case q5=>simp only[Rw,rQ,rA,US,H5,O5_15,Qc]
  | false=>
   obtain⟨J6,H6,O6_2⟩:∃ aa,ar m Y [ZM 2 (ZB false)] J5 s=.ok aa s/\aa.get 2=some (.bool false):=⟨_,by simp only[Rw,rQ,rA]<;>rfl,gh⟩
   refine .inr ⟨J6,s,?q6,rfl,ad H6 (K5.1.trans (aI.1.trans W3)),O6_2,by rw[<-hq];rfl⟩
   case q6=>simp only[Rw,rQ,rA,US,H5,H6,O5_15,Qb]
 rcases U4 (Γ:=(gT m)) (Y:=Y) (m:=m) (N:=xs.length) (c:=7) (i:=3) (j1:=8) (j2:=9) (b:=0) (b1:=1) (ro:=none) (C:=cf167_0) (B:=US) (L:=[0]) (av:=J3) (by decide) (by decide) (by decide) aD.2.1
  (Q:=fun k _ s=>s=st/\(l.drop k).all rIs=l.all rIs) (fun _ _ _ _ _ _ h=>h) hC hB xs.length 0 J3 st m (by omega) (by omega) Kp.refl O3_3 ⟨rfl,rfl⟩
  with⟨FR,s',h1,h2,h3,h4⟩|⟨FR,s',h1,h2,h3,h4,h5⟩
 ·subst h3
  rw[bJ,Xr,QW] at h4
  rw[<-h4]
  refine Ve (mf:=kf167) (fr:=FR.set 2 (some (.bool true))) t212 rfl (.inl ?w1) (h2.1.trans W3) ?w2
  case w1=>
   rw[<-au]
   simp only[Rw,rQ,rA,kf167,Rx,H2,H3,h1]
  case w2=>simp only[kf167,Vg,Vu,V0,Fr.get_set,↓reduceIte,Qg,Ql]
 ·subst h2
  rw[h5]
  refine Ve (mf:=kf167) (fr:=FR) t212 rfl (.inl ?w3) h3 (by simp only[kf167,Vg,Vu,V0,h4,Qg,Ql])
  case w3=>
   rw[<-au]
   simp only[Rw,rQ,rA,kf167,Rx,H2,H3,h1]
theorem rIs_size{t:Tm}(h:rIs t=true):t.size<=2000:=by
 unfold rIs at h
 simp only[Qd] at h
 have:=((rcT_spec t 2000 1 (by omega) (by omega) (by omega) (by omega)).1.1 h.1).1
 omega
theorem vars1_run(t:Tm)(n:Nat)(Y:Vi)(F:Nat->Prop)(st:St)(cs:List AV)(hr:We F st t cs)(hF:∀ i,F i->i < st.next)(hi:rIs t=true)(hn:t.fz+4000 < n):
  ∃ bI af,R n Y 155 [.lst 1 cs true] st=.ret bI af/\Vd st af/\Ir st.next af bI (vL [t] []):=by
 obtain⟨m,rfl⟩:∃ m,n=m+1:=⟨n - 1,by omega⟩
 have Rx:Nat.beq 0 0=true:=rfl
 have cI:=rIs_size hi
 have aD:RL F st (.lst 1 cs true) [cs]:=by
  have:=RL.lst F st (n:=1) (xs:=[cs]) (ex:=true) (fun x hx=>by simp only[Xd] at hx;subst hx;exact hr.cells3) (by simp) rfl
  simpa using this
 have bg:Vy F st [t] [cs]:=by simp only[Vy];exact⟨_,_,rfl,hr,rfl⟩
 have hz:Tm.fzL [t]=t.fz:=by simp[Tm.fzL]
 have call:((gT m).cg Y).fn 212 [.lst 1 cs true] st=.ret (.bool true) st:=by
  have:=all_run [t] m Y F st (.lst 1 cs true) [cs] aD bg (by rw[hz];simp;omega)
  simp only[QN,hi,QW,Qy] at this
  exact this
 obtain⟨sv,s1,cv,fT,jS,mg⟩:=vars_run t m Y F st.next st cs (.lst 0 [] true) [] hr hF (Qw _) (.inl ⟨rfl,rfl⟩) (by simp;omega) (by simp;omega) (by omega)
 have iH:((gT m).cg Y).fn 213 [.agg cs,.lst 0 [] true] st=.ret sv s1:=cv
 have fl:VN [] []=some []:=rfl
 obtain⟨p,ia,ld⟩:=aD.at (k:=0) (x:=cs) rfl
 have ld:=ld st (Vs.refl _ _)
 have ln:∀ s:St,(bif VD 0 (.lst 1 cs true) then Wm s (.lst 1 cs true) else none)=some (ZI 1):=fun _=>rfl
 generalize (AV.lst 1 cs true)=sl at *
 obtain⟨fA1,au⟩:∃ fA,fA=Vo 0 [sl] Fr.nil:=⟨_,rfl⟩
 have gA1_0:=R9 au 0
 have dA1:fA1.ds=[]:=by rw[au];rfl
 obtain⟨J2,H2,O2_2⟩:∃ aa,ar m Y [ZM 2 (.c .nilsl)] fA1 st=.ok aa st/\aa.get 2=some (.nilsl):=⟨_,by simp only[Rw,rQ,rA]<;>rfl,gh⟩
 have W2:=ad H2 dA1
 obtain⟨J3,H3,O3_3⟩:∃ aa,ar m Y [ZO 5 (.bslice 0 [] []),ZV 3 5] J2 st=.ok aa st/\aa.get 3=some (.lst 0 [] true):=⟨_,by simp only[Rw,rQ,rA,fl]<;>rfl,gh⟩
 have V3_0:=ag H3 (ag H2 gA1_0)
 obtain⟨J4,H4,O4_8⟩:∃ aa,ar m Y g141_3 J3 st=.ok aa st/\aa.get 8=some (.bool false):=⟨_,by simp only[Rw,rQ,rA,V3_0,g141_3,call,unN,Qc,Qb]<;>rfl,by simp only[Fr.get_set,rQ,↓reduceIte,amB]⟩
 obtain⟨J5,H5,O5_4⟩:∃ aa,ar m Y [ZM 4 (ZC 0)] J4 st=.ok aa st/\aa.get 4=some Z0:=⟨_,by simp only[Rw,rQ,rA]<;>rfl,gh⟩
 have V5_0:=ag H5 (ag H4 V3_0)
 have hC:∀ k fr s,k<=1->Kp [0] J5 fr->fr.get 4=some (ZI k)->((k=0->s=st/\fr.get 3=some (.lst 0 [] true))/\(k=1->s=s1/\fr.get 3=some sv)) ->
   ∃ aa,ar m Y cf141_0 fr s=.ok aa s/\Kp [4,0] fr aa/\aa.get 13=some (.bool (decide (k < 1)))/\((k=0->s=st/\aa.get 3=some (.lst 0 [] true))/\(k=1->s=s1/\aa.get 3=some sv)):=by
  intro k fr s hk aI gi ⟨oV,iC⟩
  have q6:=aI.at (k:=0) (by decide) V5_0
  have ln:=ln s
  refine⟨?c0,?c1,?c2,?c3,fun h=>⟨(oV h).1,?c4⟩,fun h=>⟨(iC h).1,?c5⟩⟩
  case c1=>
   simp only[Rw,rQ,rA,cf141_0,q6,gi,ln,lssD]
   rfl
  case c2=>repeat (first | exact Kp.refl | refine Kp.set (by decide) ?_)
  case c3=>simp only[Fr.get_set,rQ,↓reduceIte]
  case c4=>simp only[Fr.get_set,rQ,↓reduceIte,(oV h).2]
  case c5=>simp only[Fr.get_set,rQ,↓reduceIte,(iC h).2]
 have hB:∀ k fr s,k < 1->Kp [0] J5 fr->fr.get 4=some (ZI k)->((k=0->s=st/\fr.get 3=some (.lst 0 [] true))/\(k=1->s=s1/\fr.get 3=some sv)) ->
   (∃ FR s',ac m Y bf141_0 none fr s=.norm FR s'/\Kp [4,0] fr FR/\((k+1=0->s'=st/\FR.get 3=some (.lst 0 [] true))/\(k+1=1->s'=s1/\FR.get 3=some sv))) ∨
   (∃ FR s',ac m Y bf141_0 none fr s=.ret FR s'/\False):=by
  intro k fr s hk aI gi ⟨oV,iC⟩
  obtain rfl:k=0:=by omega
  obtain⟨rfl,q7⟩:=oV rfl
  have q6:=aI.at (k:=0) (by decide) V5_0
  obtain⟨J8,H8,K8_,O8_3⟩:∃ aa,ar m Y g141_0 fr s=.ok aa s1/\Kp [0,4] fr aa/\aa.get 3=some (sv):=⟨_,by simp only[Rw,rQ,rA,q6,q7,gi,g141_0,ia,ld,iH]<;>rfl,Kp.refl.s.s.s.s.s.s.s,gh⟩
  refine .inl ⟨J8,s1,?q8,K8_.sub (by decide),fun h=>(by omega),fun _=>⟨rfl,O8_3⟩⟩
  case q8=>simp only[Rw,rQ,rA,bf141_0,H8]
 rcases U4 (Γ:=(gT m)) (Y:=Y) (m:=m) (N:=1) (c:=13) (i:=4) (j1:=14) (j2:=15) (b:=0) (b1:=1) (ro:=none) (C:=cf141_0) (B:=bf141_0) (L:=[0]) (av:=J5) (by decide) (by decide) (by decide) (by decide)
  (Q:=fun k fr s=>(k=0->s=st/\fr.get 3=some (.lst 0 [] true))/\(k=1->s=s1/\fr.get 3=some sv)) (fun k fr s x v hx ⟨h1,h2⟩=>⟨fun h=>⟨(h1 h).1,by rw[Fr.get_set,Qe (by omega)];exact(h1 h).2⟩,fun h=>⟨(h2 h).1,by rw[Fr.get_set,Qe (by omega)];exact(h2 h).2⟩⟩) hC hB 1 0 J5 st m (by omega) (by omega) Kp.refl O5_4 ⟨fun _=>⟨rfl,(ag H5 (ag H4 O3_3))⟩,fun h=>(by cases h)⟩
  with⟨FR,s',h1,h2,-,h4⟩|⟨FR,s',h1,h2⟩
 ·obtain⟨rfl,h4⟩:=h4 rfl
  refine⟨sv,s',Ve (mf:=kf141) (fr:=(FR.set 22 (some sv)).set 2 (some sv)) t155 rfl (.inl ?w1) (h2.1.trans (ad H5 (ad H4 (ad H3 W2)))) ?w2,⟨fT,jS⟩,by rw[Tf,vL_nil];exact mg⟩
  case w1=>
   rw[<-au]
   simp only[Rw,rQ,rA,kf141,Rx,H2,H3,H4,H5,O4_8,h1,h4]
  case w2=>simp only[kf141,Vg,Vu,V0,Fr.get_set,↓reduceIte,Qg,Ql]
 ·exact absurd h2 id
theorem rGround_run(t:Tm)(n:Nat)(Y:Vi)(F:Nat->Prop)(st:St)(cs:List AV)(hr:We F st t cs)(hF:∀ i,F i->i < st.next)(hn:t.fz+4001 < n):∃ af,R n Y 105 [.agg cs] st=.ret (.bool (gr t)) af/\Vd st af:=by
 obtain⟨m,rfl⟩:∃ m,n=m+1:=⟨n - 1,by omega⟩
 have Rx:Nat.beq 0 0=true:=rfl
 have c1:((gT m).cg Y).fn 154 [.agg cs] st=.ret (.bool (rIs t)) st:=is_run t m Y F st cs hr (by omega)
 have hv:rIs t=true->∃ bI af,R m Y 155 [.lst 1 cs true] st=.ret bI af/\Vd st af/\Ir st.next af bI (vL [t] []):=fun h=>vars1_run t m Y F st cs hr hF h (by omega)
 have eF:=hr.cells3
 obtain⟨a,b,c,rfl⟩:∃ a b c,cs=[a,b,c]:=by
  match cs,eF.1 with
  | [a,b,c],_=>exact⟨a,b,c,rfl⟩
 have fl:VN [ZI 0,ZI 0,.nilsl] [(0,3,.agg [a,b,c])]=some [a,b,c]:=rfl
 rw[<-rGround_eq]
 have eH:rGround t=(rIs t&&decide ((vL [t] []).length=0)):=rfl
 rw[eH]
 generalize rIs t=B at *
 obtain⟨fA1,au⟩:∃ fA,fA=Vo 0 [.agg [a,b,c]] Fr.nil:=⟨_,rfl⟩
 have gA1_0:=R9 au 0
 have dA1:fA1.ds=[]:=by rw[au];rfl
 obtain⟨J2,H2,O2_1⟩:∃ aa,ar m Y [ZO 1 (.box true (.t 0)),ZM 2 (ZB false)] fA1 st=.ok aa st/\aa.get 1=some (.fptr [a,b,c] 0):=⟨_,by simp only[Rw,rQ,rA,gA1_0]<;>rfl,gn gh⟩
 have W2:=ad H2 dA1
 cases B with
 | false=>
  obtain⟨J3,H3,O3_2⟩:∃ aa,ar m Y g116_1 J2 st=.ok aa st/\aa.get 2=some (.bool false):=⟨_,by simp only[Rw,rQ,rA,O2_1,g116_1,JZ,c1,Qc,Qb]<;>rfl,gh⟩
  have W3:=ad H3 W2
  refine⟨st,Ve (mf:=kf116) (fr:=J3) t105 rfl (.inl ?q3) W3 (by simp only[kf116,Vg,Vu,V0,O3_2,Qg,Ql,Q8]),Vd.refl st⟩
  case q3=>
   rw[<-au]
   simp only[Rw,rQ,rA,kf116,H2,H3]
 | true=>
  obtain⟨sv,s1,cv,kv,mg⟩:=hv rfl
  have iH:((gT m).cg Y).fn 155 [.lst 1 [a,b,c] true] st=.ret sv s1:=cv
  have ln:=mg.len s1
  have zg:Vr false .eql (ZI ((vL [t] []).length)) Z0=some (.bool (decide ((vL [t] []).length=0))):=by
   show some (AV.bool (Int.ofNat (vL [t] []).length==Int.ofNat 0))=_
   congr 2
   by_cases h:(vL [t] []).length=0
   ·rw[h];rfl
   ·rw[Qp h];simp;exact fun e=>h (by rw[e];rfl)
  obtain⟨J4,H4,O4_2⟩:∃ aa,ar m Y g116_1 J2 st=.ok aa s1/\aa.get 2=some (.bool (decide ((vL [t] []).length=0))):=⟨_,by simp only[Rw,rQ,rA,O2_1,g116_1,JZ,c1,fl,iH,ln,zg,Qc,Qb]<;>rfl,gh⟩
  refine⟨s1,Ve (mf:=kf116) (fr:=J4) t105 rfl (.inl ?q4) (ad H4 W2) (by simp only[kf116,Vg,Vu,V0,O4_2,Qg,Ql,Q3]),kv⟩
  case q4=>
   rw[<-au]
   simp only[Rw,rQ,rA,kf116,H2,H4]
end
noncomputable section
open Nat renaming reduceEqDiff -> rQ, reduceAdd -> rA
theorem Sy(n:Int):TO n n=true:=by cases n<;>exact QD _
theorem bb_refl(b:Bool):(bif b then b else !b)=true:=by cases b<;>rfl
theorem SJ:∀{a b:List AV},VG a a=true->VG b b=true->VG (a++b) (a++b)=true
 | [],b,_,h=>h
 | x::a,b,h,k=>by
  simp only[VG,Qd,QP] at h ⊢
  exact⟨h.1,SJ h.2 k⟩
theorem RL.beq{F:Nat->Prop}{st:St}{sl:AV}{xs:List (List AV)}(h:RL F st sl xs)(hx:VG xs.flatten xs.flatten=true):V8 sl sl=true:=by
 rcases h.2.2 with⟨rfl,_⟩|⟨ex,rfl⟩|⟨id,cap,lo,rfl,_⟩
 ·rfl
 ·simp only[V8,QD,bb_refl,hx,Qy]
 ·cases cap<;>simp only[V8,QD,onBeq,Qy]
mutual
theorem We.beq{F:Nat->Prop}{st:St}:∀(t:Tm) (cs:List AV),We F st t cs->VG cs cs=true
 | .mk k n nl ex l,cs,h=>by
  simp only[We] at h
  obtain⟨sl,xs,rfl,h2,h3⟩:=h
  simp only[VG,V8,Sy,h2.beq (Vy.beq l xs h3),Z3,Qy]
theorem Vy.beq{F:Nat->Prop}{st:St}:∀(l:List Tm) (xs:List (List AV)),Vy F st l xs->VG xs.flatten xs.flatten=true
 | [],xs,h=>by simp only[Vy] at h;subst h;rfl
 | t::l,xs,h=>by
  simp only[Vy] at h
  obtain⟨x,ys,rfl,h2,h3⟩:=h
  rw[Xc];exact SJ (We.beq t x h2) (Vy.beq l ys h3)
end
mutual
theorem VU.beq{F:Nat->Prop}{st:St}:∀(t:Dv) (cs:List AV),VU F st t cs->VG cs cs=true
 | .mk r nv ev vs nl ex l,cs,h=>by
  simp only[VU] at h
  obtain⟨s1,x1,s2,x2,rfl,h2,h3,h4,h5⟩:=h
  simp only[VG,V8,Sy,h2.beq (Vy.beq vs x1 h3),h4.beq (VI.beq l x2 h5),Z3,Qy]
theorem VI.beq{F:Nat->Prop}{st:St}:∀(l:List Dv) (xs:List (List AV)),VI F st l xs->VG xs.flatten xs.flatten=true
 | [],xs,h=>by simp only[VI] at h;subst h;rfl
 | t::l,xs,h=>by
  simp only[VI] at h
  obtain⟨x,ys,rfl,h2,h3⟩:=h
  rw[Xc];exact SJ (VU.beq t x h2) (VI.beq l ys h3)
end
def Out(P:Nat->Prop)(o:Nat)(s:St)(sl:AV)(c:Nat):Prop:=(sl=.nilsl/\c=0)\/∃ id cs,sl=.own id 0 c 1 none c/\id < s.next/\s.get id=some (.row cs)/\cs.length=c/\¬ P id/\id≠o
end
noncomputable section
open Nat renaming reduceEqDiff -> rQ, reduceAdd -> rA
def g76_0:List Vc:=[ZA 38 1 1,ZL 39 38,ZV 40 3,ZP 41 3 39 40,ZK 42 3 41,ZX 43 105 [(.t 42)],ZO 44 (.un .not (.t 43))]
def g76_2:List Vc:=[ZA 52 2 1,ZL 53 52,ZV 54 4,ZP 55 3 53 54,ZK 56 3 55,ZX 57 157 [(.t 56)],ZO 58 (.un .not (.t 57))]
def g76_5:List (Vc × Nat):=[(ZA 5 0 1,0),(ZL 6 5,1),(ZO 7 (.bin false .lss (.t 6) (ZC 1)),3),(ZV 8 7,7),(ZG 9 (.faddr 0 (.t 1)) 8 false,15),(ZG 10 (.load false 1 (.t 9)) 8 false,31),(ZG 11 (.bin false .gtr (.t 10) (ZC 19)) 8 false,63),(ZO 12 (.pick (.t 8) (ZB true) (.t 11)),127),(ZV 13 12,255),(ZG 14 (.faddr 2 (.t 1)) 13 false,511),(ZG 15 (.load false 1 (.t 14)) 13 false,1023),(ZG 16 (.len 0 (.t 15)) 13 false,2047),(ZG 17 (.faddr 0 (.t 1)) 13 false,511),(ZG 18 (.load false 1 (.t 17)) 13 false,4607),(ZG 19 (.call (.c (.func (.func 214) [] [])) [(.t 18)]) 13 false,12799),(ZG 20 (.bin false .neq (.t 16) (.t 19)) 13 false,32767),(ZO 21 (.pick (.t 13) (ZB true) (.t 20)),65535),(ZV 22 21,131071),(ZG 23 (.faddr 1 (.t 1)) 22 false,262143),(ZG 24 (.load false 1 (.t 23)) 22 false,524287),(ZG 25 (.len 0 (.t 24)) 22 false,1048575),(ZG 26 (.faddr 0 (.t 1)) 22 false,262143),(ZG 27 (.load false 1 (.t 26)) 22 false,2359295),(ZG 28 (.call (.c (.func (.func 215) [] [])) [(.t 27)]) 22 false,6553599),(ZG 29 (.bin false .gtr (.t 25) (.t 28)) 22 false,16777215),(ZO 30 (.pick (.t 22) (ZB true) (.t 29)),33554431)]
def bf76_0:Vn:=(ZQ g76_0
 (.cond (.t 44)
 (ZR [ZM 2 (ZB false)])
 .skip))
def cf76_0:List Vc:=[ZV 31 3,ZA 32 1 1,ZL 33 32,ZN 34 33,ZO 35 (.bin false .lss (.t 31) (.t 34))]
def bf76_1:Vn:=(ZQ g76_2
 (.cond (.t 58)
 (ZR [ZM 2 (ZB false)])
 .skip))
def cf76_1:List Vc:=[ZV 45 4,ZA 46 2 1,ZL 47 46,ZN 48 47,ZO 49 (.bin false .lss (.t 45) (.t 48))]
def kf76:Vm:=⟨59,(ZQ [ZO 1 (.box true (.t 0)),ZM 2 (ZB false)]
 (.seq (.seq (.draw g76_5 [(10,some 14),(10,some 23),(11,some 14),(11,some 23),(19,some 23),(19,none),(20,some 23),(20,none)])
 (.cond (.t 30)
 (ZR [ZM 2 (ZB false)])
 .skip))
 (.seq (ZQ [ZM 3 (ZC 0)]
 (.block 0 (.loop (lb2 35 3 36 37 0 1 cf76_0 bf76_0))))
 (.seq (ZQ [ZM 4 (ZC 0)]
 (.block 2 (.loop (lb2 49 4 50 51 2 3 cf76_1 bf76_1))))
 (ZR [ZM 2 (ZB true)]))))),[.t 2]⟩
theorem t157:Ry 157=some kf76:=by kernel_rfl
def g49_1:List Vc:=[ZK 6 3 1,ZX 7 156 [(.t 6),(ZC 4000),(ZC 1)],ZV 5 7,ZO 8 (.extract 0 (.t 5)),ZO 9 (.extract 1 (.t 5)),ZV 3 8,ZV 4 9]
def g49_2:List Vc:=[ZV 10 4,ZV 11 10,ZG 12 (.load true 3 (.t 1)) 11 true,ZG 13 (.call (.c (.func (.func 157) [] [])) [(.t 12)]) 11 true,ZO 14 (.pick (.t 11) (.t 13) (ZB false)),ZV 2 14]
def kf49:Vm:=⟨15,(ZQ [ZO 1 (.box true (.t 0)),ZM 2 (ZB false)]
 (ZQ g49_1
 (ZR g49_2))),[.t 2]⟩
theorem t106:Ry 106=some kf49:=by kernel_rfl
theorem drun_g{Γ:Cg}{d:Option Nat}{op:Rz}{a:Nat}{g:Nat × Bool}{zs:List (Vc × Nat)}{i id:Nat}{fr:Fr}{st:St}:Wq Γ ((⟨d,op,some g⟩,a)::zs) i id fr st none=match Vv fr (some g) with
  | some true=>(match V5 Γ id fr st op with
   | .val v af=>DR.cons (.val fr st v af) (Wq Γ zs (i+1) (VJ id op) (Fr.put fr d v) af none)
   | .pan v af=>DR.cons (.pan fr st v af) (Wq Γ zs (i+1) (VJ id op) fr st (some i))
   | .stuck=>none)
  | some false=>DR.cons (.val fr st .undef st) (Wq Γ zs (i+1) (VJ id op) (Fr.put fr d .undef) st none)
  | none=>none:=by
 conv=>lhs;unfold Wq
 simp only[Ku,Qq]
 cases Vv fr (some g) with
 | none=>rfl
 | some b=>
  cases b with
  | false=>rfl
  | true=>cases V5 Γ id fr st op<;>rfl
theorem drun_item{Γ:Cg}:∀(zs:List (Vc × Nat)) (i id:Nat) (fr:Fr) (st:St) (pan:Option Nat) (ak:List RF) (frE:Fr) (stE:St),Wq Γ zs i id fr st pan=some (ak,frE,stE) ->
  ∀(j:Nat) (z:Vc × Nat) (f:Fr) (s:St) (v:AV) (s':St),zs[j]?=some z->ak[j]?=some (.val f s v s')->Vv f z.1.guard=some true->V5 Γ (Wf zs j id) f s z.1.op=.val v s'
 | [],_,_,_,_,_,_,_,_,_,j,z,_,_,_,_,hz,_,_=>by simp at hz
 | y::zs,i,id,fr,st,pan,ak,frE,stE,h,j,z,f,s,v,s',hz,hi,hw=>by
  have key:∀(it:RF) (x:Option DR) (p:Option Nat) (aJ:Fr) (ai:St),DR.cons it x=some (ak,frE,stE)->x=Wq Γ zs (i+1) (VJ id y.1.op) aJ ai p ->
    (j=0->it=.val f s v s'->V5 Γ (Wf (y::zs) j id) f s z.1.op=.val v s')->V5 Γ (Wf (y::zs) j id) f s z.1.op=.val v s':=by
   intro it x p aJ ai hc hx h0
   cases aK:x with
   | none=>rw[aK] at hc;simp[DR.cons] at hc
   | some q=>
    rw[aK] at hc
    simp only[DR.cons,Qa,Q2] at hc
    obtain⟨lS,iA⟩:=hc
    cases j with
    | zero=>
     refine h0 rfl ?_
     rw[<-lS] at hi;simpa using hi
    | succ j=>
     have:Wq Γ zs (i+1) (VJ id y.1.op) aJ ai p=some (q.1,q.2.1,q.2.2):=by rw[<-hx,aK]
     refine drun_item zs (i+1) (VJ id y.1.op) aJ ai p q.1 q.2.1 q.2.2 this j z f s v s' (by simpa using hz) (by rw[<-lS] at hi;simpa using hi) hw
  unfold Wq at h
  cases hd:Ku pan y.2 with
  | true=>
   rw[hd] at h
   simp only[Qi] at h
   exact key _ _ _ _ _ h rfl fun _ h=>by cases h
  | false=>
   rw[hd] at h
   simp only[Qq] at h
   cases mP:Vv fr y.1.guard with
   | none=>rw[mP] at h;cases h
   | some b=>
    rw[mP] at h
    cases b with
    | false=>
     simp only at h
     refine key _ _ _ _ _ h rfl fun hj he=>?_
     subst hj
     simp only[Q0,Qa] at hz;subst hz
     injection he with e1
     rw[<-e1,mP] at hw;cases hw
    | true=>
     simp only at h
     cases ho:V5 Γ id fr st y.1.op with
     | val u s1=>
      rw[ho] at h
      refine key _ _ _ _ _ h rfl fun hj he=>?_
      subst hj
      simp only[Q0,Qa] at hz;subst hz
      injection he with e1 e2 e3 e4
      rw[<-e1,<-e2,<-e3,<-e4];exact ho
     | pan u s1=>
      rw[ho] at h
      cases pan with
      | none=>
       simp only at h
       exact key _ _ _ _ _ h rfl fun _ h=>by cases h
      | some p=>simp at h
     | stuck=>rw[ho] at h;cases h
def allSt(st:St):List RF->Prop
 | []=>True
 | .val _ s _ _::l=>s=st/\allSt st l
 | _::_=>False
theorem allSt_at{st:St}:∀{l:List RF},allSt st l->∀{j:Nat} {it:RF},l[j]?=some it->∃ f v s',it=.val f st v s'
 | [],_,j,it,h=>by simp at h
 | x::l,h,j,it,hj=>by
  cases x with
  | val f s v s'=>
   simp only[allSt] at h
   cases j with
   | zero=>simp only[Q0,Qa] at hj;subst hj;exact⟨f,v,s',by rw[h.1]⟩
   | succ j=>exact allSt_at h.2 (by simpa using hj)
  | pan=>simp[allSt] at h
  | dead=>simp[allSt] at h
def beqIts(ak:List RF)(chk:List (Nat × Option Nat)):Prop:=∀ q∈chk,∀ f s v s',ak[q.1]?=some (.val f s v s')->V8 v v=true
theorem Km{Γ:Cg}{zs:List (Vc × Nat)}{chk:List (Nat × Option Nat)}{fr frE:Fr}{st:St}{ak:List RF}(ny:VT zs [] st=st)(h:Wq Γ zs 0 st.next fr st none=some (ak,frE,st))(hp:JE ak=none)
  (hs:allSt st ak) (hb:beqIts ak chk) (hl:lens Γ zs fr st=[]:=by rfl):VK Γ zs chk fr st=.ok frE st:=by
 refine KB (by rw[ny];exact h) hp (QB.2 fun q hq=>?_) hl
 unfold KE
 split
 ·rename_i z f s v s' hz hi
  cases hw:Vv f z.1.guard with
  | none=>rfl
  | some b=>
   cases b with
   | false=>rfl
   | true=>
    obtain⟨f',v',s'',he⟩:=allSt_at hs hi
    injection he with e1 e2 e3 e4
    have aW:=drun_item zs 0 st.next fr st none ak frE st h q.1 z f s v s' hz hi hw
    have bw:=hb q hq f s v s' hi
    have key:(W0 z.1.op f||YF Γ (Wf zs q.1 st.next) f st z.1.op v)=true:=by
     rw[e2] at aW
     simp only[YF,aW,bw,XS]
    simp only
    split
    ·exact key
    ·split
     ·rename_i hk
      obtain⟨_,_,_,cQ⟩:=allSt_at hs hk
      injection cQ with _ e5
      rw[e5];exact key
     ·rename_i hk
      obtain⟨_,_,_,cQ⟩:=allSt_at hs hk
      cases cQ
     ·rfl
 ·rfl
theorem goodL_cons(d:Dv)(l:List Dv):Dv.goodL gr (d::l)=(d.good gr&&Dv.goodL gr l):=by simp only[Dv.goodL]
theorem bint(n:Int):V8 (.int .i64 n) (.int .i64 n)=true:=by simp only[V8,Sy,Z3,Qy]
set_option maxHeartbeats 4000000 in
theorem right_run(d:Dv):∀(n:Nat) (Y:Vi) (F:Nat->Prop) (st:St) (cs:List AV),VU F st d cs->(∀ i,F i->i < st.next)->d.fz+4100<=n->∃ af,R n Y 157 [.agg cs] st=.ret (.bool (d.good gr)) af/\Vd st af:=by
 induction hs:d.fz using Nat.strongRecOn generalizing d with
 | _ s ih=>
 intro n Y F st cs hr hF hn
 cases d with
 | mk r nv ev vs nl ex l=>
 simp only[VU] at hr
 obtain⟨sv,xv,sl,xs,rfl,lZ,iF,aD,bg⟩:=hr
 simp only[Dv.fz] at hs
 obtain⟨m,rfl⟩:∃ m,n=m+1:=⟨n - 1,by omega⟩
 have Rx:Nat.beq 0 0=true:=rfl
 have R6:Nat.beq 2 2=true:=rfl
 have bJ:=bg.len
 have qe:=iF.len
 have db:=aD.beq (VI.beq l xs bg)
 have qi:=lZ.beq (Vy.beq vs xv iF)
 have lenl:=aD.len st
 have lenv:=lZ.len st
 have car:((gT m).cg Y).fn 214 [.int .i64 r] st=.ret (ZI ((RZ r))) st:=by
  obtain⟨m',rfl⟩:∃ m',m=m'+1:=⟨m - 1,by omega⟩
  exact arity2_run m' Y r st
 have cva:((gT m).cg Y).fn 215 [.int .i64 r] st=.ret (ZI ((RY r))) st:=by
  obtain⟨m',rfl⟩:∃ m',m=m'+1:=⟨m - 1,by omega⟩
  exact values2_run m' Y r st
 have e1:Vr false .lss (.int .i64 r) (ZI 1)=some (.bool (decide (r < 1))):=rfl
 have e2:Vr false .gtr (.int .i64 r) (ZI 19)=some (.bool (decide (r > 19))):=rfl
 have e3:Vr false .neq (ZI xs.length) (ZI ((RZ r)))=some (.bool (Int.ofNat l.length != Int.ofNat (RZ r))):=by rw[bJ];rfl
 have e4:Vr false .gtr (ZI xv.length) (ZI ((RY r)))=some (.bool (decide (Int.ofNat vs.length > Int.ofNat (RY r)))):=by rw[qe];rfl
 have e9:Dv.good gr (.mk r nv ev vs nl ex l)=(!(((decide (r < 1)||decide (r > 19))||(Int.ofNat l.length != Int.ofNat (RZ r)))||decide (Int.ofNat vs.length > Int.ofNat (RY r)))&&(vs.all gr&&Dv.goodL gr l)):=by
  simp only[Dv.good,Bool.not_or,Bool.and_assoc]
  have h1:decide (1<=r)=!decide (r < 1):=by by_cases h:r < 1<;>simp[h]<;>omega
  have h2:decide (r<=19)=!decide (r > 19):=by by_cases h:r > 19<;>simp[h]<;>omega
  have h3:(l.length==RZ r)=!(Int.ofNat l.length != Int.ofNat (RZ r)):=by
   by_cases h:l.length=RZ r
   ·simp[h]
   ·have a1:(Int.ofNat l.length != Int.ofNat (RZ r))=true:=by simp;omega
    have a2:(l.length==RZ r)=false:=by simpa using h
    rw[a1,a2];rfl
  have h4:decide (vs.length<=RY r)=!decide (Int.ofNat vs.length > Int.ofNat (RY r)):=by
   by_cases h:vs.length<=RY r
   ·have a1:decide (Int.ofNat vs.length > Int.ofNat (RY r))=false:=Qp (by simp;omega)
    rw[a1,Qs h];rfl
   ·have a1:decide (Int.ofNat vs.length > Int.ofNat (RY r))=true:=Qs (by simp;omega)
    rw[a1,Qp h];rfl
  rw[h1,h2,h3,h4]
 rw[e9]
 generalize decide (r < 1)=B1 at *
 generalize decide (r > 19)=B2 at *
 generalize (Int.ofNat l.length != Int.ofNat (RZ r))=B3 at *
 generalize decide (Int.ofNat vs.length > Int.ofNat (RY r))=B4 at *
 obtain⟨fA1,au⟩:∃ fA,fA=Vo 0 [.agg [.int .i64 r,sv,sl]] Fr.nil:=⟨_,rfl⟩
 have gA1_0:=R9 au 0
 have dA1:fA1.ds=[]:=by rw[au];rfl
 obtain⟨J2,H2,O2_1,O2_2⟩:∃ aa,ar m Y [ZO 1 (.box true (.t 0)),ZM 2 (ZB false)] fA1 st=.ok aa st/\aa.get 1=some (.fptr [.int .i64 r,sv,sl] 0)/\aa.get 2=some (.bool false):=⟨_,by simp only[Rw,rQ,rA,gA1_0]<;>rfl,gn gh,gh⟩
 have W2:=ad H2 dA1
 obtain⟨fD,hD,kD,oD⟩:∃ aa,VK ((gT m).cg Y) g76_5 [(10,some 14),(10,some 23),(11,some 14),(11,some 23),(19,some 23),(19,none),(20,some 23),(20,none)] J2 st=.ok aa st/\Kp [1] J2 aa/\aa.get 30=some (.bool (((B1||B2)||B3)||B4)):=by
  cases B1 with
  | true=>
   refine⟨?v1ta,?v1tb,?v1tc,?v1td⟩
   case v1tb=>
    refine Km (ak:=?v1ti) rfl ?v1tx ?v1ty ?v1tz ?v1tw
    case v1tx=>
     simp only[Rw,rQ,rA,g76_5,WH,drun_g,WU,DR.cons,V5,VJ,O2_1,RP,Y7,Yg,WB,lenl,lenv,car,cva,e1,e2,e3,e4,Qc,Qb]
     rfl
    case v1ty=>rfl
    case v1tz=>
     repeat' first | exact trivial | refine⟨rfl,?_⟩
    case v1tw=>
     intro q hq f s v s' hi
     simp only[Qx,QI,Xh] at hq
     rcases hq with rfl | rfl | rfl | rfl | rfl | rfl | rfl | rfl<;>(have e:=(RF.val.inj (XW hi)).2.2.1;rw[<-e];first | exact db | exact qi | exact bint _ | rfl)
   case v1tc=>repeat (first | exact Kp.refl | refine Kp.set (by decide) ?_)
   case v1td=>simp only[Fr.get_set,rQ,↓reduceIte,QU,QL]
  | false=>
   cases B2 with
   | true=>
    refine⟨?v2ta,?v2tb,?v2tc,?v2td⟩
    case v2tb=>
     refine Km (ak:=?v2ti) rfl ?v2tx ?v2ty ?v2tz ?v2tw
     case v2tx=>
      simp only[Rw,rQ,rA,g76_5,WH,drun_g,WU,DR.cons,V5,VJ,O2_1,RP,Y7,Yg,WB,lenl,lenv,car,cva,e1,e2,e3,e4,Qc,Qb]
      rfl
     case v2ty=>rfl
     case v2tz=>
      repeat' first | exact trivial | refine⟨rfl,?_⟩
     case v2tw=>
      intro q hq f s v s' hi
      simp only[Qx,QI,Xh] at hq
      rcases hq with rfl | rfl | rfl | rfl | rfl | rfl | rfl | rfl<;>(have e:=(RF.val.inj (XW hi)).2.2.1;rw[<-e];first | exact db | exact qi | exact bint _ | rfl)
    case v2tc=>repeat (first | exact Kp.refl | refine Kp.set (by decide) ?_)
    case v2td=>simp only[Fr.get_set,rQ,↓reduceIte,QU,QL]
   | false=>
    cases B3 with
    | true=>
     refine⟨?v3ta,?v3tb,?v3tc,?v3td⟩
     case v3tb=>
      refine Km (ak:=?v3ti) rfl ?v3tx ?v3ty ?v3tz ?v3tw
      case v3tx=>
       simp only[Rw,rQ,rA,g76_5,WH,drun_g,WU,DR.cons,V5,VJ,O2_1,RP,Y7,Yg,WB,lenl,lenv,car,cva,e1,e2,e3,e4,Qc,Qb]
       rfl
      case v3ty=>rfl
      case v3tz=>
       repeat' first | exact trivial | refine⟨rfl,?_⟩
      case v3tw=>
       intro q hq f s v s' hi
       simp only[Qx,QI,Xh] at hq
       rcases hq with rfl | rfl | rfl | rfl | rfl | rfl | rfl | rfl<;>(have e:=(RF.val.inj (XW hi)).2.2.1;rw[<-e];first | exact db | exact qi | exact bint _ | rfl)
     case v3tc=>repeat (first | exact Kp.refl | refine Kp.set (by decide) ?_)
     case v3td=>simp only[Fr.get_set,rQ,↓reduceIte,QU,QL]
    | false=>
     cases B4 with
     | true=>
      refine⟨?v4ta,?v4tb,?v4tc,?v4td⟩
      case v4tb=>
       refine Km (ak:=?v4ti) rfl ?v4tx ?v4ty ?v4tz ?v4tw
       case v4tx=>
        simp only[Rw,rQ,rA,g76_5,WH,drun_g,WU,DR.cons,V5,VJ,O2_1,RP,Y7,Yg,WB,lenl,lenv,car,cva,e1,e2,e3,e4,Qc,Qb]
        rfl
       case v4ty=>rfl
       case v4tz=>
        repeat' first | exact trivial | refine⟨rfl,?_⟩
       case v4tw=>
        intro q hq f s v s' hi
        simp only[Qx,QI,Xh] at hq
        rcases hq with rfl | rfl | rfl | rfl | rfl | rfl | rfl | rfl<;>(have e:=(RF.val.inj (XW hi)).2.2.1;rw[<-e];first | exact db | exact qi | exact bint _ | rfl)
      case v4tc=>repeat (first | exact Kp.refl | refine Kp.set (by decide) ?_)
      case v4td=>simp only[Fr.get_set,rQ,↓reduceIte,QU,QL]
     | false=>
      refine⟨?v4fa,?v4fb,?v4fc,?v4fd⟩
      case v4fb=>
       refine Km (ak:=?v4fi) rfl ?v4fx ?v4fy ?v4fz ?v4fw
       case v4fx=>
        simp only[Rw,rQ,rA,g76_5,WH,drun_g,WU,DR.cons,V5,VJ,O2_1,RP,Y7,Yg,WB,lenl,lenv,car,cva,e1,e2,e3,e4,Qc,Qb]
        rfl
       case v4fy=>rfl
       case v4fz=>
        repeat' first | exact trivial | refine⟨rfl,?_⟩
       case v4fw=>
        intro q hq f s v s' hi
        simp only[Qx,QI,Xh] at hq
        rcases hq with rfl | rfl | rfl | rfl | rfl | rfl | rfl | rfl<;>(have e:=(RF.val.inj (XW hi)).2.2.1;rw[<-e];first | exact db | exact qi | exact bint _ | rfl)
      case v4fc=>repeat (first | exact Kp.refl | refine Kp.set (by decide) ?_)
      case v4fd=>simp only[Fr.get_set,rQ,↓reduceIte,QU,QL]
 have qD:=kD.at (k:=1) (by decide) O2_1
 have dD:=kD.1.trans W2
 generalize (((B1||B2)||B3)||B4)=BB at *
 cases BB with
 | true=>
  obtain⟨J3,H3,O3_2⟩:∃ aa,ar m Y [ZM 2 (ZB false)] fD st=.ok aa st/\aa.get 2=some (.bool false):=⟨_,by simp only[Rw,rQ,rA]<;>rfl,gh⟩
  have W3:=ad H3 dD
  refine⟨st,Ve (mf:=kf76) (fr:=J3) t157 rfl (.inl ?q3) W3 (by simp only[kf76,Vg,Vu,V0,O3_2,Qg,Ql,Qc,Q8]),Vd.refl st⟩
  case q3=>
   rw[<-au]
   simp only[Rw,rQ,rA,kf76,Rx,H2,hD,H3,oD]
 | false=>
  rw[Qb,Q3]
  obtain⟨J4,H4,O4_3⟩:∃ aa,ar m Y [ZM 3 (ZC 0)] fD st=.ok aa st/\aa.get 3=some Z0:=⟨_,by simp only[Rw,rQ,rA]<;>rfl,gh⟩
  have V4_1:=ag H4 qD
  have W4:=ad H4 dD
  have ua:∀ k fr s,k<=xv.length->Kp [1] J4 fr->fr.get 3=some (ZI k)->(Vd st s/\(vs.drop k).all gr=vs.all gr) ->
    ∃ aa,ar m Y cf76_0 fr s=.ok aa s/\Kp [3,1] fr aa/\aa.get 35=some (.bool (decide (k < xv.length)))/\(Vd st s/\(vs.drop k).all gr=vs.all gr):=by
   intro k fr s hk aI gi hq
   have q6:=aI.at (k:=1) (by decide) V4_1
   have al:=lZ.len s
   refine⟨?m0,?m1,?m2,?m03,hq⟩
   case m1=>
    simp only[Rw,rQ,rA,cf76_0,q6,gi,RP,Yg,al,lssD]
    rfl
   case m2=>repeat (first | exact Kp.refl | refine Kp.set (by decide) ?_)
   case m03=>simp only[Fr.get_set,rQ,↓reduceIte]
  have gw:∀ k fr s,k < xv.length->Kp [1] J4 fr->fr.get 3=some (ZI k)->(Vd st s/\(vs.drop k).all gr=vs.all gr) ->
    (∃ FR s',ac m Y bf76_0 none fr s=.norm FR s'/\Kp [3,1] fr FR/\(Vd st s'/\(vs.drop (k+1)).all gr=vs.all gr)) ∨
    (∃ FR s',ac m Y bf76_0 none fr s=.ret FR s'/\(FR.ds=[]/\FR.get 2=some (.bool false)/\Vd st s'/\vs.all gr=false)):=by
   intro k fr s hk aI gi ⟨bi,hq⟩
   obtain⟨t,ht,bH⟩:=WR (l:=vs) (k:=k) (by omega)
   obtain⟨x,hx,bZ⟩:=iF.at ht
   obtain⟨p,ia,ld⟩:=lZ.at hx
   have aO:Vs F st s:=Vs.of (bi) hF
   have ld:=ld s aO
   have bv:=Tm.fzL_mem (Qr ht)
   obtain⟨s',fZ,cf⟩:=rGround_run t m Y F s x (bZ.mono aO fun _ h=>h) (fun i hi=>Qz (hF i hi) bi.1) (by omega)
   have ay:((gT m).cg Y).fn 105 [.agg x] s=.ret (.bool (gr t)) s':=fZ
   have q6:=aI.at (k:=1) (by decide) V4_1
   rw[bH,QN] at hq
   generalize gr t=ok at *
   obtain⟨J7,H7,K7,O7_44⟩:∃ aa,ar m Y g76_0 fr s=.ok aa s'/\Kp [1,3] fr aa/\aa.get 44=some (.bool (!ok)):=⟨_,by simp only[Rw,rQ,rA,q6,gi,g76_0,RP,Yg,ia,ld,ay,unN,Qc,Qb]<;>rfl,Kp.refl.s.s.s.s.s.s.s,gh⟩
   cases ok with
   | true=>
    refine .inl ⟨J7,s',?q7,K7.sub (by decide),bi.trans cf,by simpa using hq⟩
    case q7=>simp only[Rw,rQ,rA,bf76_0,H7,O7_44,Qc]
   | false=>
    obtain⟨J8,H8,O8_2⟩:∃ aa,ar m Y [ZM 2 (ZB false)] J7 s'=.ok aa s'/\aa.get 2=some (.bool false):=⟨_,by simp only[Rw,rQ,rA]<;>rfl,gh⟩
    refine .inr ⟨J8,s',?q8,ad H8 (K7.1.trans (aI.1.trans W4)),O8_2,bi.trans cf,by rw[<-hq];rfl⟩
    case q8=>simp only[Rw,rQ,rA,bf76_0,H7,H8,O7_44,Qb]
  rcases U4 (Γ:=(gT m)) (Y:=Y) (m:=m) (N:=xv.length) (c:=35) (i:=3) (j1:=36) (j2:=37) (b:=0) (b1:=1) (ro:=none) (C:=cf76_0) (B:=bf76_0) (L:=[1]) (av:=J4) (by decide) (by decide) (by decide) lZ.2.1
   (Q:=fun k _ s=>Vd st s/\(vs.drop k).all gr=vs.all gr) (fun _ _ _ _ _ _ h=>h) ua gw xv.length 0 J4 st m (by omega) (by omega) Kp.refl O4_3 ⟨Vd.refl st,rfl⟩
   with⟨FR,s2,h1,h2,h3,h4⟩|⟨FR,s2,h1,h2,h3,h4,h5⟩
  rotate_left
  ·rw[h5,Q8]
   refine⟨s2,Ve (mf:=kf76) (fr:=FR) t157 rfl (.inl ?w3) h2 (by simp only[kf76,Vg,Vu,V0,h3,Qg,Ql]),h4⟩
   case w3=>
    rw[<-au]
    simp only[Rw,rQ,rA,kf76,Rx,H2,hD,H4,oD,h1]
  rw[qe,Xr,QW] at h4
  rw[<-h4,Q3]
  have z1:=h2.at (k:=1) (by decide) V4_1
  have dF:=h2.1.trans W4
  obtain⟨J9,H9,O9_4⟩:∃ aa,ar m Y [ZM 4 (ZC 0)] FR s2=.ok aa s2/\aa.get 4=some Z0:=⟨_,by simp only[Rw,rQ,rA]<;>rfl,gh⟩
  have V9_1:=ag H9 z1
  have W9:=ad H9 dF
  have tT:∀ k fr s,k<=xs.length->Kp [1] J9 fr->fr.get 4=some (ZI k)->(Vd s2 s/\Dv.goodL gr (l.drop k)=Dv.goodL gr l) ->
    ∃ aa,ar m Y cf76_1 fr s=.ok aa s/\Kp [4,1] fr aa/\aa.get 49=some (.bool (decide (k < xs.length)))/\(Vd s2 s/\Dv.goodL gr (l.drop k)=Dv.goodL gr l):=by
   intro k fr s hk aI gi hq
   have q6:=aI.at (k:=1) (by decide) V9_1
   have al:=aD.len s
   refine⟨?m115,?m11,?m12,?m13,hq⟩
   case m11=>
    simp only[Rw,rQ,rA,cf76_1,q6,gi,RP,WB,al,lssD]
    rfl
   case m12=>repeat (first | exact Kp.refl | refine Kp.set (by decide) ?_)
   case m13=>simp only[Fr.get_set,rQ,↓reduceIte]
  have io:∀ k fr s,k < xs.length->Kp [1] J9 fr->fr.get 4=some (ZI k)->(Vd s2 s/\Dv.goodL gr (l.drop k)=Dv.goodL gr l) ->
    (∃ FR s',ac m Y bf76_1 none fr s=.norm FR s'/\Kp [4,1] fr FR/\(Vd s2 s'/\Dv.goodL gr (l.drop (k+1))=Dv.goodL gr l)) ∨
    (∃ FR s',ac m Y bf76_1 none fr s=.ret FR s'/\(FR.ds=[]/\FR.get 2=some (.bool false)/\Vd s2 s'/\Dv.goodL gr l=false)):=by
   intro k fr s hk aI gi ⟨bi,hq⟩
   obtain⟨t,ht,bH⟩:=WR (l:=l) (k:=k) (by omega)
   obtain⟨x,hx,bZ⟩:=bg.at ht
   obtain⟨p,ia,ld⟩:=aD.at hx
   have aO:Vs F st s:=Vs.of (h3.trans bi) hF
   have ld:=ld s aO
   have bv:=Dv.fzL_mem (Qr ht)
   obtain⟨s',fZ,cf⟩:=ih t.fz (by omega) t rfl m Y F s x (bZ.mono aO fun _ h=>h) (fun i hi=>Qz (hF i hi) (h3.trans bi).1) (by omega)
   have ay:((gT m).cg Y).fn 157 [.agg x] s=.ret (.bool (t.good gr)) s':=fZ
   have q6:=aI.at (k:=1) (by decide) V9_1
   rw[bH,goodL_cons] at hq
   generalize Dv.good gr t=ok at *
   obtain⟨J10,H10,K10,O10_58⟩:∃ aa,ar m Y g76_2 fr s=.ok aa s'/\Kp [1,4] fr aa/\aa.get 58=some (.bool (!ok)):=⟨_,by simp only[Rw,rQ,rA,q6,gi,g76_2,RP,WB,ia,ld,ay,unN,Qc,Qb]<;>rfl,Kp.refl.s.s.s.s.s.s.s,gh⟩
   cases ok with
   | true=>
    refine .inl ⟨J10,s',?q10,K10.sub (by decide),bi.trans cf,by simpa using hq⟩
    case q10=>simp only[Rw,rQ,rA,bf76_1,H10,O10_58,Qc]
   | false=>
    obtain⟨J11,H11,O11_2⟩:∃ aa,ar m Y [ZM 2 (ZB false)] J10 s'=.ok aa s'/\aa.get 2=some (.bool false):=⟨_,by simp only[Rw,rQ,rA]<;>rfl,gh⟩
    refine .inr ⟨J11,s',?q11,ad H11 (K10.1.trans (aI.1.trans W9)),O11_2,bi.trans cf,by rw[<-hq];rfl⟩
    case q11=>simp only[Rw,rQ,rA,bf76_1,H10,H11,O10_58,Qb]
  rcases U4 (Γ:=(gT m)) (Y:=Y) (m:=m) (N:=xs.length) (c:=49) (i:=4) (j1:=50) (j2:=51) (b:=2) (b1:=3) (ro:=none) (C:=cf76_1) (B:=bf76_1) (L:=[1]) (av:=J9) (by decide) (by decide) (by decide) aD.2.1
   (Q:=fun k _ s=>Vd s2 s/\Dv.goodL gr (l.drop k)=Dv.goodL gr l) (fun _ _ _ _ _ _ h=>h) tT io xs.length 0 J9 s2 m (by omega) (by omega) Kp.refl O9_4 ⟨Vd.refl s2,rfl⟩
   with⟨FR2,s3,i1,i2,i3,i4⟩|⟨FR2,s3,i1,i2,i3,i4,i5⟩
  ·rw[bJ,Xr] at i4
   have i5:Dv.goodL gr l=true:=by rw[<-i4];simp only[Dv.goodL]
   rw[i5]
   refine⟨s3,Ve (mf:=kf76) (fr:=FR2.set 2 (some (.bool true))) t157 rfl (.inl ?w5) (i2.1.trans W9) ?w6,h3.trans i3⟩
   case w5=>
    rw[<-au]
    simp only[Rw,rQ,rA,kf76,Rx,R6,H2,hD,H4,h1,H9,oD,i1]
   case w6=>simp only[kf76,Vg,Vu,V0,Fr.get_set,↓reduceIte,Qg,Ql]
  ·rw[i5]
   refine⟨s3,Ve (mf:=kf76) (fr:=FR2) t157 rfl (.inl ?w7) i2 (by simp only[kf76,Vg,Vu,V0,i3,Qg,Ql]),h3.trans i4⟩
   case w7=>
    rw[<-au]
    simp only[Rw,rQ,rA,kf76,Rx,R6,H2,hD,H4,h1,H9,oD,i1]
end
noncomputable section
open Nat renaming reduceEqDiff -> rQ, reduceAdd -> rA
theorem rIsD_run(d:Dv)(n:Nat)(Y:Vi)(F:Nat->Prop)(st:St)(cs:List AV)(hr:VU F st d cs)(hF:∀ i,F i->i < st.next)(hn:d.fz+4101<=n):
  ∃ af,R n Y 106 [.agg cs] st=.ret (.bool (JY d)) af/\Vd st af:=by
 obtain⟨m,rfl⟩:∃ m,n=m+1:=⟨n - 1,by omega⟩
 have Rx:Nat.beq 0 0=true:=rfl
 have h3:=hr.cells3
 have c1:((gT m).cg Y).fn 156 [.agg cs,ZI 4000,ZI 1] st=.ret (.tuple [.int .i64 (rcD d 4000 1).1,.bool (rcD d 4000 1).2]) st:=counted47 d m Y F st (.ofNat 4000) (.ofNat 1) cs hr (by omega)
 obtain⟨s1,c2,hk⟩:=right_run d m Y F st cs hr hF (by omega)
 have c2:((gT m).cg Y).fn 157 [.agg cs] st=.ret (.bool (d.good gr)) s1:=c2
 obtain⟨a1,a2,a3,rfl⟩:∃ a1 a2 a3,cs=[a1,a2,a3]:=by
  match cs,h3.1 with
  | [x,y,z],_=>exact⟨x,y,z,rfl⟩
 rw[<-rIsD_eq]
 unfold rIsD
 generalize (rcD d 4000 1).1=L at *
 generalize (rcD d 4000 1).2=ok at *
 generalize d.good gr=V at *
 obtain⟨fA1,au⟩:∃ fA,fA=Vo 0 [.agg [a1,a2,a3]] Fr.nil:=⟨_,rfl⟩
 have gA1_0:=R9 au 0
 have dA1:fA1.ds=[]:=by rw[au];rfl
 obtain⟨J2,H2,O2_1⟩:∃ aa,ar m Y [ZO 1 (.box true (.t 0)),ZM 2 (ZB false)] fA1 st=.ok aa st/\aa.get 1=some (.fptr [a1,a2,a3] 0):=⟨_,by simp only[Rw,rQ,rA,gA1_0]<;>rfl,gn gh⟩
 obtain⟨J3,H3,O3_4⟩:∃ aa,ar m Y g49_1 J2 st=.ok aa st/\aa.get 4=some (.bool ok):=⟨_,by simp only[Rw,rQ,rA,O2_1,g49_1,JZ,c1,ex20,ex21]<;>rfl,gh⟩
 have V3_1:=ag H3 O2_1
 have W3:=ad H3 (ad H2 dA1)
 cases ok with
 | true=>
  rw[Q3]
  obtain⟨J4,H4,O4_2⟩:∃ aa,ar m Y g49_2 J3 st=.ok aa s1/\aa.get 2=some (.bool V):=⟨_,by simp only[Rw,rQ,rA,V3_1,O3_4,g49_2,JZ,c2,Qc,Qb]<;>rfl,gh⟩
  have W4:=ad H4 W3
  refine⟨s1,Ve (mf:=kf49) (fr:=J4) t106 rfl (.inl ?q4) W4 (by simp only[kf49,Vg,Vu,V0,O4_2,Qg,Ql]),hk⟩
  case q4=>
   rw[<-au]
   simp only[Rw,rQ,rA,kf49,Rx,H2,H3,H4]
 | false=>
  rw[Q8]
  obtain⟨J5,H5,O5_2⟩:∃ aa,ar m Y g49_2 J3 st=.ok aa st/\aa.get 2=some (.bool false):=⟨_,by simp only[Rw,rQ,rA,V3_1,O3_4,g49_2,JZ,c2,Qc,Qb]<;>rfl,gh⟩
  have W5:=ad H5 W3
  refine⟨st,Ve (mf:=kf49) (fr:=J5) t106 rfl (.inl ?q5) W5 (by simp only[kf49,Vg,Vu,V0,O5_2,Qg,Ql]),Vd.refl _⟩
  case q5=>
   rw[<-au]
   simp only[Rw,rQ,rA,kf49,Rx,H2,H3,H5]
end
theorem flatZ{z:Nat}:∀{xs:List (List AV)},(∀ x∈xs,x.length=z)->∀{i:Nat} {x rest:List AV},xs[i]?=some x->((xs.flatten++rest).drop (i*z)).take z=x
 | [],_,i,x,_,h=>by simp at h
 | y::ys,hz,0,x,rest,h=>by
  simp only[Q0,Qa] at h;subst h
  have hy:=hz y (by simp)
  simp only[Xc,Nat.zero_mul,Xw,Xb]
  rw[XG (by omega),Xx (by omega)]
 | y::ys,hz,i+1,x,rest,h=>by
  simp only[QE] at h
  have hy:=hz y (by simp)
  have:=flatZ (rest:=rest) (fun x hx=>hz x (by simp[hx])) h
  rw[<-this]
  congr 1
  simp only[Xc,Xb]
  rw[show (i+1)*z=y.length+i*z by rw[Xv,hy];omega,ZZ]
  simp
theorem SX{z:Nat}:∀{xs:List (List AV)},(∀ x∈xs,x.length=z)->xs.flatten.length=xs.length*z
 | [],_=>by simp
 | y::ys,h=>by
  simp only[Xc,QJ,QC]
  rw[SX fun x hx=>h x (by simp[hx]),h y (by simp),Xv];omega
theorem flatZ_one:∀{xs:List (List AV)},(∀ x∈xs,x.all AV.one=true)->xs.flatten.all AV.one=true
 | [],_=>rfl
 | y::ys,h=>by
  have ih:ys.flatten.all AV.one=true:=flatZ_one fun x hx=>h x (XD _ hx)
  simp only[Xc,List.all_append,ih,h y (by simp)];rfl
def RB(z:Nat)(F:Nat->Prop)(st:St)(sl:AV)(xs:List (List AV)):Prop:=
 0 < z/\(∀ x∈xs,x.length=z/\x.all AV.one=true)/\xs.length<=4611686018427387904 ∧
 ((sl=.nilsl/\xs=[])\/(∃ ex,sl=.lst xs.length xs.flatten ex)\/(∃ id cap lo rest,sl=.own id 0 xs.length z cap lo/\F id/\st.get id=some (.row (xs.flatten++rest))))
theorem RB.mono{z:Nat}{F G:Nat->Prop}{s a:St}{sl:AV}{xs:List (List AV)}(h:RB z F s sl xs)(k:Vs F s a)(oR:∀ i,F i->G i):RB z G a sl xs:=by
 obtain⟨h0,h1,h2,h3⟩:=h
 refine⟨h0,h1,h2,?_⟩
 rcases h3 with h | h|⟨id,cap,lo,rest,h,hi,hg⟩
 ·exact .inl h
 ·exact .inr (.inl h)
 ·exact .inr (.inr ⟨id,cap,lo,rest,h,oR _ hi,k.get hi hg⟩)
theorem RB.nil{z:Nat}(hz:0 < z)(F:Nat->Prop)(st:St):RB z F st .nilsl []:=⟨hz,fun _ h=>by simp at h,X3 _,.inl ⟨rfl,rfl⟩⟩
theorem RB.lst{z:Nat}(hz:0 < z)(F:Nat->Prop)(st:St){n:Nat}{xs:List (List AV)}{cs:List AV}{ex:Bool}(h:∀ x∈xs,x.length=z/\x.all AV.one=true)(hb:xs.length<=4611686018427387904)(hn:n=xs.length)(hc:cs=xs.flatten):RB z F st (.lst n cs ex) xs:=
 ⟨hz,h,hb,.inr (.inl ⟨ex,by rw[hn,hc]⟩)⟩
theorem RB.one{z:Nat}{F:Nat->Prop}{st:St}{sl:AV}{xs:List (List AV)}(h:RB z F st sl xs):AV.one sl=true:=by
 rcases h.2.2.2 with⟨rfl,_⟩|⟨ex,rfl⟩|⟨id,cap,lo,rest,rfl,_⟩<;>rfl
theorem RB.len{z:Nat}{F:Nat->Prop}{st:St}{sl:AV}{xs:List (List AV)}(h:RB z F st sl xs)(af:St):(bif VD 0 sl then Wm af sl else none)=some (ZI xs.length):=by
 rcases h.2.2.2 with⟨rfl,rfl⟩|⟨ex,rfl⟩|⟨id,cap,lo,rest,rfl,_⟩<;>rfl
theorem RB.ptr{z:Nat}{F:Nat->Prop}{st:St}{sl:AV}{xs:List (List AV)}(h:RB z F st sl xs){k:Nat}{x:List AV}(hx:xs[k]?=some x):
  ∃ p,VC z sl (ZI k)=some p/\∀ af,Vs F st af->∃ cs,Wy af p=some cs/\cs.take z=x:=by
 obtain⟨h0,h1,h2,h3⟩:=h
 have hk:=(Qt.1 hx).1
 have hz:=fun x hx=>(h1 x hx).1
 rcases h3 with⟨rfl,rfl⟩|⟨ex,rfl⟩|⟨id,cap,lo,rest,rfl,hi,hg⟩
 ·simp at hk
 ·refine⟨.fptr xs.flatten (k*z),?_,fun af _=>⟨xs.flatten.drop (k*z),rfl,?_⟩⟩
  ·simp only[VC]
   rw[Qo (show k+1<=xs.length from hk)]
   simp only[Qi]
   split
   ·rename_i he
    have hl:=SX hz
    rw[he] at hl
    have:0 < xs.length*z:=Nat.mul_pos (by omega) h0
    simp at hl;omega
   ·rfl
  ·have:=flatZ (rest:=[]) hz hx
   simpa using this
 ·refine⟨.ptr id (0+k*z),?_,fun af cf=>⟨(xs.flatten++rest).drop (0+k*z),?_,?_⟩⟩
  ·simp only[VC]
   rw[Qo (show k+1<=xs.length from hk),QD]
   rfl
  ·simp only[Wy,cf.get hi hg]
  ·rw[Q7];exact flatZ hz hx
theorem RB.at{z:Nat}{F:Nat->Prop}{st:St}{sl:AV}{xs:List (List AV)}(h:RB z F st sl xs){k:Nat}{x:List AV}(hx:xs[k]?=some x):
  ∃ p,VC z sl (ZI k)=some p/\∀ af,Vs F st af->Vf true z af p=some (.agg x):=by
 obtain⟨p,h1,h2⟩:=h.ptr hx
 refine⟨p,h1,fun af hs=>?_⟩
 obtain⟨cs,h3,h4⟩:=h2 af hs
 have hl:=(h.2.1 x (Qr hx)).1
 simp only[Vf,h3,Qg,h4,Ja,Qi,hl,QD]
theorem RB.at1{F:Nat->Prop}{st:St}{sl:AV}{xs:List AV}(h:RB 1 F st sl (xs.map fun x=>[x])){k:Nat}{x:AV}(hx:xs[k]?=some x):
  ∃ p,VC 1 sl (ZI k)=some p/\∀ af,Vs F st af->Vf false 1 af p=some x:=by
 obtain⟨p,h1,h2⟩:=h.ptr (x:=[x]) (by rw[Q5,hx];rfl)
 refine⟨p,h1,fun af hs=>?_⟩
 obtain⟨cs,h3,h4⟩:=h2 af hs
 simp only[Vf,h3,Qg,h4,Ja,Qq]
theorem RB.content{z:Nat}{F:Nat->Prop}{st:St}{sl:AV}{xs:List (List AV)}(h:RB z F st sl xs){af:St}(hk:Vs F st af):Wd z af sl=some (xs.length,xs.flatten):=by
 have hf:=SX fun x hx=>(h.2.1 x hx).1
 rcases h.2.2.2 with⟨rfl,rfl⟩|⟨ex,rfl⟩|⟨id,cap,lo,rest,rfl,hi,hg⟩
 ·rfl
 ·simp only[Wd]
  rw[Qo (by omega),Xx (by omega)];rfl
 ·simp only[Wd,hk.get hi hg]
  rw[QD,Qo (by simp only[QJ];omega),Xw]
  simp only[Bool.and_self,Qi]
  rw[XG (by omega),Xx (by omega)]
noncomputable section
open Nat renaming reduceEqDiff -> rQ, reduceAdd -> rA
abbrev RE(F:Nat->Prop)(st:St)(sl:AV)(xs:List Int):Prop:=RB 1 F st sl ((xs.map (AV.int .i64)).map fun x=>[x])
theorem RE.len{F:Nat->Prop}{st:St}{sl:AV}{xs:List Int}(h:RE F st sl xs)(af:St):(bif VD 0 sl then Wm af sl else none)=some (ZI xs.length):=by
 have:=RB.len h af
 simpa using this
theorem RE.at{F:Nat->Prop}{st:St}{sl:AV}{xs:List Int}(h:RE F st sl xs){k:Nat}{x:Int}(hx:xs[k]?=some x):
  ∃ p,VC 1 sl (ZI k)=some p/\∀ af,Vs F st af->Vf false 1 af p=some (.int .i64 x):=RB.at1 h (by rw[Q5,hx];rfl)
theorem RE.bound{F:Nat->Prop}{st:St}{sl:AV}{xs:List Int}(h:RE F st sl xs):xs.length<=4611686018427387904:=by
 have:=h.2.2.1
 simpa using this
def wb73_0:Vn:=(ZQ [ZV 10 8,ZV 5 10]
 (ZQ [ZV 11 1,ZV 12 0,ZV 13 5,ZP 14 1 12 13,ZL 15 14,ZO 16 (.call (.t 11) [(.t 15)])]
 (.cond (.t 16)
 (ZR [ZV 17 5,ZV 4 17])
 .skip)))
def wf73:Vm:=⟨19,(ZQ [ZM 4 (ZC 0)]
 (.seq (ZQ [ZV 6 0,ZN 7 6,ZM 8 (ZC 0)]
 (.block 0 (.loop (lb 9 8 7 18 wb73_0))))
 (ZR [ZM 4 (.c (.int .i64 (.negSucc 0)))]))),[.t 4]⟩
theorem t73:Ry 73=some wf73:=by kernel_rfl
def wf63:Vm:=⟨9,(ZQ [ZM 4 (ZB false)]
 (ZR [ZV 5 0,ZV 6 1,ZX 7 73 [(.t 5),(.t 6)],ZO 8 (.bin false .geq (.t 7) (ZC 0)),ZV 4 8])),[.t 4]⟩
theorem t63:Ry 63=some wf63:=by kernel_rfl
theorem idx73_run{q n:Nat}{Y:Vi}{F:Nat->Prop}{aB:St}{sl:AV}{xs:List Int}{caps:List AV}{R3:Nat->St->Prop}{Fin:Nat->St->Prop}(aD:RE F aB sl xs)
  (hI:∀ k s,R3 k s->Vs F aB s)
  (dZ:∀ k x s,xs[k]?=some x->R3 k s->∃ b s',R n Y q (.int .i64 x::caps) s=.ret (.bool b) s'/\(b=true->Fin k s')/\(b=false->R3 (k+1) s'))
  (st:St) (h0:R3 0 st) (hn:xs.length < n):
  ∃ r s',R (n+1) Y 73 [sl,.func (.func q) [] caps] st=.ret (.int .i64 r) s'/\((r=.negSucc 0/\R3 xs.length s')\/(∃ j:Nat,r=.ofNat j/\j < xs.length/\Fin j s')):=by
 have al:=RE.len aD st
 obtain⟨av,cp,z0,z1,z7,z8,zd⟩:∃ av,(∀ L T,ac n Y (ZQ [ZM 4 (ZC 0)] (.seq (ZQ [ZV 6 0,ZN 7 6,ZM 8 (ZC 0)] L) T)) none (Vo 0 [sl,.func (.func q) [] caps] Fr.nil) st=match ac n Y L none av st with
    | .norm fr st=>ac n Y T none fr st
    | r=>r)
   /\ av.get 0=some sl/\av.get 1=some (.func (.func q) [] caps)/\av.get 7=some (ZI xs.length)/\av.get 8=some Z0/\av.ds=[]:=by
  refine⟨?f0,?f1,?f2,?f3,?f4,?f5,?f7⟩
  case f1=>
   intro L T
   simp only[Rw,rQ,rA,al]
   rfl
  case f2=>simp only[Vo,Fr.get_set,rA,rQ,↓reduceIte]
  case f3=>simp only[Vo,Fr.get_set,rA,rQ,↓reduceIte]
  case f4=>simp only[Fr.get_set,rQ,↓reduceIte]
  case f5=>simp only[Fr.get_set,↓reduceIte]
  case f7=>rfl
 have Rx:Nat.beq 0 0=true:=rfl
 have hB:∀ k fr s,k < xs.length->Kp [0,1,7] av fr->fr.get 8=some (ZI k)->R3 k s ->
   (∃ FR s',ac n Y wb73_0 none fr s=.norm FR s'/\Kp [8,0,1,7] fr FR/\R3 (k+1) s') ∨
   (∃ FR s',ac n Y wb73_0 none fr s=.ret FR s'/\(FR.ds=[]/\(∃ j:Nat,FR.get 4=some (ZI j)/\j < xs.length/\Fin j s'))):=by
  intro k fr s hk aI g8 hi
  have hx:xs[k]?=some xs[k]:=Qn hk
  generalize xs[k]=x at hx
  obtain⟨p,ia,ld⟩:=RE.at aD hx
  have ld:=ld s (hI k s hi)
  obtain⟨b,s',hc,h1,h2⟩:=dZ k x s hx hi
  have cz:((gT n).cg Y).fn q (.int .i64 x::caps) s=.ret (.bool b) s':=hc
  have q1:=aI.at (k:=0) (by decide) z0
  have q2:=aI.at (k:=1) (by decide) z1
  cases b with
  | true=>
   refine .inr ⟨?r0,s',?r1,?r2,⟨k,?r3,hk,h1 rfl⟩⟩
   case r1=>
    simp only[Rw,rQ,rA,wb73_0,q1,q2,g8,ia,ld,cz]
    rfl
   case r2=>exact aI.1.trans zd
   case r3=>simp only[Fr.get_set,↓reduceIte]
  | false=>
   refine .inl ⟨?v0,s',?v1,?v2,h2 rfl⟩
   case v1=>
    simp only[Rw,rQ,rA,wb73_0,q1,q2,g8,ia,ld,cz]
    rfl
   case v2=>repeat (first | exact Kp.refl | refine Kp.set (by decide) ?_)
 have d5:=RE.bound aD
 rcases kloop (Γ:=gT n) (Y:=Y) (m:=n) (N:=xs.length) (c:=9) (i:=8) (n:=7) (i2:=18) (ro:=none) (L:=[0,1,7]) (av:=av) (by decide) (by decide) (by decide) (by decide) z7 (by omega)
  (Q:=fun k _ s=>R3 k s) (fun _ _ _ _ _ _ h=>h) hB xs.length 0 av st n (by omega) (by omega) Kp.refl z8 h0
  with⟨FR,s',h1,h2,h3⟩|⟨FR,s',h1,h2,⟨j,h3,h4,h5⟩⟩
 ·refine⟨.negSucc 0,s',Ve (mf:=wf73) (fr:=FR.set 4 (some (.int .i64 (.negSucc 0)))) t73 rfl (.inl ?w1) (h2.1.trans zd) ?w2,.inl ⟨rfl,h3⟩⟩
  case w1=>
   refine (cp _ _).trans ?_
   simp only[Rw,rQ,rA,h1,Rx]
  case w2=>simp only[wf73,Rw,Fr.get_set,↓reduceIte]
 ·refine⟨.ofNat j,s',Ve (mf:=wf73) (fr:=FR) t73 rfl (.inl ?w3) h2 ?w4,.inr ⟨j,rfl,h4,h5⟩⟩
  case w3=>
   refine (cp _ _).trans ?_
   simp only[Rw,rQ,rA,h1,Rx]
  case w4=>simp only[wf73,Rw,h3]
theorem contains63_run{q n:Nat}{Y:Vi}{F:Nat->Prop}{aB:St}{sl:AV}{xs:List Int}{caps:List AV}{R3:Nat->St->Prop}{Fin:Nat->St->Prop}(aD:RE F aB sl xs)
  (hI:∀ k s,R3 k s->Vs F aB s)
  (dZ:∀ k x s,xs[k]?=some x->R3 k s->∃ b s',R n Y q (.int .i64 x::caps) s=.ret (.bool b) s'/\(b=true->Fin k s')/\(b=false->R3 (k+1) s'))
  (st:St) (h0:R3 0 st) (hn:xs.length < n):
  ∃ b s',R (n+2) Y 63 [sl,.func (.func q) [] caps] st=.ret (.bool b) s'/\((b=false/\R3 xs.length s')\/(b=true/\∃ j,j < xs.length/\Fin j s')):=by
 obtain⟨r,s',hr,hc⟩:=idx73_run aD hI dZ st h0 hn
 have fx:((gT (n+1)).cg Y).fn 73 [sl,.func (.func q) [] caps] st=.ret (.int .i64 r) s':=hr
 have hg:Vr false .geq (.int .i64 r) Z0=some (.bool (decide (r>=0))):=rfl
 refine⟨decide (r>=0),s',?_,?_⟩
 ·refine Ve (mf:=wf63) (fr:=?a0) t63 rfl (.inl ?a1) ?a2 ?a3
  case a1=>
   simp only[Rw,rQ,rA,wf63,fx,hg]
   rfl
  case a2=>rfl
  case a3=>simp only[wf63,Rw,Fr.get_set,↓reduceIte]
 ·rcases hc with⟨rfl,h⟩|⟨j,rfl,h1,h2⟩
  ·exact .inl ⟨rfl,h⟩
  ·exact .inr ⟨by simp,j,h1,h2⟩
def wb162_0:Vn:=(ZQ [ZV 10 8,ZV 5 10]
 (ZQ [ZV 11 1,ZV 12 0,ZV 13 5,ZP 14 2 12 13,ZK 15 2 14,ZO 16 (.call (.t 11) [(.t 15)])]
 (.cond (.t 16)
 (ZR [ZV 17 5,ZV 4 17])
 .skip)))
def wf162:Vm:=⟨19,(ZQ [ZM 4 (ZC 0)]
 (.seq (ZQ [ZV 6 0,ZN 7 6,ZM 8 (ZC 0)]
 (.block 0 (.loop (lb 9 8 7 18 wb162_0))))
 (ZR [ZM 4 (.c (.int .i64 (.negSucc 0)))]))),[.t 4]⟩
theorem t162:Ry 162=some wf162:=by kernel_rfl
def wf113:Vm:=⟨9,(ZQ [ZM 4 (ZB false)]
 (ZR [ZV 5 0,ZV 6 1,ZX 7 162 [(.t 5),(.t 6)],ZO 8 (.bin false .geq (.t 7) (ZC 0)),ZV 4 8])),[.t 4]⟩
theorem t113:Ry 113=some wf113:=by kernel_rfl
theorem idx162_run{q n:Nat}{Y:Vi}{F:Nat->Prop}{aB:St}{sl:AV}{xs:List (List AV)}{caps:List AV}{R3:Nat->St->Prop}{Fin:Nat->St->Prop}(aD:RB 2 F aB sl xs)
  (hI:∀ k s,R3 k s->Vs F aB s)
  (dZ:∀ k x s,xs[k]?=some x->R3 k s->∃ b s',R n Y q (.agg x::caps) s=.ret (.bool b) s'/\(b=true->Fin k s')/\(b=false->R3 (k+1) s'))
  (st:St) (h0:R3 0 st) (hn:xs.length < n):
  ∃ r s',R (n+1) Y 162 [sl,.func (.func q) [] caps] st=.ret (.int .i64 r) s'/\((r=.negSucc 0/\R3 xs.length s')\/(∃ j:Nat,r=.ofNat j/\j < xs.length/\Fin j s')):=by
 have al:=aD.len st
 obtain⟨av,cp,z0,z1,z7,z8,zd⟩:∃ av,(∀ L T,ac n Y (ZQ [ZM 4 (ZC 0)] (.seq (ZQ [ZV 6 0,ZN 7 6,ZM 8 (ZC 0)] L) T)) none (Vo 0 [sl,.func (.func q) [] caps] Fr.nil) st=match ac n Y L none av st with
    | .norm fr st=>ac n Y T none fr st
    | r=>r)
   /\ av.get 0=some sl/\av.get 1=some (.func (.func q) [] caps)/\av.get 7=some (ZI xs.length)/\av.get 8=some Z0/\av.ds=[]:=by
  refine⟨?f0,?f1,?f2,?f3,?f4,?f5,?f7⟩
  case f1=>
   intro L T
   simp only[Rw,rQ,rA,al]
   rfl
  case f2=>simp only[Vo,Fr.get_set,rA,rQ,↓reduceIte]
  case f3=>simp only[Vo,Fr.get_set,rA,rQ,↓reduceIte]
  case f4=>simp only[Fr.get_set,rQ,↓reduceIte]
  case f5=>simp only[Fr.get_set,↓reduceIte]
  case f7=>rfl
 have Rx:Nat.beq 0 0=true:=rfl
 have hB:∀ k fr s,k < xs.length->Kp [0,1,7] av fr->fr.get 8=some (ZI k)->R3 k s ->
   (∃ FR s',ac n Y wb162_0 none fr s=.norm FR s'/\Kp [8,0,1,7] fr FR/\R3 (k+1) s') ∨
   (∃ FR s',ac n Y wb162_0 none fr s=.ret FR s'/\(FR.ds=[]/\(∃ j:Nat,FR.get 4=some (ZI j)/\j < xs.length/\Fin j s'))):=by
  intro k fr s hk aI g8 hi
  have hx:xs[k]?=some xs[k]:=Qn hk
  generalize xs[k]=x at hx
  obtain⟨p,ia,ld⟩:=aD.at hx
  have ld:=ld s (hI k s hi)
  obtain⟨b,s',hc,h1,h2⟩:=dZ k x s hx hi
  have cz:((gT n).cg Y).fn q (.agg x::caps) s=.ret (.bool b) s':=hc
  have q1:=aI.at (k:=0) (by decide) z0
  have q2:=aI.at (k:=1) (by decide) z1
  cases b with
  | true=>
   refine .inr ⟨?r0,s',?r1,?r2,⟨k,?r3,hk,h1 rfl⟩⟩
   case r1=>
    simp only[Rw,rQ,rA,wb162_0,q1,q2,g8,ia,ld,cz]
    rfl
   case r2=>exact aI.1.trans zd
   case r3=>simp only[Fr.get_set,↓reduceIte]
  | false=>
   refine .inl ⟨?v0,s',?v1,?v2,h2 rfl⟩
   case v1=>
    simp only[Rw,rQ,rA,wb162_0,q1,q2,g8,ia,ld,cz]
    rfl
   case v2=>repeat (first | exact Kp.refl | refine Kp.set (by decide) ?_)
 have d5:=aD.2.2.1
 rcases kloop (Γ:=gT n) (Y:=Y) (m:=n) (N:=xs.length) (c:=9) (i:=8) (n:=7) (i2:=18) (ro:=none) (L:=[0,1,7]) (av:=av) (by decide) (by decide) (by decide) (by decide) z7 (by omega)
  (Q:=fun k _ s=>R3 k s) (fun _ _ _ _ _ _ h=>h) hB xs.length 0 av st n (by omega) (by omega) Kp.refl z8 h0
  with⟨FR,s',h1,h2,h3⟩|⟨FR,s',h1,h2,⟨j,h3,h4,h5⟩⟩
 ·refine⟨.negSucc 0,s',Ve (mf:=wf162) (fr:=FR.set 4 (some (.int .i64 (.negSucc 0)))) t162 rfl (.inl ?w1) (h2.1.trans zd) ?w2,.inl ⟨rfl,h3⟩⟩
  case w1=>
   refine (cp _ _).trans ?_
   simp only[Rw,rQ,rA,h1,Rx]
  case w2=>simp only[wf162,Rw,Fr.get_set,↓reduceIte]
 ·refine⟨.ofNat j,s',Ve (mf:=wf162) (fr:=FR) t162 rfl (.inl ?w3) h2 ?w4,.inr ⟨j,rfl,h4,h5⟩⟩
  case w3=>
   refine (cp _ _).trans ?_
   simp only[Rw,rQ,rA,h1,Rx]
  case w4=>simp only[wf162,Rw,h3]
theorem contains113_run{q n:Nat}{Y:Vi}{F:Nat->Prop}{aB:St}{sl:AV}{xs:List (List AV)}{caps:List AV}{R3:Nat->St->Prop}{Fin:Nat->St->Prop}(aD:RB 2 F aB sl xs)
  (hI:∀ k s,R3 k s->Vs F aB s)
  (dZ:∀ k x s,xs[k]?=some x->R3 k s->∃ b s',R n Y q (.agg x::caps) s=.ret (.bool b) s'/\(b=true->Fin k s')/\(b=false->R3 (k+1) s'))
  (st:St) (h0:R3 0 st) (hn:xs.length < n):
  ∃ b s',R (n+2) Y 113 [sl,.func (.func q) [] caps] st=.ret (.bool b) s'/\((b=false/\R3 xs.length s')\/(b=true/\∃ j,j < xs.length/\Fin j s')):=by
 obtain⟨r,s',hr,hc⟩:=idx162_run aD hI dZ st h0 hn
 have fx:((gT (n+1)).cg Y).fn 162 [sl,.func (.func q) [] caps] st=.ret (.int .i64 r) s':=hr
 have hg:Vr false .geq (.int .i64 r) Z0=some (.bool (decide (r>=0))):=rfl
 refine⟨decide (r>=0),s',?_,?_⟩
 ·refine Ve (mf:=wf113) (fr:=?a0) t113 rfl (.inl ?a1) ?a2 ?a3
  case a1=>
   simp only[Rw,rQ,rA,wf113,fx,hg]
   rfl
  case a2=>rfl
  case a3=>simp only[wf113,Rw,Fr.get_set,↓reduceIte]
 ·rcases hc with⟨rfl,h⟩|⟨j,rfl,h1,h2⟩
  ·exact .inl ⟨rfl,h⟩
  ·exact .inr ⟨by simp,j,h1,h2⟩
theorem any63{q n:Nat}{Y:Vi}{F:Nat->Prop}{sl:AV}{xs:List Int}{caps:List AV}{st:St}(aD:RE F st sl xs)(p:Int->Bool)(hp:∀ x∈xs,R n Y q (.int .i64 x::caps) st=.ret (.bool (p x)) st)(hn:xs.length < n):
  R (n+2) Y 63 [sl,.func (.func q) [] caps] st=.ret (.bool (xs.any p)) st:=by
 obtain⟨b,s',hr,hc⟩:=contains63_run (n:=n) (Y:=Y) (q:=q) (caps:=caps) (R3:=fun k s=>s=st/\(xs.take k).any p=false) (Fin:=fun k s=>s=st/\∃ x,xs[k]?=some x/\p x=true) aD (fun _ _ h=>by rw[h.1];exact Vs.refl _ _)
  (fun k x s hx hi=>by
   obtain⟨rfl,hi⟩:=hi
   refine⟨p x,s,hp x (Qr hx),fun h=>⟨rfl,x,hx,h⟩,fun h=>⟨rfl,?_⟩⟩
   rw[QT,hx,List.any_append,hi]
   simp[h]) st ⟨rfl,by simp⟩ hn
 rcases hc with⟨rfl,rfl,h⟩|⟨rfl,j,hj,rfl,x,hx,h⟩
 ·rw[QH] at h
  rw[hr,h]
 ·rw[hr,List.any_eq_true.2 ⟨x,Qr hx,h⟩]
end
end Go.AM.D32
