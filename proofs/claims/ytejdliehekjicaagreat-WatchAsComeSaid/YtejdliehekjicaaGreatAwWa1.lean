import Derived.Test.YtejdliehekjicaaGreatAwSh11
set_option maxRecDepth 100000
set_option linter.unusedSimpArgs false
namespace Go.AM.D32
open Go Go.AM
noncomputable section
open Nat renaming reduceEqDiff -> rQ, reduceAdd -> rA
def Ir(lo:Nat)(s:St)(sl:AV)(l:List Int):Prop:=(sl=.lst 0 [] true/\l=[])\/∃ id,sl=.own id 0 l.length 1 none l.length/\lo<=id/\id < s.next/\s.get id=some (.row (l.map (AV.int .i64)))
theorem Ir.len{lo:Nat}{s:St}{sl:AV}{l:List Int}(h:Ir lo s sl l)(s':St):(bif VD 0 sl then Wm s' sl else none)=some (ZI l.length):=by
 rcases h with⟨rfl,rfl⟩|⟨id,rfl,_⟩<;>rfl
theorem Ir.at{lo:Nat}{s:St}{sl:AV}{l:List Int}(h:Ir lo s sl l){k:Nat}{x:Int}(hx:l[k]?=some x):∃ p,VC 1 sl (ZI k)=some p/\Vf false 1 s p=some (.int .i64 x):=by
 have hk:=(Qt.1 hx).1
 rcases h with⟨_,rfl⟩|⟨id,rfl,_,_,hg⟩
 ·simp at hk
 ·refine⟨.ptr id (0+k*1),?_,?_⟩
  ·simp only[VC]
   rw[Qo (show k+1<=l.length from hk)];rfl
  ·simp only[Vf,Wy,hg,Qg,Q7,XP]
   have:((l.map (AV.int .i64)).drop k).take 1=[.int .i64 x]:=by
    rw[XO (by simpa using hk)]
    simp only[Xf,Xe,List.getElem_map]
    have:=(Qt.1 hx).2
    rw[this]
   rw[this];rfl
theorem Ir.app{lo:Nat}{s:St}{sl:AV}{l:List Int}(h:Ir lo s sl l)(x:Int)(hlo:lo<=s.next)(hb:l.length<=100000):
  ∃ sl' s',VX 8 1 s sl 1 [.int .i64 x]=some (sl',s')/\s.next<=s'.next/\(∀ i,i < lo->s'.get i=s.get i)/\Ir lo s' sl' (l++[x]):=by
 rcases h with⟨rfl,rfl⟩|⟨id,rfl,hid,hid2,hg⟩
 ·exact⟨.own s.next 0 (0+1) 1 none (0+1),s.new (.row [.int .i64 x]),rfl,by simp,fun i hi=>by rw[St.get_new,Qe (by omega)],.inr ⟨s.next,rfl,hlo,by simp,by rw[St.get_new,Qm rfl];rfl⟩⟩
 ·refine⟨.own s.next 0 (l.length+1) 1 none (l.length+1),(s.del id).new (.row (l.map (AV.int .i64)++[.int .i64 x])),?_,by simp[St.del,St.new],fun i hi=>?_,.inr ⟨s.next,by simp,hlo,by simp[St.del,St.new],?_⟩⟩
  ·have h0:Nat.beq 1 0=false:=rfl
   have h1:((l.length+1)*8).ble 140737488355328=true:=Qo (by omega)
   have h2:(l.length+1).ble 140737488355328=true:=Qo (by omega)
   have h3:(0+l.length*1).ble (l.map (AV.int .i64)).length=true:=Qo (by simp)
   have h4:KY (l.length+1) l.length none=none:=by
    have:(l.length+1).ble l.length=false:=by
     cases hc:(l.length+1).ble l.length with
     | false=>rfl
     | true=>have:=Qk hc;omega
    simp only[KY,this];rfl
   have h5:(l.length*1).beq (l.map (AV.int .i64)).length=true:=by rw[Qu,XP];exact QD _
   have h6:[AV.int .i64 x].all AV.one=true:=rfl
   unfold VX
   simp only[h0,Qq,hg,h1,h2,h3,h4,h5,h6];rfl
  ·rw[St.get_new,Qe (by simp only[St.next_del];omega),St.get_del,Qe (by omega)]
  ·have:(s.del id).next=s.next:=rfl
   rw[<-this,St.get_new,Qm rfl];simp
def g215_0:List Vc:=[ZV 12 0,ZV 13 5,ZP 14 1 12 13,ZL 15 14,ZV 16 1,ZO 17 (.bin false .eql (.t 15) (.t 16))]
def UV:Vn:=(ZQ g215_0
 (.cond (.t 17)
 (ZR [ZM 4 (ZB true)])
 .skip))
def cf215_0:List Vc:=[ZV 6 5,ZV 7 0,ZN 8 7,ZO 9 (.bin false .lss (.t 6) (.t 8))]
def kf215:Vm:=⟨18,(ZQ [ZM 4 (ZB false)]
 (.seq (ZQ [ZM 5 (ZC 0)]
 (.block 0 (.loop (lb2 9 5 10 11 0 1 cf215_0 UV))))
 (ZR [ZM 4 (ZB false)]))),[.t 4]⟩
theorem t267:tbl 267=some kf215:=by kernel_rfl
def g168_0:List Vc:=[ZA 26 2 2,ZL 27 26,ZV 28 5,ZP 29 3 27 28,ZK 30 3 29,ZV 31 1,ZX 32 213 [(.t 30),(.t 31)],ZV 1 32]
def g168_2:List Vc:=[ZA 6 0 2,ZL 7 6,ZO 8 (.bin false .eql (.t 7) (ZC 1))]
def g168_3:List Vc:=[ZV 9 1,ZA 10 1 2,ZL 11 10,ZX 12 267 [(.t 9),(.t 11)]]
def g168_5:List Vc:=[ZV 14 1,ZA 15 1 2,ZL 16 15,ZO 17 (.bslice 1 [Z0] [(0,1,(.t 16))]),ZO 18 (.append 8 1 none (.t 14) (.t 17)),ZV 4 18]
def bf168_0:Vn:=(.region g168_0)
def cf168_0:List Vc:=[ZV 19 5,ZA 20 2 2,ZL 21 20,ZN 22 21,ZO 23 (.bin false .lss (.t 19) (.t 22))]
def Uw:Vm:=⟨34,(ZQ [ZO 2 (.box true (.t 0)),ZM 4 (.c .nilsl)]
 (.seq (ZQ g168_2
 (.cond (.t 8)
 (.seq (ZQ g168_3
 (.cond (.t 12)
 (ZR [ZV 13 1,ZV 4 13])
 .skip))
 (ZR g168_5))
 .skip))
 (.seq (ZQ [ZM 5 (ZC 0)]
 (.block 0 (.loop (lb2 23 5 24 25 0 1 cf168_0 bf168_0))))
 (ZR [ZV 33 1,ZV 4 33])))),[.t 4]⟩
theorem t213:tbl 213=some Uw:=by kernel_rfl
def g167_0:List Vc:=[ZV 10 0,ZV 11 3,ZP 12 3 10 11,ZK 13 3 12,ZX 14 154 [(.t 13)],ZO 15 (.un .not (.t 14))]
def US:Vn:=(ZQ g167_0
 (.cond (.t 15)
 (ZR [ZM 2 (ZB false)])
 .skip))
def cf167_0:List Vc:=[ZV 4 3,ZV 5 0,ZN 6 5,ZO 7 (.bin false .lss (.t 4) (.t 6))]
def kf167:Vm:=⟨16,(ZQ [ZM 2 (ZB false)]
 (.seq (ZQ [ZM 3 (ZC 0)]
 (.block 0 (.loop (lb2 7 3 8 9 0 1 cf167_0 US))))
 (ZR [ZM 2 (ZB true)]))),[.t 2]⟩
theorem t212:tbl 212=some kf167:=by kernel_rfl
def g141_0:List Vc:=[ZV 16 0,ZV 17 4,ZP 18 3 16 17,ZK 19 3 18,ZV 20 3,ZX 21 213 [(.t 19),(.t 20)],ZV 3 21]
def g141_3:List Vc:=[ZV 6 0,ZX 7 212 [(.t 6)],ZO 8 (.un .not (.t 7))]
def bf141_0:Vn:=(.region g141_0)
def cf141_0:List Vc:=[ZV 10 4,ZV 11 0,ZN 12 11,ZO 13 (.bin false .lss (.t 10) (.t 12))]
def kf141:Vm:=⟨23,(ZQ [ZM 2 (.c .nilsl)]
 (ZQ [ZO 5 (.bslice 0 [] []),ZV 3 5]
 (.seq (ZQ g141_3
 (.cond (.t 8)
 (ZR [ZV 9 3,ZV 2 9])
 .skip))
 (.seq (ZQ [ZM 4 (ZC 0)]
 (.block 0 (.loop (lb2 13 4 14 15 0 1 cf141_0 bf141_0))))
 (ZR [ZV 22 3,ZV 2 22]))))),[.t 2]⟩
theorem t155:tbl 155=some kf141:=by kernel_rfl
def g116_1:List Vc:=[ZK 3 3 1,ZX 4 154 [(.t 3)],ZV 5 4,ZG 6 (.load true 3 (.t 1)) 5 true,ZG 7 (.bslice 1 [Z0,Z0,.nilsl] [(0,3,(.t 6))]) 5 true,ZG 8 (.call (.c (.func (.func 155) [] [])) [(.t 7)]) 5 true,ZG 9 (.len 0 (.t 8)) 5 true,ZG 10 (.bin false .eql (.t 9) (ZC 0)) 5 true,ZO 11 (.pick (.t 5) (.t 10) (ZB false)),ZV 2 11]
def kf116:Vm:=⟨12,(ZQ [ZO 1 (.box true (.t 0)),ZM 2 (ZB false)]
 (ZR g116_1)),[.t 2]⟩
theorem t105:tbl 105=some kf116:=by kernel_rfl
theorem in_run{lo:Nat}{st:St}{sl:AV}{l:List Int}(h:Ir lo st sl l)(x:Int)(n:Nat)(Y:Vi)(hn:l.length+1 < n)(hb:l.length<=100000):R n Y 267 [sl,.int .i64 x] st=.ret (.bool (decide (x∈l))) st:=by
 obtain⟨m,rfl⟩:∃ m,n=m+1:=⟨n - 1,by omega⟩
 have b00:Nat.beq 0 0=true:=rfl
 have hlen:=h.len st
 obtain⟨fA1,hA1⟩:∃ fA,fA=Vo 0 [sl,.int .i64 x] Fr.nil:=⟨_,rfl⟩
 have gA1_0:=gAt hA1 0
 have gA1_1:=gAt hA1 1
 have dA1:fA1.ds=[]:=by rw[hA1];rfl
 obtain⟨J2,H2,O2_4⟩:∃ fr',ar m Y [ZM 4 (ZB false)] fA1 st=.ok fr' st/\fr'.get 4=some (.bool false):=⟨_,by simp only[amE,rQ,rA]<;>rfl,gh⟩
 obtain⟨J3,H3,O3_5⟩:∃ fr',ar m Y [ZM 5 (ZC 0)] J2 st=.ok fr' st/\fr'.get 5=some Z0:=⟨_,by simp only[amE,rQ,rA]<;>rfl,gh⟩
 have V3_0:=ag H3 (ag H2 gA1_0)
 have W3:=ad H3 (ad H2 dA1)
 have hC:∀ k fr s,k<=l.length->Kp [0,1] J3 fr->fr.get 5=some (ZI k)->(s=st/\x∉l.take k) ->
   ∃ fr',ar m Y cf215_0 fr s=.ok fr' s/\Kp [5,0,1] fr fr'/\fr'.get 9=some (.bool (decide (k < l.length)))/\(s=st/\x∉l.take k):=by
  intro k fr s hk hkp gi ⟨hst,hq⟩
  subst hst
  have q0:=hkp.at (k:=0) (by decide) V3_0
  refine⟨?c0,?c1,?c2,?c3,rfl,hq⟩
  case c1=>
   simp only[amE,rQ,rA,cf215_0,q0,gi,hlen,lssD]
   rfl
  case c2=>repeat (first | exact Kp.refl | refine Kp.set (by decide) ?_)
  case c3=>simp only[Fr.get_set,rQ,↓reduceIte]
 have hB:∀ k fr s,k < l.length->Kp [0,1] J3 fr->fr.get 5=some (ZI k)->(s=st/\x∉l.take k) ->
   (∃ FR s',ac m Y UV none fr s=.norm FR s'/\Kp [5,0,1] fr FR/\(s'=st/\x∉l.take (k+1))) ∨
   (∃ FR s',ac m Y UV none fr s=.ret FR s'/\(s'=st/\FR.ds=[]/\FR.get 4=some (.bool true)/\x∈l)):=by
  intro k fr s hk hkp gi ⟨hst,hq⟩
  subst hst
  obtain⟨y,hy,-⟩:=WR hk
  obtain⟨p,ia,ld⟩:=h.at hy
  have q0:=hkp.at (k:=0) (by decide) V3_0
  have q1:=hkp.at (k:=1) (by decide) (ag H3 (ag H2 gA1_1))
  have eq:Vr false .eql (.int .i64 y) (.int .i64 x)=some (.bool (y==x)):=rfl
  have htk:l.take (k+1)=l.take k++[y]:=by rw[QT,hy];rfl
  generalize hE:(y==x)=E at *
  obtain⟨J4,H4,K4,O4_17⟩:∃ fr',ar m Y g215_0 fr s=.ok fr' s/\Kp [0,1,5] fr fr'/\fr'.get 17=some (.bool E):=⟨_,by simp only[amE,rQ,rA,q0,q1,gi,g215_0,ia,ld,eq]<;>rfl,Kp.refl.s.s.s.s.s.s,gh⟩
  cases E with
  | false=>
   refine .inl ⟨J4,s,?q4,K4.sub (by decide),rfl,?r4⟩
   case q4=>simp only[amE,rQ,rA,UV,H4,O4_17]
   case r4=>
    have:y≠x:=by simpa using hE
    rw[htk];simp only[QV,Xd,Z8];exact⟨hq,fun e=>this e.symm⟩
  | true=>
   obtain⟨J5,H5,O5_4⟩:∃ fr',ar m Y [ZM 4 (ZB true)] J4 s=.ok fr' s/\fr'.get 4=some (.bool true):=⟨_,by simp only[amE,rQ,rA]<;>rfl,gh⟩
   refine .inr ⟨J5,s,?q5,rfl,ad H5 (K4.1.trans (hkp.1.trans W3)),O5_4,?z5⟩
   case q5=>simp only[amE,rQ,rA,UV,H4,H5,O4_17]
   case z5=>
    have:y=x:=by simpa using hE
    rw[<-this];exact Qr hy
 rcases U4 (Γ:=(gT m)) (Y:=Y) (m:=m) (N:=l.length) (c:=9) (i:=5) (j1:=10) (j2:=11) (b:=0) (b1:=1) (ro:=none) (C:=cf215_0) (B:=UV) (L:=[0,1]) (fr0:=J3) (by decide) (by decide) (by decide) (by omega)
  (Q:=fun k _ s=>s=st/\x∉l.take k) (fun _ _ _ _ _ _ h=>h) hC hB l.length 0 J3 st m (by omega) (by omega) Kp.refl O3_5 ⟨rfl,by simp⟩
  with⟨FR,s',h1,h2,h3,h4⟩|⟨FR,s',h1,h2,h3,h4,h5⟩
 ·subst h3
  rw[QH] at h4
  rw[Qp h4]
  refine Ve (mf:=kf215) (fr:=FR.set 4 (some (.bool false))) t267 rfl (.inl ?w1) (h2.1.trans W3) ?w2
  case w1=>
   rw[<-hA1]
   simp only[amE,rQ,rA,kf215,b00,H2,H3,h1]
  case w2=>simp only[kf215,Vg,Vu,V0,Fr.get_set,↓reduceIte,Qg,Ql]
 ·subst h2
  rw[Qs h5]
  refine Ve (mf:=kf215) (fr:=FR) t267 rfl (.inl ?w3) h3 (by simp only[kf215,Vg,Vu,V0,h4,Qg,Ql])
  case w3=>
   rw[<-hA1]
   simp only[amE,rQ,rA,kf215,b00,H2,H3,h1]
mutual
theorem vT_len:∀(t:Tm) (o:List Int),(vT t o).length<=o.length+t.size
 | .mk k n _ _ l,o=>by
  unfold vT Tm.size
  split
  ·split
   ·omega
   ·simp
  ·have:=vL_len l o;omega
theorem vL_len:∀(l:List Tm) (o:List Int),(vL l o).length<=o.length+Tm.sizeL l
 | [],o=>by rw[vL_nil];omega
 | t::l,o=>by
  rw[Tf]
  have h1:=vT_len t o
  have h2:=vL_len l (vT t o)
  unfold Tm.sizeL;omega
end
theorem vL_take:∀(l:List Tm) (k:Nat) (t:Tm) (o:List Int),l[k]?=some t->vL (l.take (k+1)) o=vT t (vL (l.take k) o)
 | [],k,t,o,h=>by simp at h
 | x::l,0,t,o,h=>by
  simp only[Q0,Qa] at h;subst h
  simp only[Xf,Xe,Tf,vL_nil]
 | x::l,k+1,t,o,h=>by
  simp only[QE] at h
  simp only[Xf,Tf]
  exact vL_take l k t _ h
theorem sizeL_take:∀(l:List Tm) (k:Nat) (t:Tm),l[k]?=some t->Tm.sizeL (l.take k)+t.size<=Tm.sizeL l
 | [],k,t,h=>by simp at h
 | x::l,0,t,h=>by
  simp only[Q0,Qa] at h;subst h
  simp only[Xe,Tm.sizeL];omega
 | x::l,k+1,t,h=>by
  simp only[QE] at h
  have:=sizeL_take l k t h
  simp only[Xf,Tm.sizeL];omega
def VarsR(n:Nat)(Y:Vi)(t:Tm):Prop:=∀(F:Nat->Prop) (lo:Nat) (st:St) (cs:List AV) (sl:AV) (o:List Int),We F st t cs->(∀ i,F i->i < lo)->lo<=st.next->Ir lo st sl o->o.length+t.size<=50000->o.length+t.size+2 < n->t.fz<=n ->
 ∃ sl' st',R n Y 213 [.agg cs,sl] st=.ret sl' st'/\st.next<=st'.next/\(∀ i,i < lo->st'.get i=st.get i)/\Ir lo st' sl' (vT t o)
theorem vars_run(t:Tm):∀(n:Nat) (Y:Vi),VarsR n Y t:=by
 induction hs:t.fz using Nat.strongRecOn generalizing t with
 | _ s ih=>
 intro n Y F lo st cs sl o hr hF hlo hir hb hn hfn
 cases t with
 | mk k0 n0 nl ex l=>
 simp only[We] at hr
 obtain⟨sk,xs,rfl,hsl,hrs⟩:=hr
 simp only[Tm.fz] at hs
 simp only[Tm.size] at hb hn
 simp only[Tm.fz] at hfn
 obtain⟨m,rfl⟩:∃ m,n=m+1:=⟨n - 1,by omega⟩
 have b00:Nat.beq 0 0=true:=rfl
 have hxl:=hrs.len
 have e1:Vr false .eql (.int .i64 k0) (ZI 1)=some (.bool (k0==1)):=rfl
 have cin:((gT m).cg Y).fn 267 [sl,.int .i64 n0] st=.ret (.bool (decide (n0∈o))) st:=in_run hir n0 m Y (by omega) (by omega)
 have hv:vT (.mk k0 n0 nl ex l) o=if k0=1 then (if n0∈o then o else o++[n0]) else vL l o:=by conv=>lhs;unfold vT
 rw[hv]
 generalize hB:(k0==1)=B at *
 obtain⟨fA6,hA6⟩:∃ fA,fA=Vo 0 [.agg [.int .i64 k0,.int .i64 n0,sk],sl] Fr.nil:=⟨_,rfl⟩
 have gA6_0:=gAt hA6 0
 have gA6_1:=gAt hA6 1
 have dA6:fA6.ds=[]:=by rw[hA6];rfl
 obtain⟨J7,H7,O7_2,O7_4⟩:∃ fr',ar m Y [ZO 2 (.box true (.t 0)),ZM 4 (.c .nilsl)] fA6 st=.ok fr' st/\fr'.get 2=some (.fptr [.int .i64 k0,.int .i64 n0,sk] 0)/\fr'.get 4=some (.nilsl):=⟨_,by simp only[amE,rQ,rA,gA6_0]<;>rfl,gn gh,gh⟩
 obtain⟨J8,H8,O8_8⟩:∃ fr',ar m Y g168_2 J7 st=.ok fr' st/\fr'.get 8=some (.bool B):=⟨_,by simp only[amE,rQ,rA,O7_2,g168_2,faf,Y7,e1]<;>rfl,gh⟩
 have V8_1:=ag H8 (ag H7 gA6_1)
 have V8_2:=ag H8 O7_2
 have W8:=ad H8 (ad H7 dA6)
 cases B with
 | true=>
  rw[Qm (by simpa using hB)]
  generalize hI:decide (n0∈o)=I at *
  obtain⟨J9,H9,O9_12⟩:∃ fr',ar m Y g168_3 J8 st=.ok fr' st/\fr'.get 12=some (.bool I):=⟨_,by simp only[amE,rQ,rA,V8_1,V8_2,g168_3,faf,Yg,cin]<;>rfl,gh⟩
  have V9_1:=ag H9 V8_1
  have V9_2:=ag H9 V8_2
  have W9:=ad H9 W8
  cases I with
  | true=>
   obtain⟨J10,H10,O10_4⟩:∃ fr',ar m Y [ZV 13 1,ZV 4 13] J9 st=.ok fr' st/\fr'.get 4=some (sl):=⟨_,by simp only[amE,rQ,rA,V9_1]<;>rfl,gh⟩
   refine⟨sl,st,Ve (mf:=Uw) (fr:=J10) t213 rfl (.inl ?q10) (ad H10 W9) (by simp only[Uw,Vg,Vu,V0,O10_4,Qg,Ql]),Qw _,fun _ _=>rfl,by rw[Qm (ZD hI)];exact hir⟩
   case q10=>
    rw[<-hA6]
    simp only[amE,rQ,rA,Uw,b00,H7,H8,H9,H10,O8_8,O9_12]
  | false=>
   obtain⟨sl',st',happ,hnx,hsm,hir'⟩:=hir.app n0 hlo (by omega)
   have fl:VN [ZI 0] [(0,1,.int .i64 n0)]=some [.int .i64 n0]:=rfl
   have ct:Wd 1 st (.lst 1 [.int .i64 n0] true)=some (1,[.int .i64 n0]):=rfl
   obtain⟨J11,H11,O11_4⟩:∃ fr',ar m Y g168_5 J9 st=.ok fr' st'/\fr'.get 4=some (sl'):=⟨_,by simp only[amE,rQ,rA,V9_1,V9_2,g168_5,faf,Yg,fl,ct,happ,tag0]<;>rfl,gh⟩
   refine⟨sl',st',Ve (mf:=Uw) (fr:=J11) t213 rfl (.inl ?q11) (ad H11 W9) (by simp only[Uw,Vg,Vu,V0,O11_4,Qg,Ql]),hnx,hsm,by rw[Qe (of_decide_eq_false hI)];exact hir'⟩
   case q11=>
    rw[<-hA6]
    simp only[amE,rQ,rA,Uw,b00,H7,H8,H9,H11,O8_8,O9_12]
 | false=>
  rw[Qe (by simpa using hB)]
  obtain⟨J12,H12,O12_5⟩:∃ fr',ar m Y [ZM 5 (ZC 0)] J8 st=.ok fr' st/\fr'.get 5=some Z0:=⟨_,by simp only[amE,rQ,rA]<;>rfl,gh⟩
  have V12_2:=ag H12 V8_2
  have hC:∀ k fr s,k<=xs.length->Kp [2] J12 fr->fr.get 5=some (ZI k)->(st.next<=s.next/\(∀ i,i < lo->s.get i=st.get i)/\∃ sk,fr.get 1=some sk/\Ir lo s sk (vL (l.take k) o)) ->
    ∃ fr',ar m Y cf168_0 fr s=.ok fr' s/\Kp [5,2] fr fr'/\fr'.get 23=some (.bool (decide (k < xs.length)))/\(st.next<=s.next/\(∀ i,i < lo->s.get i=st.get i)/\∃ sk,fr'.get 1=some sk/\Ir lo s sk (vL (l.take k) o)):=by
   intro k fr s hk hkp gi ⟨hnx,hsm,sq,q1,hq⟩
   have q2:=hkp.at (k:=2) (by decide) V12_2
   have hlen:=hsl.len s
   refine⟨?c0,?c1,?c2,?c3,hnx,hsm,sq,?c4,hq⟩
   case c1=>
    simp only[amE,rQ,rA,cf168_0,q2,gi,faf,WB,hlen,lssD]
    rfl
   case c2=>repeat (first | exact Kp.refl | refine Kp.set (by decide) ?_)
   case c3=>simp only[Fr.get_set,rQ,↓reduceIte]
   case c4=>simp only[Fr.get_set,rQ,↓reduceIte,q1]
  have hB:∀ k fr s,k < xs.length->Kp [2] J12 fr->fr.get 5=some (ZI k)->(st.next<=s.next/\(∀ i,i < lo->s.get i=st.get i)/\∃ sk,fr.get 1=some sk/\Ir lo s sk (vL (l.take k) o)) ->
    (∃ FR s',ac m Y bf168_0 none fr s=.norm FR s'/\Kp [5,2] fr FR/\(st.next<=s'.next/\(∀ i,i < lo->s'.get i=st.get i)/\∃ sk,FR.get 1=some sk/\Ir lo s' sk (vL (l.take (k+1)) o))) ∨
    (∃ FR s',ac m Y bf168_0 none fr s=.ret FR s'/\False):=by
   intro k fr s hk hkp gi ⟨hnx,hsm,sq,q1,hq⟩
   obtain⟨t,ht,hdr⟩:=WR (l:=l) (k:=k) (by omega)
   obtain⟨x,hx,hrx⟩:=hrs.at ht
   obtain⟨p,ia,ld⟩:=hsl.at hx
   have hsame:Vs F st s:=fun i hi=>hsm i (hF i hi)
   have ld:=ld s hsame
   have hfz:=Tm.fzL_mem (Qr ht)
   have hsz:=sizeL_take l k t ht
   have hvl:=vL_len (l.take k) o
   obtain⟨s1,s',hcall,hnx',hsm',hir'⟩:=ih t.fz (by omega) t rfl m Y F lo s x sq (vL (l.take k) o) (hrx.mono hsame fun _ h=>h) hF (by omega) hq (by omega) (by omega) (by omega)
   have hcall':((gT m).cg Y).fn 213 [.agg x,sq] s=.ret s1 s':=hcall
   have q2:=hkp.at (k:=2) (by decide) V12_2
   obtain⟨J13,H13,K13,O13_1⟩:∃ fr',ar m Y g168_0 fr s=.ok fr' s'/\Kp [2,5] fr fr'/\fr'.get 1=some (s1):=⟨_,by simp only[amE,rQ,rA,q1,q2,gi,g168_0,faf,WB,ia,ld,hcall']<;>rfl,Kp.refl.s.s.s.s.s.s.s.s,gh⟩
   refine .inl ⟨J13,s',?q13,K13.sub (by decide),by omega,fun i hi=>(hsm' i hi).trans (hsm i hi),s1,O13_1,by rw[vL_take l k t o ht];exact hir'⟩
   case q13=>simp only[amE,rQ,rA,bf168_0,H13]
  rcases U4 (Γ:=(gT m)) (Y:=Y) (m:=m) (N:=xs.length) (c:=23) (i:=5) (j1:=24) (j2:=25) (b:=0) (b1:=1) (ro:=none) (C:=cf168_0) (B:=bf168_0) (L:=[2]) (fr0:=J12) (by decide) (by decide) (by decide) hsl.2.1
   (Q:=fun k fr s=>st.next<=s.next/\(∀ i,i < lo->s.get i=st.get i)/\∃ sk,fr.get 1=some sk/\Ir lo s sk (vL (l.take k) o)) (fun k fr s x v hx ⟨h1,h2,sk,h3,h4⟩=>⟨h1,h2,sk,by rw[Fr.get_set,Qe (by omega)];exact h3,h4⟩) hC hB xs.length 0 J12 st m (by omega) (by omega) Kp.refl O12_5 ⟨Qw _,fun _ _=>rfl,sl,(ag H12 V8_1),by simpa only [Xe,vL_nil] using hir⟩
   with⟨FR,s',h1,h2,h3,h4,sk',h5,h6⟩|⟨FR,s',h1,h2⟩
  ·rw[hxl,QH] at h6
   refine⟨sk',s',Ve (mf:=Uw) (fr:=(FR.set 33 (some sk')).set 4 (some sk')) t213 rfl (.inl ?w1) (h2.1.trans (ad H12 W8)) ?w2,h3,h4,h6⟩
   case w1=>
    rw[<-hA6]
    simp only[amE,rQ,rA,Uw,b00,H7,H8,H12,O8_8,h1,h5]
   case w2=>simp only[Uw,Vg,Vu,V0,Fr.get_set,↓reduceIte,Qg,Ql]
  ·exact absurd h2 id
theorem all_run(l:List Tm)(n:Nat)(Y:Vi)(F:Nat->Prop)(st:St)(sl:AV)(xs:List (List AV))(hsl:SlR F st sl xs)(hrs:Vy F st l xs)(hn:Tm.fzL l+l.length+2 < n):R n Y 212 [sl] st=.ret (.bool (l.all rIs)) st:=by
 obtain⟨m,rfl⟩:∃ m,n=m+1:=⟨n - 1,by omega⟩
 have b00:Nat.beq 0 0=true:=rfl
 have hxl:=hrs.len
 have hlen:=hsl.len st
 obtain⟨fA14,hA14⟩:∃ fA,fA=Vo 0 [sl] Fr.nil:=⟨_,rfl⟩
 have gA14_0:=gAt hA14 0
 have dA14:fA14.ds=[]:=by rw[hA14];rfl
 obtain⟨J15,H15,O15_2⟩:∃ fr',ar m Y [ZM 2 (ZB false)] fA14 st=.ok fr' st/\fr'.get 2=some (.bool false):=⟨_,by simp only[amE,rQ,rA]<;>rfl,gh⟩
 have W15:=ad H15 dA14
 obtain⟨J16,H16,O16_3⟩:∃ fr',ar m Y [ZM 3 (ZC 0)] J15 st=.ok fr' st/\fr'.get 3=some Z0:=⟨_,by simp only[amE,rQ,rA]<;>rfl,gh⟩
 have V16_0:=ag H16 (ag H15 gA14_0)
 have W16:=ad H16 W15
 have hC:∀ k fr s,k<=xs.length->Kp [0] J16 fr->fr.get 3=some (ZI k)->(s=st/\(l.drop k).all rIs=l.all rIs) ->
   ∃ fr',ar m Y cf167_0 fr s=.ok fr' s/\Kp [3,0] fr fr'/\fr'.get 7=some (.bool (decide (k < xs.length)))/\(s=st/\(l.drop k).all rIs=l.all rIs):=by
  intro k fr s hk hkp gi ⟨hst,hq⟩
  subst hst
  have q0:=hkp.at (k:=0) (by decide) V16_0
  refine⟨?c0,?c1,?c2,?c3,rfl,hq⟩
  case c1=>
   simp only[amE,rQ,rA,cf167_0,q0,gi,hlen,lssD]
   rfl
  case c2=>repeat (first | exact Kp.refl | refine Kp.set (by decide) ?_)
  case c3=>simp only[Fr.get_set,rQ,↓reduceIte]
 have hB:∀ k fr s,k < xs.length->Kp [0] J16 fr->fr.get 3=some (ZI k)->(s=st/\(l.drop k).all rIs=l.all rIs) ->
   (∃ FR s',ac m Y US none fr s=.norm FR s'/\Kp [3,0] fr FR/\(s'=st/\(l.drop (k+1)).all rIs=l.all rIs)) ∨
   (∃ FR s',ac m Y US none fr s=.ret FR s'/\(s'=st/\FR.ds=[]/\FR.get 2=some (.bool false)/\l.all rIs=false)):=by
  intro k fr s hk hkp gi ⟨hst,hq⟩
  subst hst
  obtain⟨t,ht,hdr⟩:=WR (l:=l) (k:=k) (by omega)
  obtain⟨x,hx,hrx⟩:=hrs.at ht
  obtain⟨p,ia,ld⟩:=hsl.at hx
  have ld:=ld s (Vs.refl _ _)
  have hfz:=Tm.fzL_mem (Qr ht)
  have hcall:((gT m).cg Y).fn 154 [.agg x] s=.ret (.bool (rIs t)) s:=is_run t m Y F s x hrx (by omega)
  have q0:=hkp.at (k:=0) (by decide) V16_0
  rw[hdr,QN] at hq
  generalize rIs t=ok at *
  obtain⟨J17,H17,K17,O17_15⟩:∃ fr',ar m Y g167_0 fr s=.ok fr' s/\Kp [0,3] fr fr'/\fr'.get 15=some (.bool (!ok)):=⟨_,by simp only[amE,rQ,rA,q0,gi,g167_0,ia,ld,hcall,unN,Qc,Qb]<;>rfl,Kp.refl.s.s.s.s.s.s,gh⟩
  cases ok with
  | true=>
   refine .inl ⟨J17,s,?q17,K17.sub (by decide),rfl,by simpa using hq⟩
   case q17=>simp only[amE,rQ,rA,US,H17,O17_15,Qc]
  | false=>
   obtain⟨J18,H18,O18_2⟩:∃ fr',ar m Y [ZM 2 (ZB false)] J17 s=.ok fr' s/\fr'.get 2=some (.bool false):=⟨_,by simp only[amE,rQ,rA]<;>rfl,gh⟩
   refine .inr ⟨J18,s,?q18,rfl,ad H18 (K17.1.trans (hkp.1.trans W16)),O18_2,by rw[<-hq];rfl⟩
   case q18=>simp only[amE,rQ,rA,US,H17,H18,O17_15,Qb]
 rcases U4 (Γ:=(gT m)) (Y:=Y) (m:=m) (N:=xs.length) (c:=7) (i:=3) (j1:=8) (j2:=9) (b:=0) (b1:=1) (ro:=none) (C:=cf167_0) (B:=US) (L:=[0]) (fr0:=J16) (by decide) (by decide) (by decide) hsl.2.1
  (Q:=fun k _ s=>s=st/\(l.drop k).all rIs=l.all rIs) (fun _ _ _ _ _ _ h=>h) hC hB xs.length 0 J16 st m (by omega) (by omega) Kp.refl O16_3 ⟨rfl,rfl⟩
  with⟨FR,s',h1,h2,h3,h4⟩|⟨FR,s',h1,h2,h3,h4,h5⟩
 ·subst h3
  rw[hxl,Xr,QW] at h4
  rw[<-h4]
  refine Ve (mf:=kf167) (fr:=FR.set 2 (some (.bool true))) t212 rfl (.inl ?w1) (h2.1.trans W16) ?w2
  case w1=>
   rw[<-hA14]
   simp only[amE,rQ,rA,kf167,b00,H15,H16,h1]
  case w2=>simp only[kf167,Vg,Vu,V0,Fr.get_set,↓reduceIte,Qg,Ql]
 ·subst h2
  rw[h5]
  refine Ve (mf:=kf167) (fr:=FR) t212 rfl (.inl ?w3) h3 (by simp only[kf167,Vg,Vu,V0,h4,Qg,Ql])
  case w3=>
   rw[<-hA14]
   simp only[amE,rQ,rA,kf167,b00,H15,H16,h1]
theorem rIs_size{t:Tm}(h:rIs t=true):t.size<=2000:=by
 unfold rIs at h
 simp only[Qd] at h
 have:=((rcT_spec t 2000 1 (by omega) (by omega) (by omega) (by omega)).1.1 h.1).1
 omega
theorem vars1_run(t:Tm)(n:Nat)(Y:Vi)(F:Nat->Prop)(st:St)(cs:List AV)(hr:We F st t cs)(hF:∀ i,F i->i < st.next)(hi:rIs t=true)(hn:t.fz+4000 < n):
  ∃ sl' st',R n Y 155 [.lst 1 cs true] st=.ret sl' st'/\Vd st st'/\Ir st.next st' sl' (vL [t] []):=by
 obtain⟨m,rfl⟩:∃ m,n=m+1:=⟨n - 1,by omega⟩
 have b00:Nat.beq 0 0=true:=rfl
 have hsz:=rIs_size hi
 have hsl:SlR F st (.lst 1 cs true) [cs]:=by
  have:=SlR.lst F st (n:=1) (xs:=[cs]) (ex:=true) (fun x hx=>by simp only[Xd] at hx;subst hx;exact hr.cells3) (by simp) rfl
  simpa using this
 have hrs:Vy F st [t] [cs]:=by simp only[Vy];exact⟨_,_,rfl,hr,rfl⟩
 have hz:Tm.fzL [t]=t.fz:=by simp[Tm.fzL]
 have call:((gT m).cg Y).fn 212 [.lst 1 cs true] st=.ret (.bool true) st:=by
  have:=all_run [t] m Y F st (.lst 1 cs true) [cs] hsl hrs (by rw[hz];simp;omega)
  simp only[QN,hi,QW,Qy] at this
  exact this
 obtain⟨sv,s1,cv,hnx,hsm,hir⟩:=vars_run t m Y F st.next st cs (.lst 0 [] true) [] hr hF (Qw _) (.inl ⟨rfl,rfl⟩) (by simp;omega) (by simp;omega) (by omega)
 have cv':((gT m).cg Y).fn 213 [.agg cs,.lst 0 [] true] st=.ret sv s1:=cv
 have fl:VN [] []=some []:=rfl
 obtain⟨p,ia,ld⟩:=hsl.at (k:=0) (x:=cs) rfl
 have ld:=ld st (Vs.refl _ _)
 have ln:∀ s:St,(bif VD 0 (.lst 1 cs true) then Wm s (.lst 1 cs true) else none)=some (ZI 1):=fun _=>rfl
 generalize (AV.lst 1 cs true)=sl at *
 obtain⟨fA19,hA19⟩:∃ fA,fA=Vo 0 [sl] Fr.nil:=⟨_,rfl⟩
 have gA19_0:=gAt hA19 0
 have dA19:fA19.ds=[]:=by rw[hA19];rfl
 obtain⟨J20,H20,O20_2⟩:∃ fr',ar m Y [ZM 2 (.c .nilsl)] fA19 st=.ok fr' st/\fr'.get 2=some (.nilsl):=⟨_,by simp only[amE,rQ,rA]<;>rfl,gh⟩
 have W20:=ad H20 dA19
 obtain⟨J21,H21,O21_3⟩:∃ fr',ar m Y [ZO 5 (.bslice 0 [] []),ZV 3 5] J20 st=.ok fr' st/\fr'.get 3=some (.lst 0 [] true):=⟨_,by simp only[amE,rQ,rA,fl]<;>rfl,gh⟩
 have V21_0:=ag H21 (ag H20 gA19_0)
 obtain⟨J22,H22,O22_8⟩:∃ fr',ar m Y g141_3 J21 st=.ok fr' st/\fr'.get 8=some (.bool false):=⟨_,by simp only[amE,rQ,rA,V21_0,g141_3,call,unN,Qc,Qb]<;>rfl,by simp only[Fr.get_set,rQ,↓reduceIte,amB]⟩
 obtain⟨J23,H23,O23_4⟩:∃ fr',ar m Y [ZM 4 (ZC 0)] J22 st=.ok fr' st/\fr'.get 4=some Z0:=⟨_,by simp only[amE,rQ,rA]<;>rfl,gh⟩
 have V23_0:=ag H23 (ag H22 V21_0)
 have hC:∀ k fr s,k<=1->Kp [0] J23 fr->fr.get 4=some (ZI k)->((k=0->s=st/\fr.get 3=some (.lst 0 [] true))/\(k=1->s=s1/\fr.get 3=some sv)) ->
   ∃ fr',ar m Y cf141_0 fr s=.ok fr' s/\Kp [4,0] fr fr'/\fr'.get 13=some (.bool (decide (k < 1)))/\((k=0->s=st/\fr'.get 3=some (.lst 0 [] true))/\(k=1->s=s1/\fr'.get 3=some sv)):=by
  intro k fr s hk hkp gi ⟨hq0,hq1⟩
  have q0:=hkp.at (k:=0) (by decide) V23_0
  have ln:=ln s
  refine⟨?c0,?c1,?c2,?c3,fun h=>⟨(hq0 h).1,?c4⟩,fun h=>⟨(hq1 h).1,?c5⟩⟩
  case c1=>
   simp only[amE,rQ,rA,cf141_0,q0,gi,ln,lssD]
   rfl
  case c2=>repeat (first | exact Kp.refl | refine Kp.set (by decide) ?_)
  case c3=>simp only[Fr.get_set,rQ,↓reduceIte]
  case c4=>simp only[Fr.get_set,rQ,↓reduceIte,(hq0 h).2]
  case c5=>simp only[Fr.get_set,rQ,↓reduceIte,(hq1 h).2]
 have hB:∀ k fr s,k < 1->Kp [0] J23 fr->fr.get 4=some (ZI k)->((k=0->s=st/\fr.get 3=some (.lst 0 [] true))/\(k=1->s=s1/\fr.get 3=some sv)) ->
   (∃ FR s',ac m Y bf141_0 none fr s=.norm FR s'/\Kp [4,0] fr FR/\((k+1=0->s'=st/\FR.get 3=some (.lst 0 [] true))/\(k+1=1->s'=s1/\FR.get 3=some sv))) ∨
   (∃ FR s',ac m Y bf141_0 none fr s=.ret FR s'/\False):=by
  intro k fr s hk hkp gi ⟨hq0,hq1⟩
  obtain rfl:k=0:=by omega
  obtain⟨rfl,q3⟩:=hq0 rfl
  have q0:=hkp.at (k:=0) (by decide) V23_0
  obtain⟨J24,H24,K24,O24_3⟩:∃ fr',ar m Y g141_0 fr s=.ok fr' s1/\Kp [0,4] fr fr'/\fr'.get 3=some (sv):=⟨_,by simp only[amE,rQ,rA,q0,q3,gi,g141_0,ia,ld,cv']<;>rfl,Kp.refl.s.s.s.s.s.s.s,gh⟩
  refine .inl ⟨J24,s1,?q24,K24.sub (by decide),fun h=>(by omega),fun _=>⟨rfl,O24_3⟩⟩
  case q24=>simp only[amE,rQ,rA,bf141_0,H24]
 rcases U4 (Γ:=(gT m)) (Y:=Y) (m:=m) (N:=1) (c:=13) (i:=4) (j1:=14) (j2:=15) (b:=0) (b1:=1) (ro:=none) (C:=cf141_0) (B:=bf141_0) (L:=[0]) (fr0:=J23) (by decide) (by decide) (by decide) (by decide)
  (Q:=fun k fr s=>(k=0->s=st/\fr.get 3=some (.lst 0 [] true))/\(k=1->s=s1/\fr.get 3=some sv)) (fun k fr s x v hx ⟨h1,h2⟩=>⟨fun h=>⟨(h1 h).1,by rw[Fr.get_set,Qe (by omega)];exact(h1 h).2⟩,fun h=>⟨(h2 h).1,by rw[Fr.get_set,Qe (by omega)];exact(h2 h).2⟩⟩) hC hB 1 0 J23 st m (by omega) (by omega) Kp.refl O23_4 ⟨fun _=>⟨rfl,(ag H23 (ag H22 O21_3))⟩,fun h=>(by cases h)⟩
  with⟨FR,s',h1,h2,-,h4⟩|⟨FR,s',h1,h2⟩
 ·obtain⟨rfl,h4⟩:=h4 rfl
  refine⟨sv,s',Ve (mf:=kf141) (fr:=(FR.set 22 (some sv)).set 2 (some sv)) t155 rfl (.inl ?w1) (h2.1.trans (ad H23 (ad H22 (ad H21 W20)))) ?w2,⟨hnx,hsm⟩,by rw[Tf,vL_nil];exact hir⟩
  case w1=>
   rw[<-hA19]
   simp only[amE,rQ,rA,kf141,b00,H20,H21,H22,H23,O22_8,h1,h4]
  case w2=>simp only[kf141,Vg,Vu,V0,Fr.get_set,↓reduceIte,Qg,Ql]
 ·exact absurd h2 id
theorem rGround_run(t:Tm)(n:Nat)(Y:Vi)(F:Nat->Prop)(st:St)(cs:List AV)(hr:We F st t cs)(hF:∀ i,F i->i < st.next)(hn:t.fz+4001 < n):∃ st',R n Y 105 [.agg cs] st=.ret (.bool (gr t)) st'/\Vd st st':=by
 obtain⟨m,rfl⟩:∃ m,n=m+1:=⟨n - 1,by omega⟩
 have b00:Nat.beq 0 0=true:=rfl
 have c1:((gT m).cg Y).fn 154 [.agg cs] st=.ret (.bool (rIs t)) st:=is_run t m Y F st cs hr (by omega)
 have hv:rIs t=true->∃ sl' st',R m Y 155 [.lst 1 cs true] st=.ret sl' st'/\Vd st st'/\Ir st.next st' sl' (vL [t] []):=fun h=>vars1_run t m Y F st cs hr hF h (by omega)
 have hc3:=hr.cells3
 obtain⟨a,b,c,rfl⟩:∃ a b c,cs=[a,b,c]:=by
  match cs,hc3.1 with
  | [a,b,c],_=>exact⟨a,b,c,rfl⟩
 have fl:VN [ZI 0,ZI 0,.nilsl] [(0,3,.agg [a,b,c])]=some [a,b,c]:=rfl
 rw[<-rGround_eq]
 have hres:rGround t=(rIs t&&decide ((vL [t] []).length=0)):=rfl
 rw[hres]
 generalize rIs t=B at *
 obtain⟨fA25,hA25⟩:∃ fA,fA=Vo 0 [.agg [a,b,c]] Fr.nil:=⟨_,rfl⟩
 have gA25_0:=gAt hA25 0
 have dA25:fA25.ds=[]:=by rw[hA25];rfl
 obtain⟨J26,H26,O26_1⟩:∃ fr',ar m Y [ZO 1 (.box true (.t 0)),ZM 2 (ZB false)] fA25 st=.ok fr' st/\fr'.get 1=some (.fptr [a,b,c] 0):=⟨_,by simp only[amE,rQ,rA,gA25_0]<;>rfl,gn gh⟩
 have W26:=ad H26 dA25
 cases B with
 | false=>
  obtain⟨J27,H27,O27_2⟩:∃ fr',ar m Y g116_1 J26 st=.ok fr' st/\fr'.get 2=some (.bool false):=⟨_,by simp only[amE,rQ,rA,O26_1,g116_1,JZ,c1,Qc,Qb]<;>rfl,gh⟩
  have W27:=ad H27 W26
  refine⟨st,Ve (mf:=kf116) (fr:=J27) t105 rfl (.inl ?q27) W27 (by simp only[kf116,Vg,Vu,V0,O27_2,Qg,Ql,Q8]),Vd.refl st⟩
  case q27=>
   rw[<-hA25]
   simp only[amE,rQ,rA,kf116,H26,H27]
 | true=>
  obtain⟨sv,s1,cv,kv,hir⟩:=hv rfl
  have cv':((gT m).cg Y).fn 155 [.lst 1 [a,b,c] true] st=.ret sv s1:=cv
  have ln:=hir.len s1
  have eq0:Vr false .eql (ZI ((vL [t] []).length)) Z0=some (.bool (decide ((vL [t] []).length=0))):=by
   show some (AV.bool (Int.ofNat (vL [t] []).length==Int.ofNat 0))=_
   congr 2
   by_cases h:(vL [t] []).length=0
   ·rw[h];rfl
   ·rw[Qp h];simp;exact fun e=>h (by rw[e];rfl)
  obtain⟨J28,H28,O28_2⟩:∃ fr',ar m Y g116_1 J26 st=.ok fr' s1/\fr'.get 2=some (.bool (decide ((vL [t] []).length=0))):=⟨_,by simp only[amE,rQ,rA,O26_1,g116_1,JZ,c1,fl,cv',ln,eq0,Qc,Qb]<;>rfl,gh⟩
  refine⟨s1,Ve (mf:=kf116) (fr:=J28) t105 rfl (.inl ?q28) (ad H28 W26) (by simp only[kf116,Vg,Vu,V0,O28_2,Qg,Ql,Q3]),kv⟩
  case q28=>
   rw[<-hA25]
   simp only[amE,rQ,rA,kf116,H26,H28]
end
noncomputable section
open Nat renaming reduceEqDiff -> rQ, reduceAdd -> rA
theorem Sy(n:Int):TO n n=true:=by cases n<;>exact QD _
theorem bb_refl(b:Bool):(bif b then b else !b)=true:=by cases b<;>rfl
theorem SJ:∀{a b:List AV},VG a a=true->VG b b=true->VG (a++b) (a++b)=true
 | [],b,_,h=>h
 | x::a,b,h,k=>by
  simp only[VG,Qd,QP] at h ⊢
  exact⟨h.1,SJ h.2 k⟩
theorem SlR.beq{F:Nat->Prop}{st:St}{sl:AV}{xs:List (List AV)}(h:SlR F st sl xs)(hx:VG xs.flatten xs.flatten=true):V8 sl sl=true:=by
 rcases h.2.2 with⟨rfl,_⟩|⟨ex,rfl⟩|⟨id,cap,lo,rfl,_⟩
 ·rfl
 ·simp only[V8,QD,bb_refl,hx,Qy]
 ·cases cap<;>simp only[V8,QD,onBeq,Qy]
mutual
theorem We.beq{F:Nat->Prop}{st:St}:∀(t:Tm) (cs:List AV),We F st t cs->VG cs cs=true
 | .mk k n nl ex l,cs,h=>by
  simp only[We] at h
  obtain⟨sl,xs,rfl,h2,h3⟩:=h
  simp only[VG,V8,Sy,h2.beq (Vy.beq l xs h3),Z3,Qy]
theorem Vy.beq{F:Nat->Prop}{st:St}:∀(l:List Tm) (xs:List (List AV)),Vy F st l xs->VG xs.flatten xs.flatten=true
 | [],xs,h=>by simp only[Vy] at h;subst h;rfl
 | t::l,xs,h=>by
  simp only[Vy] at h
  obtain⟨x,ys,rfl,h2,h3⟩:=h
  rw[Xc];exact SJ (We.beq t x h2) (Vy.beq l ys h3)
end
mutual
theorem VU.beq{F:Nat->Prop}{st:St}:∀(t:Dv) (cs:List AV),VU F st t cs->VG cs cs=true
 | .mk r nv ev vs nl ex l,cs,h=>by
  simp only[VU] at h
  obtain⟨s1,x1,s2,x2,rfl,h2,h3,h4,h5⟩:=h
  simp only[VG,V8,Sy,h2.beq (Vy.beq vs x1 h3),h4.beq (VI.beq l x2 h5),Z3,Qy]
theorem VI.beq{F:Nat->Prop}{st:St}:∀(l:List Dv) (xs:List (List AV)),VI F st l xs->VG xs.flatten xs.flatten=true
 | [],xs,h=>by simp only[VI] at h;subst h;rfl
 | t::l,xs,h=>by
  simp only[VI] at h
  obtain⟨x,ys,rfl,h2,h3⟩:=h
  rw[Xc];exact SJ (VU.beq t x h2) (VI.beq l ys h3)
end
def Out(P:Nat->Prop)(o:Nat)(s:St)(sl:AV)(c:Nat):Prop:=(sl=.nilsl/\c=0)\/∃ id cs,sl=.own id 0 c 1 none c/\id < s.next/\s.get id=some (.row cs)/\cs.length=c/\¬ P id/\id≠o
end
noncomputable section
open Nat renaming reduceEqDiff -> rQ, reduceAdd -> rA
def g76_0:List Vc:=[ZA 38 1 1,ZL 39 38,ZV 40 3,ZP 41 3 39 40,ZK 42 3 41,ZX 43 105 [(.t 42)],ZO 44 (.un .not (.t 43))]
def g76_2:List Vc:=[ZA 52 2 1,ZL 53 52,ZV 54 4,ZP 55 3 53 54,ZK 56 3 55,ZX 57 157 [(.t 56)],ZO 58 (.un .not (.t 57))]
def g76_5:List (Vc × Nat):=[(ZA 5 0 1,0),(ZL 6 5,1),(ZO 7 (.bin false .lss (.t 6) (ZC 1)),3),(ZV 8 7,7),(ZG 9 (.faddr 0 (.t 1)) 8 false,15),(ZG 10 (.load false 1 (.t 9)) 8 false,31),(ZG 11 (.bin false .gtr (.t 10) (ZC 19)) 8 false,63),(ZO 12 (.pick (.t 8) (ZB true) (.t 11)),127),(ZV 13 12,255),(ZG 14 (.faddr 2 (.t 1)) 13 false,511),(ZG 15 (.load false 1 (.t 14)) 13 false,1023),(ZG 16 (.len 0 (.t 15)) 13 false,2047),(ZG 17 (.faddr 0 (.t 1)) 13 false,511),(ZG 18 (.load false 1 (.t 17)) 13 false,4607),(ZG 19 (.call (.c (.func (.func 214) [] [])) [(.t 18)]) 13 false,12799),(ZG 20 (.bin false .neq (.t 16) (.t 19)) 13 false,32767),(ZO 21 (.pick (.t 13) (ZB true) (.t 20)),65535),(ZV 22 21,131071),(ZG 23 (.faddr 1 (.t 1)) 22 false,262143),(ZG 24 (.load false 1 (.t 23)) 22 false,524287),(ZG 25 (.len 0 (.t 24)) 22 false,1048575),(ZG 26 (.faddr 0 (.t 1)) 22 false,262143),(ZG 27 (.load false 1 (.t 26)) 22 false,2359295),(ZG 28 (.call (.c (.func (.func 215) [] [])) [(.t 27)]) 22 false,6553599),(ZG 29 (.bin false .gtr (.t 25) (.t 28)) 22 false,16777215),(ZO 30 (.pick (.t 22) (ZB true) (.t 29)),33554431)]
def bf76_0:Vn:=(ZQ g76_0
 (.cond (.t 44)
 (ZR [ZM 2 (ZB false)])
 .skip))
def cf76_0:List Vc:=[ZV 31 3,ZA 32 1 1,ZL 33 32,ZN 34 33,ZO 35 (.bin false .lss (.t 31) (.t 34))]
def bf76_1:Vn:=(ZQ g76_2
 (.cond (.t 58)
 (ZR [ZM 2 (ZB false)])
 .skip))
def cf76_1:List Vc:=[ZV 45 4,ZA 46 2 1,ZL 47 46,ZN 48 47,ZO 49 (.bin false .lss (.t 45) (.t 48))]
def kf76:Vm:=⟨59,(ZQ [ZO 1 (.box true (.t 0)),ZM 2 (ZB false)]
 (.seq (.seq (.draw g76_5 [(10,some 14),(10,some 23),(11,some 14),(11,some 23),(19,some 23),(19,none),(20,some 23),(20,none)])
 (.cond (.t 30)
 (ZR [ZM 2 (ZB false)])
 .skip))
 (.seq (ZQ [ZM 3 (ZC 0)]
 (.block 0 (.loop (lb2 35 3 36 37 0 1 cf76_0 bf76_0))))
 (.seq (ZQ [ZM 4 (ZC 0)]
 (.block 2 (.loop (lb2 49 4 50 51 2 3 cf76_1 bf76_1))))
 (ZR [ZM 2 (ZB true)]))))),[.t 2]⟩
theorem t157:tbl 157=some kf76:=by kernel_rfl
def g49_1:List Vc:=[ZK 6 3 1,ZX 7 156 [(.t 6),(ZC 4000),(ZC 1)],ZV 5 7,ZO 8 (.extract 0 (.t 5)),ZO 9 (.extract 1 (.t 5)),ZV 3 8,ZV 4 9]
def g49_2:List Vc:=[ZV 10 4,ZV 11 10,ZG 12 (.load true 3 (.t 1)) 11 true,ZG 13 (.call (.c (.func (.func 157) [] [])) [(.t 12)]) 11 true,ZO 14 (.pick (.t 11) (.t 13) (ZB false)),ZV 2 14]
def kf49:Vm:=⟨15,(ZQ [ZO 1 (.box true (.t 0)),ZM 2 (ZB false)]
 (ZQ g49_1
 (ZR g49_2))),[.t 2]⟩
theorem t106:tbl 106=some kf49:=by kernel_rfl
theorem drun_g{Γ:Cg}{d:Option Nat}{op:MOp}{a:Nat}{g:Nat × Bool}{zs:List (Vc × Nat)}{i id:Nat}{fr:Fr}{st:St}:Wq Γ ((⟨d,op,some g⟩,a)::zs) i id fr st none=match Vv fr (some g) with
  | some true=>(match V5 Γ id fr st op with
   | .val v st'=>DR.cons (.val fr st v st') (Wq Γ zs (i+1) (VJ id op) (Fr.put fr d v) st' none)
   | .pan v st'=>DR.cons (.pan fr st v st') (Wq Γ zs (i+1) (VJ id op) fr st (some i))
   | .stuck=>none)
  | some false=>DR.cons (.val fr st .undef st) (Wq Γ zs (i+1) (VJ id op) (Fr.put fr d .undef) st none)
  | none=>none:=by
 conv=>lhs;unfold Wq
 simp only[Ku,Qq]
 cases Vv fr (some g) with
 | none=>rfl
 | some b=>
  cases b with
  | false=>rfl
  | true=>cases V5 Γ id fr st op<;>rfl
theorem drun_item{Γ:Cg}:∀(zs:List (Vc × Nat)) (i id:Nat) (fr:Fr) (st:St) (pan:Option Nat) (its:List DIt) (frE:Fr) (stE:St),Wq Γ zs i id fr st pan=some (its,frE,stE) ->
  ∀(j:Nat) (z:Vc × Nat) (f:Fr) (s:St) (v:AV) (s':St),zs[j]?=some z->its[j]?=some (.val f s v s')->Vv f z.1.guard=some true->V5 Γ (Wf zs j id) f s z.1.op=.val v s'
 | [],_,_,_,_,_,_,_,_,_,j,z,_,_,_,_,hz,_,_=>by simp at hz
 | y::zs,i,id,fr,st,pan,its,frE,stE,h,j,z,f,s,v,s',hz,hi,hw=>by
  have key:∀(it:DIt) (x:Option DR) (p:Option Nat) (fr1:Fr) (st1:St),DR.cons it x=some (its,frE,stE)->x=Wq Γ zs (i+1) (VJ id y.1.op) fr1 st1 p ->
    (j=0->it=.val f s v s'->V5 Γ (Wf (y::zs) j id) f s z.1.op=.val v s')->V5 Γ (Wf (y::zs) j id) f s z.1.op=.val v s':=by
   intro it x p fr1 st1 hc hx h0
   cases hx':x with
   | none=>rw[hx'] at hc;simp[DR.cons] at hc
   | some q=>
    rw[hx'] at hc
    simp only[DR.cons,Qa,Q2] at hc
    obtain⟨hc1,hc2⟩:=hc
    cases j with
    | zero=>
     refine h0 rfl ?_
     rw[<-hc1] at hi;simpa using hi
    | succ j=>
     have:Wq Γ zs (i+1) (VJ id y.1.op) fr1 st1 p=some (q.1,q.2.1,q.2.2):=by rw[<-hx,hx']
     refine drun_item zs (i+1) (VJ id y.1.op) fr1 st1 p q.1 q.2.1 q.2.2 this j z f s v s' (by simpa using hz) (by rw[<-hc1] at hi;simpa using hi) hw
  unfold Wq at h
  cases hd:Ku pan y.2 with
  | true=>
   rw[hd] at h
   simp only[Qi] at h
   exact key _ _ _ _ _ h rfl fun _ h=>by cases h
  | false=>
   rw[hd] at h
   simp only[Qq] at h
   cases hw2:Vv fr y.1.guard with
   | none=>rw[hw2] at h;cases h
   | some b=>
    rw[hw2] at h
    cases b with
    | false=>
     simp only at h
     refine key _ _ _ _ _ h rfl fun hj he=>?_
     subst hj
     simp only[Q0,Qa] at hz;subst hz
     injection he with e1
     rw[<-e1,hw2] at hw;cases hw
    | true=>
     simp only at h
     cases ho:V5 Γ id fr st y.1.op with
     | val u s1=>
      rw[ho] at h
      refine key _ _ _ _ _ h rfl fun hj he=>?_
      subst hj
      simp only[Q0,Qa] at hz;subst hz
      injection he with e1 e2 e3 e4
      rw[<-e1,<-e2,<-e3,<-e4];exact ho
     | pan u s1=>
      rw[ho] at h
      cases pan with
      | none=>
       simp only at h
       exact key _ _ _ _ _ h rfl fun _ h=>by cases h
      | some p=>simp at h
     | stuck=>rw[ho] at h;cases h
def allSt(st:St):List DIt->Prop
 | []=>True
 | .val _ s _ _::l=>s=st/\allSt st l
 | _::_=>False
theorem allSt_at{st:St}:∀{l:List DIt},allSt st l->∀{j:Nat} {it:DIt},l[j]?=some it->∃ f v s',it=.val f st v s'
 | [],_,j,it,h=>by simp at h
 | x::l,h,j,it,hj=>by
  cases x with
  | val f s v s'=>
   simp only[allSt] at h
   cases j with
   | zero=>simp only[Q0,Qa] at hj;subst hj;exact⟨f,v,s',by rw[h.1]⟩
   | succ j=>exact allSt_at h.2 (by simpa using hj)
  | pan=>simp[allSt] at h
  | dead=>simp[allSt] at h
def beqIts(its:List DIt)(chk:List (Nat × Option Nat)):Prop:=∀ q∈chk,∀ f s v s',its[q.1]?=some (.val f s v s')->V8 v v=true
theorem Km{Γ:Cg}{zs:List (Vc × Nat)}{chk:List (Nat × Option Nat)}{fr frE:Fr}{st:St}{its:List DIt}(hpre:VT zs [] st=st)(h:Wq Γ zs 0 st.next fr st none=some (its,frE,st))(hp:JE its=none)
  (hs:allSt st its) (hb:beqIts its chk) (hl:lens Γ zs fr st=[]:=by rfl):VK Γ zs chk fr st=.ok frE st:=by
 refine KB (by rw[hpre];exact h) hp (QB.2 fun q hq=>?_) hl
 unfold KE
 split
 ·rename_i z f s v s' hz hi
  cases hw:Vv f z.1.guard with
  | none=>rfl
  | some b=>
   cases b with
   | false=>rfl
   | true=>
    obtain⟨f',v',s'',he⟩:=allSt_at hs hi
    injection he with e1 e2 e3 e4
    have hit:=drun_item zs 0 st.next fr st none its frE st h q.1 z f s v s' hz hi hw
    have hb':=hb q hq f s v s' hi
    have key:(W0 z.1.op f||YF Γ (Wf zs q.1 st.next) f st z.1.op v)=true:=by
     rw[e2] at hit
     simp only[YF,hit,hb',XS]
    simp only
    split
    ·exact key
    ·split
     ·rename_i hk
      obtain⟨_,_,_,he'⟩:=allSt_at hs hk
      injection he' with _ e5
      rw[e5];exact key
     ·rename_i hk
      obtain⟨_,_,_,he'⟩:=allSt_at hs hk
      cases he'
     ·rfl
 ·rfl
theorem goodL_cons(d:Dv)(l:List Dv):Dv.goodL gr (d::l)=(d.good gr&&Dv.goodL gr l):=by simp only[Dv.goodL]
theorem bint(n:Int):V8 (.int .i64 n) (.int .i64 n)=true:=by simp only[V8,Sy,Z3,Qy]
set_option maxHeartbeats 4000000 in
theorem right_run(d:Dv):∀(n:Nat) (Y:Vi) (F:Nat->Prop) (st:St) (cs:List AV),VU F st d cs->(∀ i,F i->i < st.next)->d.fz+4100<=n->∃ st',R n Y 157 [.agg cs] st=.ret (.bool (d.good gr)) st'/\Vd st st':=by
 induction hs:d.fz using Nat.strongRecOn generalizing d with
 | _ s ih=>
 intro n Y F st cs hr hF hn
 cases d with
 | mk r nv ev vs nl ex l=>
 simp only[VU] at hr
 obtain⟨sv,xv,sl,xs,rfl,hsv,hrv,hsl,hrs⟩:=hr
 simp only[Dv.fz] at hs
 obtain⟨m,rfl⟩:∃ m,n=m+1:=⟨n - 1,by omega⟩
 have b00:Nat.beq 0 0=true:=rfl
 have b22:Nat.beq 2 2=true:=rfl
 have hxl:=hrs.len
 have hxv:=hrv.len
 have hbl:=hsl.beq (VI.beq l xs hrs)
 have hbv:=hsv.beq (Vy.beq vs xv hrv)
 have lenl:=hsl.len st
 have lenv:=hsv.len st
 have car:((gT m).cg Y).fn 214 [.int .i64 r] st=.ret (ZI ((arN r))) st:=by
  obtain⟨m',rfl⟩:∃ m',m=m'+1:=⟨m - 1,by omega⟩
  exact arity2_run m' Y r st
 have cva:((gT m).cg Y).fn 215 [.int .i64 r] st=.ret (ZI ((vaN r))) st:=by
  obtain⟨m',rfl⟩:∃ m',m=m'+1:=⟨m - 1,by omega⟩
  exact values2_run m' Y r st
 have e1:Vr false .lss (.int .i64 r) (ZI 1)=some (.bool (decide (r < 1))):=rfl
 have e2:Vr false .gtr (.int .i64 r) (ZI 19)=some (.bool (decide (r > 19))):=rfl
 have e3:Vr false .neq (ZI xs.length) (ZI ((arN r)))=some (.bool (Int.ofNat l.length != Int.ofNat (arN r))):=by rw[hxl];rfl
 have e4:Vr false .gtr (ZI xv.length) (ZI ((vaN r)))=some (.bool (decide (Int.ofNat vs.length > Int.ofNat (vaN r)))):=by rw[hxv];rfl
 have hgood:Dv.good gr (.mk r nv ev vs nl ex l)=(!(((decide (r < 1)||decide (r > 19))||(Int.ofNat l.length != Int.ofNat (arN r)))||decide (Int.ofNat vs.length > Int.ofNat (vaN r)))&&(vs.all gr&&Dv.goodL gr l)):=by
  simp only[Dv.good,Bool.not_or,Bool.and_assoc]
  have h1:decide (1<=r)=!decide (r < 1):=by by_cases h:r < 1<;>simp[h]<;>omega
  have h2:decide (r<=19)=!decide (r > 19):=by by_cases h:r > 19<;>simp[h]<;>omega
  have h3:(l.length==arN r)=!(Int.ofNat l.length != Int.ofNat (arN r)):=by
   by_cases h:l.length=arN r
   ·simp[h]
   ·have a1:(Int.ofNat l.length != Int.ofNat (arN r))=true:=by simp;omega
    have a2:(l.length==arN r)=false:=by simpa using h
    rw[a1,a2];rfl
  have h4:decide (vs.length<=vaN r)=!decide (Int.ofNat vs.length > Int.ofNat (vaN r)):=by
   by_cases h:vs.length<=vaN r
   ·have a1:decide (Int.ofNat vs.length > Int.ofNat (vaN r))=false:=Qp (by simp;omega)
    rw[a1,Qs h];rfl
   ·have a1:decide (Int.ofNat vs.length > Int.ofNat (vaN r))=true:=Qs (by simp;omega)
    rw[a1,Qp h];rfl
  rw[h1,h2,h3,h4]
 rw[hgood]
 generalize decide (r < 1)=B1 at *
 generalize decide (r > 19)=B2 at *
 generalize (Int.ofNat l.length != Int.ofNat (arN r))=B3 at *
 generalize decide (Int.ofNat vs.length > Int.ofNat (vaN r))=B4 at *
 obtain⟨fA14,hA14⟩:∃ fA,fA=Vo 0 [.agg [.int .i64 r,sv,sl]] Fr.nil:=⟨_,rfl⟩
 have gA14_0:=gAt hA14 0
 have dA14:fA14.ds=[]:=by rw[hA14];rfl
 obtain⟨J15,H15,O15_1,O15_2⟩:∃ fr',ar m Y [ZO 1 (.box true (.t 0)),ZM 2 (ZB false)] fA14 st=.ok fr' st/\fr'.get 1=some (.fptr [.int .i64 r,sv,sl] 0)/\fr'.get 2=some (.bool false):=⟨_,by simp only[amE,rQ,rA,gA14_0]<;>rfl,gn gh,gh⟩
 have W15:=ad H15 dA14
 obtain⟨fD,hD,kD,oD⟩:∃ fr',VK ((gT m).cg Y) g76_5 [(10,some 14),(10,some 23),(11,some 14),(11,some 23),(19,some 23),(19,none),(20,some 23),(20,none)] J15 st=.ok fr' st/\Kp [1] J15 fr'/\fr'.get 30=some (.bool (((B1||B2)||B3)||B4)):=by
  cases B1 with
  | true=>
   refine⟨?v1ta,?v1tb,?v1tc,?v1td⟩
   case v1tb=>
    refine Km (its:=?v1ti) rfl ?v1tx ?v1ty ?v1tz ?v1tw
    case v1tx=>
     simp only[amE,rQ,rA,g76_5,WH,drun_g,WU,DR.cons,V5,VJ,O15_1,faf,Y7,Yg,WB,lenl,lenv,car,cva,e1,e2,e3,e4,Qc,Qb]
     rfl
    case v1ty=>rfl
    case v1tz=>
     repeat' first | exact trivial | refine⟨rfl,?_⟩
    case v1tw=>
     intro q hq f s v s' hi
     simp only[Qx,QI,Xh] at hq
     rcases hq with rfl | rfl | rfl | rfl | rfl | rfl | rfl | rfl<;>(have e:=(DIt.val.inj (XW hi)).2.2.1;rw[<-e];first | exact hbl | exact hbv | exact bint _ | rfl)
   case v1tc=>repeat (first | exact Kp.refl | refine Kp.set (by decide) ?_)
   case v1td=>simp only[Fr.get_set,rQ,↓reduceIte,QU,QL]
  | false=>
   cases B2 with
   | true=>
    refine⟨?v2ta,?v2tb,?v2tc,?v2td⟩
    case v2tb=>
     refine Km (its:=?v2ti) rfl ?v2tx ?v2ty ?v2tz ?v2tw
     case v2tx=>
      simp only[amE,rQ,rA,g76_5,WH,drun_g,WU,DR.cons,V5,VJ,O15_1,faf,Y7,Yg,WB,lenl,lenv,car,cva,e1,e2,e3,e4,Qc,Qb]
      rfl
     case v2ty=>rfl
     case v2tz=>
      repeat' first | exact trivial | refine⟨rfl,?_⟩
     case v2tw=>
      intro q hq f s v s' hi
      simp only[Qx,QI,Xh] at hq
      rcases hq with rfl | rfl | rfl | rfl | rfl | rfl | rfl | rfl<;>(have e:=(DIt.val.inj (XW hi)).2.2.1;rw[<-e];first | exact hbl | exact hbv | exact bint _ | rfl)
    case v2tc=>repeat (first | exact Kp.refl | refine Kp.set (by decide) ?_)
    case v2td=>simp only[Fr.get_set,rQ,↓reduceIte,QU,QL]
   | false=>
    cases B3 with
    | true=>
     refine⟨?v3ta,?v3tb,?v3tc,?v3td⟩
     case v3tb=>
      refine Km (its:=?v3ti) rfl ?v3tx ?v3ty ?v3tz ?v3tw
      case v3tx=>
       simp only[amE,rQ,rA,g76_5,WH,drun_g,WU,DR.cons,V5,VJ,O15_1,faf,Y7,Yg,WB,lenl,lenv,car,cva,e1,e2,e3,e4,Qc,Qb]
       rfl
      case v3ty=>rfl
      case v3tz=>
       repeat' first | exact trivial | refine⟨rfl,?_⟩
      case v3tw=>
       intro q hq f s v s' hi
       simp only[Qx,QI,Xh] at hq
       rcases hq with rfl | rfl | rfl | rfl | rfl | rfl | rfl | rfl<;>(have e:=(DIt.val.inj (XW hi)).2.2.1;rw[<-e];first | exact hbl | exact hbv | exact bint _ | rfl)
     case v3tc=>repeat (first | exact Kp.refl | refine Kp.set (by decide) ?_)
     case v3td=>simp only[Fr.get_set,rQ,↓reduceIte,QU,QL]
    | false=>
     cases B4 with
     | true=>
      refine⟨?v4ta,?v4tb,?v4tc,?v4td⟩
      case v4tb=>
       refine Km (its:=?v4ti) rfl ?v4tx ?v4ty ?v4tz ?v4tw
       case v4tx=>
        simp only[amE,rQ,rA,g76_5,WH,drun_g,WU,DR.cons,V5,VJ,O15_1,faf,Y7,Yg,WB,lenl,lenv,car,cva,e1,e2,e3,e4,Qc,Qb]
        rfl
       case v4ty=>rfl
       case v4tz=>
        repeat' first | exact trivial | refine⟨rfl,?_⟩
       case v4tw=>
        intro q hq f s v s' hi
        simp only[Qx,QI,Xh] at hq
        rcases hq with rfl | rfl | rfl | rfl | rfl | rfl | rfl | rfl<;>(have e:=(DIt.val.inj (XW hi)).2.2.1;rw[<-e];first | exact hbl | exact hbv | exact bint _ | rfl)
      case v4tc=>repeat (first | exact Kp.refl | refine Kp.set (by decide) ?_)
      case v4td=>simp only[Fr.get_set,rQ,↓reduceIte,QU,QL]
     | false=>
      refine⟨?v4fa,?v4fb,?v4fc,?v4fd⟩
      case v4fb=>
       refine Km (its:=?v4fi) rfl ?v4fx ?v4fy ?v4fz ?v4fw
       case v4fx=>
        simp only[amE,rQ,rA,g76_5,WH,drun_g,WU,DR.cons,V5,VJ,O15_1,faf,Y7,Yg,WB,lenl,lenv,car,cva,e1,e2,e3,e4,Qc,Qb]
        rfl
       case v4fy=>rfl
       case v4fz=>
        repeat' first | exact trivial | refine⟨rfl,?_⟩
       case v4fw=>
        intro q hq f s v s' hi
        simp only[Qx,QI,Xh] at hq
        rcases hq with rfl | rfl | rfl | rfl | rfl | rfl | rfl | rfl<;>(have e:=(DIt.val.inj (XW hi)).2.2.1;rw[<-e];first | exact hbl | exact hbv | exact bint _ | rfl)
      case v4fc=>repeat (first | exact Kp.refl | refine Kp.set (by decide) ?_)
      case v4fd=>simp only[Fr.get_set,rQ,↓reduceIte,QU,QL]
 have qD:=kD.at (k:=1) (by decide) O15_1
 have dD:=kD.1.trans W15
 generalize (((B1||B2)||B3)||B4)=BB at *
 cases BB with
 | true=>
  obtain⟨J16,H16,O16_2⟩:∃ fr',ar m Y [ZM 2 (ZB false)] fD st=.ok fr' st/\fr'.get 2=some (.bool false):=⟨_,by simp only[amE,rQ,rA]<;>rfl,gh⟩
  have W16:=ad H16 dD
  refine⟨st,Ve (mf:=kf76) (fr:=J16) t157 rfl (.inl ?q16) W16 (by simp only[kf76,Vg,Vu,V0,O16_2,Qg,Ql,Qc,Q8]),Vd.refl st⟩
  case q16=>
   rw[<-hA14]
   simp only[amE,rQ,rA,kf76,b00,H15,hD,H16,oD]
 | false=>
  rw[Qb,Q3]
  obtain⟨J17,H17,O17_3⟩:∃ fr',ar m Y [ZM 3 (ZC 0)] fD st=.ok fr' st/\fr'.get 3=some Z0:=⟨_,by simp only[amE,rQ,rA]<;>rfl,gh⟩
  have V17_1:=ag H17 qD
  have W17:=ad H17 dD
  have hC0:∀ k fr s,k<=xv.length->Kp [1] J17 fr->fr.get 3=some (ZI k)->(Vd st s/\(vs.drop k).all gr=vs.all gr) ->
    ∃ fr',ar m Y cf76_0 fr s=.ok fr' s/\Kp [3,1] fr fr'/\fr'.get 35=some (.bool (decide (k < xv.length)))/\(Vd st s/\(vs.drop k).all gr=vs.all gr):=by
   intro k fr s hk hkp gi hq
   have q1:=hkp.at (k:=1) (by decide) V17_1
   have hlen:=hsv.len s
   refine⟨?m0,?m1,?m2,?m03,hq⟩
   case m1=>
    simp only[amE,rQ,rA,cf76_0,q1,gi,faf,Yg,hlen,lssD]
    rfl
   case m2=>repeat (first | exact Kp.refl | refine Kp.set (by decide) ?_)
   case m03=>simp only[Fr.get_set,rQ,↓reduceIte]
  have hB0:∀ k fr s,k < xv.length->Kp [1] J17 fr->fr.get 3=some (ZI k)->(Vd st s/\(vs.drop k).all gr=vs.all gr) ->
    (∃ FR s',ac m Y bf76_0 none fr s=.norm FR s'/\Kp [3,1] fr FR/\(Vd st s'/\(vs.drop (k+1)).all gr=vs.all gr)) ∨
    (∃ FR s',ac m Y bf76_0 none fr s=.ret FR s'/\(FR.ds=[]/\FR.get 2=some (.bool false)/\Vd st s'/\vs.all gr=false)):=by
   intro k fr s hk hkp gi ⟨hks,hq⟩
   obtain⟨t,ht,hdr⟩:=WR (l:=vs) (k:=k) (by omega)
   obtain⟨x,hx,hrx⟩:=hrv.at ht
   obtain⟨p,ia,ld⟩:=hsv.at hx
   have hsame:Vs F st s:=Vs.of (hks) hF
   have ld:=ld s hsame
   have hfz:=Tm.fzL_mem (Qr ht)
   obtain⟨s',hcall0,hk'⟩:=rGround_run t m Y F s x (hrx.mono hsame fun _ h=>h) (fun i hi=>Qz (hF i hi) hks.1) (by omega)
   have hcall:((gT m).cg Y).fn 105 [.agg x] s=.ret (.bool (gr t)) s':=hcall0
   have q1:=hkp.at (k:=1) (by decide) V17_1
   rw[hdr,QN] at hq
   generalize gr t=ok at *
   obtain⟨J18,H18,K18,O18_44⟩:∃ fr',ar m Y g76_0 fr s=.ok fr' s'/\Kp [1,3] fr fr'/\fr'.get 44=some (.bool (!ok)):=⟨_,by simp only[amE,rQ,rA,q1,gi,g76_0,faf,Yg,ia,ld,hcall,unN,Qc,Qb]<;>rfl,Kp.refl.s.s.s.s.s.s.s,gh⟩
   cases ok with
   | true=>
    refine .inl ⟨J18,s',?q18,K18.sub (by decide),hks.trans hk',by simpa using hq⟩
    case q18=>simp only[amE,rQ,rA,bf76_0,H18,O18_44,Qc]
   | false=>
    obtain⟨J19,H19,O19_2⟩:∃ fr',ar m Y [ZM 2 (ZB false)] J18 s'=.ok fr' s'/\fr'.get 2=some (.bool false):=⟨_,by simp only[amE,rQ,rA]<;>rfl,gh⟩
    refine .inr ⟨J19,s',?q19,ad H19 (K18.1.trans (hkp.1.trans W17)),O19_2,hks.trans hk',by rw[<-hq];rfl⟩
    case q19=>simp only[amE,rQ,rA,bf76_0,H18,H19,O18_44,Qb]
  rcases U4 (Γ:=(gT m)) (Y:=Y) (m:=m) (N:=xv.length) (c:=35) (i:=3) (j1:=36) (j2:=37) (b:=0) (b1:=1) (ro:=none) (C:=cf76_0) (B:=bf76_0) (L:=[1]) (fr0:=J17) (by decide) (by decide) (by decide) hsv.2.1
   (Q:=fun k _ s=>Vd st s/\(vs.drop k).all gr=vs.all gr) (fun _ _ _ _ _ _ h=>h) hC0 hB0 xv.length 0 J17 st m (by omega) (by omega) Kp.refl O17_3 ⟨Vd.refl st,rfl⟩
   with⟨FR,s2,h1,h2,h3,h4⟩|⟨FR,s2,h1,h2,h3,h4,h5⟩
  rotate_left
  ·rw[h5,Q8]
   refine⟨s2,Ve (mf:=kf76) (fr:=FR) t157 rfl (.inl ?w3) h2 (by simp only[kf76,Vg,Vu,V0,h3,Qg,Ql]),h4⟩
   case w3=>
    rw[<-hA14]
    simp only[amE,rQ,rA,kf76,b00,H15,hD,H17,oD,h1]
  rw[hxv,Xr,QW] at h4
  rw[<-h4,Q3]
  have z1:=h2.at (k:=1) (by decide) V17_1
  have dF:=h2.1.trans W17
  obtain⟨J20,H20,O20_4⟩:∃ fr',ar m Y [ZM 4 (ZC 0)] FR s2=.ok fr' s2/\fr'.get 4=some Z0:=⟨_,by simp only[amE,rQ,rA]<;>rfl,gh⟩
  have V20_1:=ag H20 z1
  have W20:=ad H20 dF
  have hC1:∀ k fr s,k<=xs.length->Kp [1] J20 fr->fr.get 4=some (ZI k)->(Vd s2 s/\Dv.goodL gr (l.drop k)=Dv.goodL gr l) ->
    ∃ fr',ar m Y cf76_1 fr s=.ok fr' s/\Kp [4,1] fr fr'/\fr'.get 49=some (.bool (decide (k < xs.length)))/\(Vd s2 s/\Dv.goodL gr (l.drop k)=Dv.goodL gr l):=by
   intro k fr s hk hkp gi hq
   have q1:=hkp.at (k:=1) (by decide) V20_1
   have hlen:=hsl.len s
   refine⟨?m115,?m11,?m12,?m13,hq⟩
   case m11=>
    simp only[amE,rQ,rA,cf76_1,q1,gi,faf,WB,hlen,lssD]
    rfl
   case m12=>repeat (first | exact Kp.refl | refine Kp.set (by decide) ?_)
   case m13=>simp only[Fr.get_set,rQ,↓reduceIte]
  have hB1:∀ k fr s,k < xs.length->Kp [1] J20 fr->fr.get 4=some (ZI k)->(Vd s2 s/\Dv.goodL gr (l.drop k)=Dv.goodL gr l) ->
    (∃ FR s',ac m Y bf76_1 none fr s=.norm FR s'/\Kp [4,1] fr FR/\(Vd s2 s'/\Dv.goodL gr (l.drop (k+1))=Dv.goodL gr l)) ∨
    (∃ FR s',ac m Y bf76_1 none fr s=.ret FR s'/\(FR.ds=[]/\FR.get 2=some (.bool false)/\Vd s2 s'/\Dv.goodL gr l=false)):=by
   intro k fr s hk hkp gi ⟨hks,hq⟩
   obtain⟨t,ht,hdr⟩:=WR (l:=l) (k:=k) (by omega)
   obtain⟨x,hx,hrx⟩:=hrs.at ht
   obtain⟨p,ia,ld⟩:=hsl.at hx
   have hsame:Vs F st s:=Vs.of (h3.trans hks) hF
   have ld:=ld s hsame
   have hfz:=Dv.fzL_mem (Qr ht)
   obtain⟨s',hcall0,hk'⟩:=ih t.fz (by omega) t rfl m Y F s x (hrx.mono hsame fun _ h=>h) (fun i hi=>Qz (hF i hi) (h3.trans hks).1) (by omega)
   have hcall:((gT m).cg Y).fn 157 [.agg x] s=.ret (.bool (t.good gr)) s':=hcall0
   have q1:=hkp.at (k:=1) (by decide) V20_1
   rw[hdr,goodL_cons] at hq
   generalize Dv.good gr t=ok at *
   obtain⟨J21,H21,K21,O21_58⟩:∃ fr',ar m Y g76_2 fr s=.ok fr' s'/\Kp [1,4] fr fr'/\fr'.get 58=some (.bool (!ok)):=⟨_,by simp only[amE,rQ,rA,q1,gi,g76_2,faf,WB,ia,ld,hcall,unN,Qc,Qb]<;>rfl,Kp.refl.s.s.s.s.s.s.s,gh⟩
   cases ok with
   | true=>
    refine .inl ⟨J21,s',?q21,K21.sub (by decide),hks.trans hk',by simpa using hq⟩
    case q21=>simp only[amE,rQ,rA,bf76_1,H21,O21_58,Qc]
   | false=>
    obtain⟨J22,H22,O22_2⟩:∃ fr',ar m Y [ZM 2 (ZB false)] J21 s'=.ok fr' s'/\fr'.get 2=some (.bool false):=⟨_,by simp only[amE,rQ,rA]<;>rfl,gh⟩
    refine .inr ⟨J22,s',?q22,ad H22 (K21.1.trans (hkp.1.trans W20)),O22_2,hks.trans hk',by rw[<-hq];rfl⟩
    case q22=>simp only[amE,rQ,rA,bf76_1,H21,H22,O21_58,Qb]
  rcases U4 (Γ:=(gT m)) (Y:=Y) (m:=m) (N:=xs.length) (c:=49) (i:=4) (j1:=50) (j2:=51) (b:=2) (b1:=3) (ro:=none) (C:=cf76_1) (B:=bf76_1) (L:=[1]) (fr0:=J20) (by decide) (by decide) (by decide) hsl.2.1
   (Q:=fun k _ s=>Vd s2 s/\Dv.goodL gr (l.drop k)=Dv.goodL gr l) (fun _ _ _ _ _ _ h=>h) hC1 hB1 xs.length 0 J20 s2 m (by omega) (by omega) Kp.refl O20_4 ⟨Vd.refl s2,rfl⟩
   with⟨FR2,s3,i1,i2,i3,i4⟩|⟨FR2,s3,i1,i2,i3,i4,i5⟩
  ·rw[hxl,Xr] at i4
   have i5:Dv.goodL gr l=true:=by rw[<-i4];simp only[Dv.goodL]
   rw[i5]
   refine⟨s3,Ve (mf:=kf76) (fr:=FR2.set 2 (some (.bool true))) t157 rfl (.inl ?w5) (i2.1.trans W20) ?w6,h3.trans i3⟩
   case w5=>
    rw[<-hA14]
    simp only[amE,rQ,rA,kf76,b00,b22,H15,hD,H17,h1,H20,oD,i1]
   case w6=>simp only[kf76,Vg,Vu,V0,Fr.get_set,↓reduceIte,Qg,Ql]
  ·rw[i5]
   refine⟨s3,Ve (mf:=kf76) (fr:=FR2) t157 rfl (.inl ?w7) i2 (by simp only[kf76,Vg,Vu,V0,i3,Qg,Ql]),h3.trans i4⟩
   case w7=>
    rw[<-hA14]
    simp only[amE,rQ,rA,kf76,b00,b22,H15,hD,H17,h1,H20,oD,i1]
end
noncomputable section
open Nat renaming reduceEqDiff -> rQ, reduceAdd -> rA
theorem rIsD_run(d:Dv)(n:Nat)(Y:Vi)(F:Nat->Prop)(st:St)(cs:List AV)(hr:VU F st d cs)(hF:∀ i,F i->i < st.next)(hn:d.fz+4101<=n):
  ∃ st',R n Y 106 [.agg cs] st=.ret (.bool (JY d)) st'/\Vd st st':=by
 obtain⟨m,rfl⟩:∃ m,n=m+1:=⟨n - 1,by omega⟩
 have b00:Nat.beq 0 0=true:=rfl
 have h3:=hr.cells3
 have c1:((gT m).cg Y).fn 156 [.agg cs,ZI 4000,ZI 1] st=.ret (.tuple [.int .i64 (rcD d 4000 1).1,.bool (rcD d 4000 1).2]) st:=counted47 d m Y F st (.ofNat 4000) (.ofNat 1) cs hr (by omega)
 obtain⟨s1,c2,hk⟩:=right_run d m Y F st cs hr hF (by omega)
 have c2:((gT m).cg Y).fn 157 [.agg cs] st=.ret (.bool (d.good gr)) s1:=c2
 obtain⟨a1,a2,a3,rfl⟩:∃ a1 a2 a3,cs=[a1,a2,a3]:=by
  match cs,h3.1 with
  | [x,y,z],_=>exact⟨x,y,z,rfl⟩
 rw[<-rIsD_eq]
 unfold rIsD
 generalize (rcD d 4000 1).1=L at *
 generalize (rcD d 4000 1).2=ok at *
 generalize d.good gr=V at *
 obtain⟨fA23,hA23⟩:∃ fA,fA=Vo 0 [.agg [a1,a2,a3]] Fr.nil:=⟨_,rfl⟩
 have gA23_0:=gAt hA23 0
 have dA23:fA23.ds=[]:=by rw[hA23];rfl
 obtain⟨J24,H24,O24_1⟩:∃ fr',ar m Y [ZO 1 (.box true (.t 0)),ZM 2 (ZB false)] fA23 st=.ok fr' st/\fr'.get 1=some (.fptr [a1,a2,a3] 0):=⟨_,by simp only[amE,rQ,rA,gA23_0]<;>rfl,gn gh⟩
 obtain⟨J25,H25,O25_4⟩:∃ fr',ar m Y g49_1 J24 st=.ok fr' st/\fr'.get 4=some (.bool ok):=⟨_,by simp only[amE,rQ,rA,O24_1,g49_1,JZ,c1,ex20,ex21]<;>rfl,gh⟩
 have V25_1:=ag H25 O24_1
 have W25:=ad H25 (ad H24 dA23)
 cases ok with
 | true=>
  rw[Q3]
  obtain⟨J26,H26,O26_2⟩:∃ fr',ar m Y g49_2 J25 st=.ok fr' s1/\fr'.get 2=some (.bool V):=⟨_,by simp only[amE,rQ,rA,V25_1,O25_4,g49_2,JZ,c2,Qc,Qb]<;>rfl,gh⟩
  have W26:=ad H26 W25
  refine⟨s1,Ve (mf:=kf49) (fr:=J26) t106 rfl (.inl ?q26) W26 (by simp only[kf49,Vg,Vu,V0,O26_2,Qg,Ql]),hk⟩
  case q26=>
   rw[<-hA23]
   simp only[amE,rQ,rA,kf49,b00,H24,H25,H26]
 | false=>
  rw[Q8]
  obtain⟨J27,H27,O27_2⟩:∃ fr',ar m Y g49_2 J25 st=.ok fr' st/\fr'.get 2=some (.bool false):=⟨_,by simp only[amE,rQ,rA,V25_1,O25_4,g49_2,JZ,c2,Qc,Qb]<;>rfl,gh⟩
  have W27:=ad H27 W25
  refine⟨st,Ve (mf:=kf49) (fr:=J27) t106 rfl (.inl ?q27) W27 (by simp only[kf49,Vg,Vu,V0,O27_2,Qg,Ql]),Vd.refl _⟩
  case q27=>
   rw[<-hA23]
   simp only[amE,rQ,rA,kf49,b00,H24,H25,H27]
end
theorem flatZ{z:Nat}:∀{xs:List (List AV)},(∀ x∈xs,x.length=z)->∀{i:Nat} {x rest:List AV},xs[i]?=some x->((xs.flatten++rest).drop (i*z)).take z=x
 | [],_,i,x,_,h=>by simp at h
 | y::ys,hz,0,x,rest,h=>by
  simp only[Q0,Qa] at h;subst h
  have hy:=hz y (by simp)
  simp only[Xc,Nat.zero_mul,Xw,Xb]
  rw[XG (by omega),Xx (by omega)]
 | y::ys,hz,i+1,x,rest,h=>by
  simp only[QE] at h
  have hy:=hz y (by simp)
  have:=flatZ (rest:=rest) (fun x hx=>hz x (by simp[hx])) h
  rw[<-this]
  congr 1
  simp only[Xc,Xb]
  rw[show (i+1)*z=y.length+i*z by rw[Xv,hy];omega,ZZ]
  simp
theorem SX{z:Nat}:∀{xs:List (List AV)},(∀ x∈xs,x.length=z)->xs.flatten.length=xs.length*z
 | [],_=>by simp
 | y::ys,h=>by
  simp only[Xc,QJ,QC]
  rw[SX fun x hx=>h x (by simp[hx]),h y (by simp),Xv];omega
def SlN(z:Nat)(F:Nat->Prop)(st:St)(sl:AV)(xs:List (List AV)):Prop:=
 0 < z/\(∀ x∈xs,x.length=z/\x.all AV.one=true)/\xs.length<=4611686018427387904 ∧
 ((sl=.nilsl/\xs=[])\/(∃ ex,sl=.lst xs.length xs.flatten ex)\/(∃ id cap lo rest,sl=.own id 0 xs.length z cap lo/\F id/\st.get id=some (.row (xs.flatten++rest))))
theorem SlN.mono{z:Nat}{F G:Nat->Prop}{s a:St}{sl:AV}{xs:List (List AV)}(h:SlN z F s sl xs)(k:Vs F s a)(hFG:∀ i,F i->G i):SlN z G a sl xs:=by
 obtain⟨h0,h1,h2,h3⟩:=h
 refine⟨h0,h1,h2,?_⟩
 rcases h3 with h | h|⟨id,cap,lo,rest,h,hi,hg⟩
 ·exact .inl h
 ·exact .inr (.inl h)
 ·exact .inr (.inr ⟨id,cap,lo,rest,h,hFG _ hi,k.get hi hg⟩)
theorem SlN.nil{z:Nat}(hz:0 < z)(F:Nat->Prop)(st:St):SlN z F st .nilsl []:=⟨hz,fun _ h=>by simp at h,X3 _,.inl ⟨rfl,rfl⟩⟩
theorem SlN.lst{z:Nat}(hz:0 < z)(F:Nat->Prop)(st:St){n:Nat}{xs:List (List AV)}{cs:List AV}{ex:Bool}(h:∀ x∈xs,x.length=z/\x.all AV.one=true)(hb:xs.length<=4611686018427387904)(hn:n=xs.length)(hc:cs=xs.flatten):SlN z F st (.lst n cs ex) xs:=
 ⟨hz,h,hb,.inr (.inl ⟨ex,by rw[hn,hc]⟩)⟩
theorem SlN.one{z:Nat}{F:Nat->Prop}{st:St}{sl:AV}{xs:List (List AV)}(h:SlN z F st sl xs):AV.one sl=true:=by
 rcases h.2.2.2 with⟨rfl,_⟩|⟨ex,rfl⟩|⟨id,cap,lo,rest,rfl,_⟩<;>rfl
theorem SlN.len{z:Nat}{F:Nat->Prop}{st:St}{sl:AV}{xs:List (List AV)}(h:SlN z F st sl xs)(st':St):(bif VD 0 sl then Wm st' sl else none)=some (ZI xs.length):=by
 rcases h.2.2.2 with⟨rfl,rfl⟩|⟨ex,rfl⟩|⟨id,cap,lo,rest,rfl,_⟩<;>rfl
theorem SlN.ptr{z:Nat}{F:Nat->Prop}{st:St}{sl:AV}{xs:List (List AV)}(h:SlN z F st sl xs){k:Nat}{x:List AV}(hx:xs[k]?=some x):
  ∃ p,VC z sl (ZI k)=some p/\∀ st',Vs F st st'->∃ cs,Wy st' p=some cs/\cs.take z=x:=by
 obtain⟨h0,h1,h2,h3⟩:=h
 have hk:=(Qt.1 hx).1
 have hz:=fun x hx=>(h1 x hx).1
 rcases h3 with⟨rfl,rfl⟩|⟨ex,rfl⟩|⟨id,cap,lo,rest,rfl,hi,hg⟩
 ·simp at hk
 ·refine⟨.fptr xs.flatten (k*z),?_,fun st' _=>⟨xs.flatten.drop (k*z),rfl,?_⟩⟩
  ·simp only[VC]
   rw[Qo (show k+1<=xs.length from hk)]
   simp only[Qi]
   split
   ·rename_i he
    have hl:=SX hz
    rw[he] at hl
    have:0 < xs.length*z:=Nat.mul_pos (by omega) h0
    simp at hl;omega
   ·rfl
  ·have:=flatZ (rest:=[]) hz hx
   simpa using this
 ·refine⟨.ptr id (0+k*z),?_,fun st' hk'=>⟨(xs.flatten++rest).drop (0+k*z),?_,?_⟩⟩
  ·simp only[VC]
   rw[Qo (show k+1<=xs.length from hk),QD]
   rfl
  ·simp only[Wy,hk'.get hi hg]
  ·rw[Q7];exact flatZ hz hx
theorem SlN.at{z:Nat}{F:Nat->Prop}{st:St}{sl:AV}{xs:List (List AV)}(h:SlN z F st sl xs){k:Nat}{x:List AV}(hx:xs[k]?=some x):
  ∃ p,VC z sl (ZI k)=some p/\∀ st',Vs F st st'->Vf true z st' p=some (.agg x):=by
 obtain⟨p,h1,h2⟩:=h.ptr hx
 refine⟨p,h1,fun st' hs=>?_⟩
 obtain⟨cs,h3,h4⟩:=h2 st' hs
 have hl:=(h.2.1 x (Qr hx)).1
 simp only[Vf,h3,Qg,h4,Ja,Qi,hl,QD]
theorem SlN.at1{F:Nat->Prop}{st:St}{sl:AV}{xs:List AV}(h:SlN 1 F st sl (xs.map fun x=>[x])){k:Nat}{x:AV}(hx:xs[k]?=some x):
  ∃ p,VC 1 sl (ZI k)=some p/\∀ st',Vs F st st'->Vf false 1 st' p=some x:=by
 obtain⟨p,h1,h2⟩:=h.ptr (x:=[x]) (by rw[Q5,hx];rfl)
 refine⟨p,h1,fun st' hs=>?_⟩
 obtain⟨cs,h3,h4⟩:=h2 st' hs
 simp only[Vf,h3,Qg,h4,Ja,Qq]
theorem SlN.content{z:Nat}{F:Nat->Prop}{st:St}{sl:AV}{xs:List (List AV)}(h:SlN z F st sl xs){st':St}(hk:Vs F st st'):Wd z st' sl=some (xs.length,xs.flatten):=by
 have hf:=SX fun x hx=>(h.2.1 x hx).1
 rcases h.2.2.2 with⟨rfl,rfl⟩|⟨ex,rfl⟩|⟨id,cap,lo,rest,rfl,hi,hg⟩
 ·rfl
 ·simp only[Wd]
  rw[Qo (by omega),Xx (by omega)];rfl
 ·simp only[Wd,hk.get hi hg]
  rw[QD,Qo (by simp only[QJ];omega),Xw]
  simp only[Bool.and_self,Qi]
  rw[XG (by omega),Xx (by omega)]
noncomputable section
open Nat renaming reduceEqDiff -> rQ, reduceAdd -> rA
abbrev SlI(F:Nat->Prop)(st:St)(sl:AV)(xs:List Int):Prop:=SlN 1 F st sl ((xs.map (AV.int .i64)).map fun x=>[x])
theorem SlI.len{F:Nat->Prop}{st:St}{sl:AV}{xs:List Int}(h:SlI F st sl xs)(st':St):(bif VD 0 sl then Wm st' sl else none)=some (ZI xs.length):=by
 have:=SlN.len h st'
 simpa using this
theorem SlI.at{F:Nat->Prop}{st:St}{sl:AV}{xs:List Int}(h:SlI F st sl xs){k:Nat}{x:Int}(hx:xs[k]?=some x):
  ∃ p,VC 1 sl (ZI k)=some p/\∀ st',Vs F st st'->Vf false 1 st' p=some (.int .i64 x):=SlN.at1 h (by rw[Q5,hx];rfl)
theorem SlI.bound{F:Nat->Prop}{st:St}{sl:AV}{xs:List Int}(h:SlI F st sl xs):xs.length<=4611686018427387904:=by
 have:=h.2.2.1
 simpa using this
def wb73_0:Vn:=(ZQ [ZV 10 8,ZV 5 10]
 (ZQ [ZV 11 1,ZV 12 0,ZV 13 5,ZP 14 1 12 13,ZL 15 14,ZO 16 (.call (.t 11) [(.t 15)])]
 (.cond (.t 16)
 (ZR [ZV 17 5,ZV 4 17])
 .skip)))
def wf73:Vm:=⟨19,(ZQ [ZM 4 (ZC 0)]
 (.seq (ZQ [ZV 6 0,ZN 7 6,ZM 8 (ZC 0)]
 (.block 0 (.loop (lb 9 8 7 18 wb73_0))))
 (ZR [ZM 4 (.c (.int .i64 (.negSucc 0)))]))),[.t 4]⟩
theorem t73:tbl 73=some wf73:=by kernel_rfl
def wf63:Vm:=⟨9,(ZQ [ZM 4 (ZB false)]
 (ZR [ZV 5 0,ZV 6 1,ZX 7 73 [(.t 5),(.t 6)],ZO 8 (.bin false .geq (.t 7) (ZC 0)),ZV 4 8])),[.t 4]⟩
theorem t63:tbl 63=some wf63:=by kernel_rfl
theorem idx73_run{q n:Nat}{Y:Vi}{F:Nat->Prop}{st0:St}{sl:AV}{xs:List Int}{caps:List AV}{Inv:Nat->St->Prop}{Fin:Nat->St->Prop}(hsl:SlI F st0 sl xs)
  (hI:∀ k s,Inv k s->Vs F st0 s)
  (hcb:∀ k x s,xs[k]?=some x->Inv k s->∃ b s',R n Y q (.int .i64 x::caps) s=.ret (.bool b) s'/\(b=true->Fin k s')/\(b=false->Inv (k+1) s'))
  (st:St) (h0:Inv 0 st) (hn:xs.length < n):
  ∃ r s',R (n+1) Y 73 [sl,.func (.func q) [] caps] st=.ret (.int .i64 r) s'/\((r=.negSucc 0/\Inv xs.length s')\/(∃ j:Nat,r=.ofNat j/\j < xs.length/\Fin j s')):=by
 have hlen:=SlI.len hsl st
 obtain⟨fr0,hfr0,z0,z1,z7,z8,zd⟩:∃ fr0,(∀ L T,ac n Y (ZQ [ZM 4 (ZC 0)] (.seq (ZQ [ZV 6 0,ZN 7 6,ZM 8 (ZC 0)] L) T)) none (Vo 0 [sl,.func (.func q) [] caps] Fr.nil) st=match ac n Y L none fr0 st with
    | .norm fr st=>ac n Y T none fr st
    | r=>r)
   /\ fr0.get 0=some sl/\fr0.get 1=some (.func (.func q) [] caps)/\fr0.get 7=some (ZI xs.length)/\fr0.get 8=some Z0/\fr0.ds=[]:=by
  refine⟨?f0,?f1,?f2,?f3,?f4,?f5,?f7⟩
  case f1=>
   intro L T
   simp only[amE,rQ,rA,hlen]
   rfl
  case f2=>simp only[Vo,Fr.get_set,rA,rQ,↓reduceIte]
  case f3=>simp only[Vo,Fr.get_set,rA,rQ,↓reduceIte]
  case f4=>simp only[Fr.get_set,rQ,↓reduceIte]
  case f5=>simp only[Fr.get_set,↓reduceIte]
  case f7=>rfl
 have b00:Nat.beq 0 0=true:=rfl
 have hB:∀ k fr s,k < xs.length->Kp [0,1,7] fr0 fr->fr.get 8=some (ZI k)->Inv k s ->
   (∃ FR s',ac n Y wb73_0 none fr s=.norm FR s'/\Kp [8,0,1,7] fr FR/\Inv (k+1) s') ∨
   (∃ FR s',ac n Y wb73_0 none fr s=.ret FR s'/\(FR.ds=[]/\(∃ j:Nat,FR.get 4=some (ZI j)/\j < xs.length/\Fin j s'))):=by
  intro k fr s hk hkp g8 hi
  have hx:xs[k]?=some xs[k]:=Qn hk
  generalize xs[k]=x at hx
  obtain⟨p,ia,ld⟩:=SlI.at hsl hx
  have ld:=ld s (hI k s hi)
  obtain⟨b,s',hc,h1,h2⟩:=hcb k x s hx hi
  have hc':((gT n).cg Y).fn q (.int .i64 x::caps) s=.ret (.bool b) s':=hc
  have q0:=hkp.at (k:=0) (by decide) z0
  have q1:=hkp.at (k:=1) (by decide) z1
  cases b with
  | true=>
   refine .inr ⟨?r0,s',?r1,?r2,⟨k,?r3,hk,h1 rfl⟩⟩
   case r1=>
    simp only[amE,rQ,rA,wb73_0,q0,q1,g8,ia,ld,hc']
    rfl
   case r2=>exact hkp.1.trans zd
   case r3=>simp only[Fr.get_set,↓reduceIte]
  | false=>
   refine .inl ⟨?v0,s',?v1,?v2,h2 rfl⟩
   case v1=>
    simp only[amE,rQ,rA,wb73_0,q0,q1,g8,ia,ld,hc']
    rfl
   case v2=>repeat (first | exact Kp.refl | refine Kp.set (by decide) ?_)
 have hbd:=SlI.bound hsl
 rcases kloop (Γ:=gT n) (Y:=Y) (m:=n) (N:=xs.length) (c:=9) (i:=8) (n:=7) (i2:=18) (ro:=none) (L:=[0,1,7]) (fr0:=fr0) (by decide) (by decide) (by decide) (by decide) z7 (by omega)
  (Q:=fun k _ s=>Inv k s) (fun _ _ _ _ _ _ h=>h) hB xs.length 0 fr0 st n (by omega) (by omega) Kp.refl z8 h0
  with⟨FR,s',h1,h2,h3⟩|⟨FR,s',h1,h2,⟨j,h3,h4,h5⟩⟩
 ·refine⟨.negSucc 0,s',Ve (mf:=wf73) (fr:=FR.set 4 (some (.int .i64 (.negSucc 0)))) t73 rfl (.inl ?w1) (h2.1.trans zd) ?w2,.inl ⟨rfl,h3⟩⟩
  case w1=>
   refine (hfr0 _ _).trans ?_
   simp only[amE,rQ,rA,h1,b00]
  case w2=>simp only[wf73,amE,Fr.get_set,↓reduceIte]
 ·refine⟨.ofNat j,s',Ve (mf:=wf73) (fr:=FR) t73 rfl (.inl ?w3) h2 ?w4,.inr ⟨j,rfl,h4,h5⟩⟩
  case w3=>
   refine (hfr0 _ _).trans ?_
   simp only[amE,rQ,rA,h1,b00]
  case w4=>simp only[wf73,amE,h3]
theorem contains63_run{q n:Nat}{Y:Vi}{F:Nat->Prop}{st0:St}{sl:AV}{xs:List Int}{caps:List AV}{Inv:Nat->St->Prop}{Fin:Nat->St->Prop}(hsl:SlI F st0 sl xs)
  (hI:∀ k s,Inv k s->Vs F st0 s)
  (hcb:∀ k x s,xs[k]?=some x->Inv k s->∃ b s',R n Y q (.int .i64 x::caps) s=.ret (.bool b) s'/\(b=true->Fin k s')/\(b=false->Inv (k+1) s'))
  (st:St) (h0:Inv 0 st) (hn:xs.length < n):
  ∃ b s',R (n+2) Y 63 [sl,.func (.func q) [] caps] st=.ret (.bool b) s'/\((b=false/\Inv xs.length s')\/(b=true/\∃ j,j < xs.length/\Fin j s')):=by
 obtain⟨r,s',hr,hc⟩:=idx73_run hsl hI hcb st h0 hn
 have hr':((gT (n+1)).cg Y).fn 73 [sl,.func (.func q) [] caps] st=.ret (.int .i64 r) s':=hr
 have hg:Vr false .geq (.int .i64 r) Z0=some (.bool (decide (r>=0))):=rfl
 refine⟨decide (r>=0),s',?_,?_⟩
 ·refine Ve (mf:=wf63) (fr:=?a0) t63 rfl (.inl ?a1) ?a2 ?a3
  case a1=>
   simp only[amE,rQ,rA,wf63,hr',hg]
   rfl
  case a2=>rfl
  case a3=>simp only[wf63,amE,Fr.get_set,↓reduceIte]
 ·rcases hc with⟨rfl,h⟩|⟨j,rfl,h1,h2⟩
  ·exact .inl ⟨rfl,h⟩
  ·exact .inr ⟨by simp,j,h1,h2⟩
def wb162_0:Vn:=(ZQ [ZV 10 8,ZV 5 10]
 (ZQ [ZV 11 1,ZV 12 0,ZV 13 5,ZP 14 2 12 13,ZK 15 2 14,ZO 16 (.call (.t 11) [(.t 15)])]
 (.cond (.t 16)
 (ZR [ZV 17 5,ZV 4 17])
 .skip)))
def wf162:Vm:=⟨19,(ZQ [ZM 4 (ZC 0)]
 (.seq (ZQ [ZV 6 0,ZN 7 6,ZM 8 (ZC 0)]
 (.block 0 (.loop (lb 9 8 7 18 wb162_0))))
 (ZR [ZM 4 (.c (.int .i64 (.negSucc 0)))]))),[.t 4]⟩
theorem t162:tbl 162=some wf162:=by kernel_rfl
def wf113:Vm:=⟨9,(ZQ [ZM 4 (ZB false)]
 (ZR [ZV 5 0,ZV 6 1,ZX 7 162 [(.t 5),(.t 6)],ZO 8 (.bin false .geq (.t 7) (ZC 0)),ZV 4 8])),[.t 4]⟩
theorem t113:tbl 113=some wf113:=by kernel_rfl
theorem idx162_run{q n:Nat}{Y:Vi}{F:Nat->Prop}{st0:St}{sl:AV}{xs:List (List AV)}{caps:List AV}{Inv:Nat->St->Prop}{Fin:Nat->St->Prop}(hsl:SlN 2 F st0 sl xs)
  (hI:∀ k s,Inv k s->Vs F st0 s)
  (hcb:∀ k x s,xs[k]?=some x->Inv k s->∃ b s',R n Y q (.agg x::caps) s=.ret (.bool b) s'/\(b=true->Fin k s')/\(b=false->Inv (k+1) s'))
  (st:St) (h0:Inv 0 st) (hn:xs.length < n):
  ∃ r s',R (n+1) Y 162 [sl,.func (.func q) [] caps] st=.ret (.int .i64 r) s'/\((r=.negSucc 0/\Inv xs.length s')\/(∃ j:Nat,r=.ofNat j/\j < xs.length/\Fin j s')):=by
 have hlen:=hsl.len st
 obtain⟨fr0,hfr0,z0,z1,z7,z8,zd⟩:∃ fr0,(∀ L T,ac n Y (ZQ [ZM 4 (ZC 0)] (.seq (ZQ [ZV 6 0,ZN 7 6,ZM 8 (ZC 0)] L) T)) none (Vo 0 [sl,.func (.func q) [] caps] Fr.nil) st=match ac n Y L none fr0 st with
    | .norm fr st=>ac n Y T none fr st
    | r=>r)
   /\ fr0.get 0=some sl/\fr0.get 1=some (.func (.func q) [] caps)/\fr0.get 7=some (ZI xs.length)/\fr0.get 8=some Z0/\fr0.ds=[]:=by
  refine⟨?f0,?f1,?f2,?f3,?f4,?f5,?f7⟩
  case f1=>
   intro L T
   simp only[amE,rQ,rA,hlen]
   rfl
  case f2=>simp only[Vo,Fr.get_set,rA,rQ,↓reduceIte]
  case f3=>simp only[Vo,Fr.get_set,rA,rQ,↓reduceIte]
  case f4=>simp only[Fr.get_set,rQ,↓reduceIte]
  case f5=>simp only[Fr.get_set,↓reduceIte]
  case f7=>rfl
 have b00:Nat.beq 0 0=true:=rfl
 have hB:∀ k fr s,k < xs.length->Kp [0,1,7] fr0 fr->fr.get 8=some (ZI k)->Inv k s ->
   (∃ FR s',ac n Y wb162_0 none fr s=.norm FR s'/\Kp [8,0,1,7] fr FR/\Inv (k+1) s') ∨
   (∃ FR s',ac n Y wb162_0 none fr s=.ret FR s'/\(FR.ds=[]/\(∃ j:Nat,FR.get 4=some (ZI j)/\j < xs.length/\Fin j s'))):=by
  intro k fr s hk hkp g8 hi
  have hx:xs[k]?=some xs[k]:=Qn hk
  generalize xs[k]=x at hx
  obtain⟨p,ia,ld⟩:=hsl.at hx
  have ld:=ld s (hI k s hi)
  obtain⟨b,s',hc,h1,h2⟩:=hcb k x s hx hi
  have hc':((gT n).cg Y).fn q (.agg x::caps) s=.ret (.bool b) s':=hc
  have q0:=hkp.at (k:=0) (by decide) z0
  have q1:=hkp.at (k:=1) (by decide) z1
  cases b with
  | true=>
   refine .inr ⟨?r0,s',?r1,?r2,⟨k,?r3,hk,h1 rfl⟩⟩
   case r1=>
    simp only[amE,rQ,rA,wb162_0,q0,q1,g8,ia,ld,hc']
    rfl
   case r2=>exact hkp.1.trans zd
   case r3=>simp only[Fr.get_set,↓reduceIte]
  | false=>
   refine .inl ⟨?v0,s',?v1,?v2,h2 rfl⟩
   case v1=>
    simp only[amE,rQ,rA,wb162_0,q0,q1,g8,ia,ld,hc']
    rfl
   case v2=>repeat (first | exact Kp.refl | refine Kp.set (by decide) ?_)
 have hbd:=hsl.2.2.1
 rcases kloop (Γ:=gT n) (Y:=Y) (m:=n) (N:=xs.length) (c:=9) (i:=8) (n:=7) (i2:=18) (ro:=none) (L:=[0,1,7]) (fr0:=fr0) (by decide) (by decide) (by decide) (by decide) z7 (by omega)
  (Q:=fun k _ s=>Inv k s) (fun _ _ _ _ _ _ h=>h) hB xs.length 0 fr0 st n (by omega) (by omega) Kp.refl z8 h0
  with⟨FR,s',h1,h2,h3⟩|⟨FR,s',h1,h2,⟨j,h3,h4,h5⟩⟩
 ·refine⟨.negSucc 0,s',Ve (mf:=wf162) (fr:=FR.set 4 (some (.int .i64 (.negSucc 0)))) t162 rfl (.inl ?w1) (h2.1.trans zd) ?w2,.inl ⟨rfl,h3⟩⟩
  case w1=>
   refine (hfr0 _ _).trans ?_
   simp only[amE,rQ,rA,h1,b00]
  case w2=>simp only[wf162,amE,Fr.get_set,↓reduceIte]
 ·refine⟨.ofNat j,s',Ve (mf:=wf162) (fr:=FR) t162 rfl (.inl ?w3) h2 ?w4,.inr ⟨j,rfl,h4,h5⟩⟩
  case w3=>
   refine (hfr0 _ _).trans ?_
   simp only[amE,rQ,rA,h1,b00]
  case w4=>simp only[wf162,amE,h3]
theorem contains113_run{q n:Nat}{Y:Vi}{F:Nat->Prop}{st0:St}{sl:AV}{xs:List (List AV)}{caps:List AV}{Inv:Nat->St->Prop}{Fin:Nat->St->Prop}(hsl:SlN 2 F st0 sl xs)
  (hI:∀ k s,Inv k s->Vs F st0 s)
  (hcb:∀ k x s,xs[k]?=some x->Inv k s->∃ b s',R n Y q (.agg x::caps) s=.ret (.bool b) s'/\(b=true->Fin k s')/\(b=false->Inv (k+1) s'))
  (st:St) (h0:Inv 0 st) (hn:xs.length < n):
  ∃ b s',R (n+2) Y 113 [sl,.func (.func q) [] caps] st=.ret (.bool b) s'/\((b=false/\Inv xs.length s')\/(b=true/\∃ j,j < xs.length/\Fin j s')):=by
 obtain⟨r,s',hr,hc⟩:=idx162_run hsl hI hcb st h0 hn
 have hr':((gT (n+1)).cg Y).fn 162 [sl,.func (.func q) [] caps] st=.ret (.int .i64 r) s':=hr
 have hg:Vr false .geq (.int .i64 r) Z0=some (.bool (decide (r>=0))):=rfl
 refine⟨decide (r>=0),s',?_,?_⟩
 ·refine Ve (mf:=wf113) (fr:=?a0) t113 rfl (.inl ?a1) ?a2 ?a3
  case a1=>
   simp only[amE,rQ,rA,wf113,hr',hg]
   rfl
  case a2=>rfl
  case a3=>simp only[wf113,amE,Fr.get_set,↓reduceIte]
 ·rcases hc with⟨rfl,h⟩|⟨j,rfl,h1,h2⟩
  ·exact .inl ⟨rfl,h⟩
  ·exact .inr ⟨by simp,j,h1,h2⟩
theorem any63{q n:Nat}{Y:Vi}{F:Nat->Prop}{sl:AV}{xs:List Int}{caps:List AV}{st:St}(hsl:SlI F st sl xs)(p:Int->Bool)(hp:∀ x∈xs,R n Y q (.int .i64 x::caps) st=.ret (.bool (p x)) st)(hn:xs.length < n):
  R (n+2) Y 63 [sl,.func (.func q) [] caps] st=.ret (.bool (xs.any p)) st:=by
 obtain⟨b,s',hr,hc⟩:=contains63_run (n:=n) (Y:=Y) (q:=q) (caps:=caps) (Inv:=fun k s=>s=st/\(xs.take k).any p=false) (Fin:=fun k s=>s=st/\∃ x,xs[k]?=some x/\p x=true) hsl (fun _ _ h=>by rw[h.1];exact Vs.refl _ _)
  (fun k x s hx hi=>by
   obtain⟨rfl,hi⟩:=hi
   refine⟨p x,s,hp x (Qr hx),fun h=>⟨rfl,x,hx,h⟩,fun h=>⟨rfl,?_⟩⟩
   rw[QT,hx,List.any_append,hi]
   simp[h]) st ⟨rfl,by simp⟩ hn
 rcases hc with⟨rfl,rfl,h⟩|⟨rfl,j,hj,rfl,x,hx,h⟩
 ·rw[QH] at h
  rw[hr,h]
 ·rw[hr,List.any_eq_true.2 ⟨x,Qr hx,h⟩]
end
end Go.AM.D32
