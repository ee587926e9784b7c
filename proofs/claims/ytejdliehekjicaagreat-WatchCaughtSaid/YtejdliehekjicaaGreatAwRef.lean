import Derived.Test.YtejdliehekjicaaGreatAwTbl
import Derived.Test.YtejdliehekjicaaGreatAwFast2
import Derived.KernelRfl
set_option maxRecDepth 100000
set_option linter.unusedSimpArgs false
namespace Go.AM.D32
open Go Go.AM
open Nat renaming reduceEqDiff -> rQ, reduceAdd -> rA
theorem Js{Ry:Nat->Option Vm}{aF:RC->Nat->Vi->Nat->List AV->St->FR}{f:Nat}{mf:Vm}(h:Ry f=some mf)(n:Nat)(Y:Vi)(args:List AV)(st:St):
  Ji Ry aF (n+1) Y f args st=WK (Yt Ry aF n) Y n (defT Ry (Yt Ry aF n) Y n) mf args st:=by
 simp only[Ji,h];rfl
theorem t121:Ry 121=some m121:=by kernel_rfl
theorem t79:Ry 79=some m79:=by kernel_rfl
theorem t101:Ry 101=some m101:=by kernel_rfl
theorem t223:Ry 223=some m223:=by kernel_rfl
theorem t224:Ry 224=some m224:=by kernel_rfl
theorem t103:Ry 103=some m103:=by kernel_rfl
theorem t163:Ry 163=some m163:=by kernel_rfl
theorem t115:Ry 115=some m115:=by kernel_rfl
noncomputable abbrev gT(n:Nat):RC:=Yt Ry Pb n
noncomputable abbrev ar(n:Nat)(Y:Vi):=Vj ((gT n).cg Y)
noncomputable abbrev ac(n:Nat)(Y:Vi):=Vh (gT n) Y n
noncomputable abbrev R(n:Nat)(Y:Vi):Nat->List AV->St->FR:=Ji Ry Pb n Y
theorem isNaN_run(n:Nat)(Y:Vi)(k:IntKind)(x:Int)(st:St):R (n+1) Y 121 [.int k x] st=.ret (.bool false) st:=by
 unfold R
 rw[Js t121]
 unfold WK
 have aR:Nat.ble [AV.int k x].length m121.N=true:=by rfl
 rw[aR]
 simp only[Qi]
 simp[m121,Vh,Vj,RD,R8,ev,Vo,Fr.put,Fr.get_set,Vv,Rz.isDefer,R4.of,Vr,binA,KK,T9,WY,VO,Vg,Vu,V0,Fr.nil]
def VS(x y:Int):Int:=if x < y then .negSucc 0 else if y < x then .ofNat 1 else .ofNat 0
theorem cmpI_run(n:Nat)(Y:Vi)(k:IntKind)(x y:Int)(st:St):R (n+2) Y 79 [.int k x,.int k y] st=.ret (.int .i64 (VS x y)) st:=by
 unfold R
 rw[Js t79]
 have ng:∀ z,((gT (n+1)).cg Y).fn 121 [.int k z] st=.ret (.bool false) st:=fun z=>isNaN_run n Y k z st
 unfold WK
 have aR:Nat.ble [AV.int k x,AV.int k y].length m79.N=true:=by rfl
 rw[aR]
 simp only[Qi]
 by_cases h1:x < y
 ·simp[m79,Vh,Vj,RD,YJ,FR.toOp,ng,R8,ev,Vo,Fr.put,Fr.get_set,Vv,Rz.isDefer,R4.of,Vr,binA,KK,T9,WY,VO,Vg,Vu,V0,Fr.nil,h1,VS]
 ·by_cases h2:y < x
  ·simp[m79,Vh,Vj,RD,YJ,FR.toOp,ng,R8,ev,Vo,Fr.put,Fr.get_set,Vv,Rz.isDefer,R4.of,Vr,binA,KK,T9,WY,VO,Vg,Vu,V0,Fr.nil,h1,h2,VS]
  ·simp[m79,Vh,Vj,RD,YJ,FR.toOp,ng,R8,ev,Vo,Fr.put,Fr.get_set,Vv,Rz.isDefer,R4.of,Vr,binA,KK,T9,WY,VO,Vg,Vu,V0,Fr.nil,h1,h2,VS]
theorem wr_nat{i:Nat}(h:i<=9223372036854775807):wr .i64 (.ofNat i)=.ofNat i:=by
 have:in64 (.ofNat i)=true:=Qo h
 simp only[wr,this,Qi]
theorem WC{i:Nat}(h:i+1<=9223372036854775807):Vr false .add (ZI i) (ZI 1)=some (ZI ((i+1))):=by
 show some (AV.int .i64 (wr .i64 (.ofNat (i+1))))=_
 rw[wr_nat h]
theorem Wt(i n:Nat):Vr false .lss (ZI i) (ZI n)=some (.bool (decide (i < n))):=by
 show some (AV.bool (decide ((Int.ofNat i) < Int.ofNat n)))=_
 congr 2
 simp
theorem geqN(i n:Nat):Vr false .geq (ZI i) (ZI n)=some (.bool (decide (n<=i))):=by
 show some (AV.bool (decide ((Int.ofNat i)>=Int.ofNat n)))=_
 congr 2
 simp
theorem Yk(x y:Int):Vr false .neq (.int .i64 x) (.int .i64 y)=some (.bool (x != y)):=rfl
def orI(a b c:Int):Int:=if a≠0 then a else if b≠0 then b else c
theorem or_run(n:Nat)(Y:Vi)(a b c:Int)(st:St):R (n+5) Y 101 [.lst 3 [.int .i64 a,.int .i64 b,.int .i64 c] true] st=.ret (.int .i64 (orI a b c)) st:=by
 unfold R
 rw[Js t101]
 unfold WK
 have aR:Nat.ble [AV.lst 3 [.int .i64 a,.int .i64 b,.int .i64 c] true].length m101.N=true:=by rfl
 rw[aR]
 simp only[Qi]
 have e0:∀ x:Int,(x != Int.ofNat 0)=decide (x≠0):=fun x=>by
  by_cases h:x=0
  ·subst h;rfl
  ·simp[h]
 have Rx:Nat.beq 0 0=true:=rfl
 have kK:Nat.beq 0 1=false:=rfl
 have jj:Nat.beq 1 0=false:=rfl
 have l0:VD 0 (AV.lst 3 [.int .i64 a,.int .i64 b,.int .i64 c] true)=true:=rfl
 have s0:Vr false .lss Z0 (ZI 3)=some (.bool true):=rfl
 have s1:Vr false .lss (ZI 1) (ZI 3)=some (.bool true):=rfl
 have s2:Vr false .lss (ZI 2) (ZI 3)=some (.bool true):=rfl
 have s3:Vr false .lss (ZI 3) (ZI 3)=some (.bool false):=rfl
 have a0:Vr false .add Z0 (ZI 1)=some (ZI 1):=rfl
 have a1:Vr false .add (ZI 1) (ZI 1)=some (ZI 2):=rfl
 have a2:Vr false .add (ZI 2) (ZI 1)=some (ZI 3):=rfl
 have i0:VC 1 (AV.lst 3 [.int .i64 a,.int .i64 b,.int .i64 c] true) Z0=some (.fptr [.int .i64 a,.int .i64 b,.int .i64 c] 0):=rfl
 have i1:VC 1 (AV.lst 3 [.int .i64 a,.int .i64 b,.int .i64 c] true) (ZI 1)=some (.fptr [.int .i64 a,.int .i64 b,.int .i64 c] 1):=rfl
 have i2:VC 1 (AV.lst 3 [.int .i64 a,.int .i64 b,.int .i64 c] true) (ZI 2)=some (.fptr [.int .i64 a,.int .i64 b,.int .i64 c] 2):=rfl
 have d0:Vf false 1 st (.fptr [.int .i64 a,.int .i64 b,.int .i64 c] 0)=some (.int .i64 a):=rfl
 have d1:Vf false 1 st (.fptr [.int .i64 a,.int .i64 b,.int .i64 c] 1)=some (.int .i64 b):=rfl
 have d2:Vf false 1 st (.fptr [.int .i64 a,.int .i64 b,.int .i64 c] 2)=some (.int .i64 c):=rfl
 have ln:Wm st (AV.lst 3 [.int .i64 a,.int .i64 b,.int .i64 c] true)=some (ZI 3):=rfl
 have hx:∀ x:Int,(x=0/\(x != Int.ofNat 0)=false)\/(x≠0/\(x != Int.ofNat 0)=true):=fun x=>by
  rw[e0]
  by_cases h:x=0
  ·exact .inl ⟨h,by simp[h]⟩
  ·exact .inr ⟨h,by simp[h]⟩
 clear e0
 rcases hx a with⟨ha,na⟩|⟨ha,na⟩
 ·have ho:orI a b c=if b≠0 then b else c:=by simp[orI,ha]
  rw[ho];clear ho ha
  rcases hx b with⟨hb,nb⟩|⟨hb,nb⟩
  ·have ho:(if b≠0 then b else c)=c:=by simp[hb]
   rw[ho];clear ho hb
   rcases hx c with⟨hc,nc⟩|⟨hc,nc⟩
   ·have ho:c=Int.ofNat 0:=hc
    have hg:FR.ret (AV.int .i64 c) st=FR.ret Z0 st:=by rw[ho]
    rw[hg];clear hg ho hc
    simp only[rQ,↓reduceIte,Q9,reduceCtorEq,Qg,Ql,Qi,Qq,Fr.set_ds,Rx,kK,jj,m101,Vh,Vj,RD,R8,ev,Vo,Fr.put,Fr.get_set,Vv,Rz.isDefer,R4.of,WY,VO,Vg,Vu,V0,Fr.nil,Vx,l0,ln,s0,s1,s2,s3,a0,a1,a2,i0,i1,i2,d0,d1,d2,Yk,na,nb,nc]
   ·clear hc
    simp only[rQ,↓reduceIte,Q9,reduceCtorEq,Qg,Ql,Qi,Qq,Fr.set_ds,Rx,kK,jj,m101,Vh,Vj,RD,R8,ev,Vo,Fr.put,Fr.get_set,Vv,Rz.isDefer,R4.of,WY,VO,Vg,Vu,V0,Fr.nil,Vx,l0,ln,s0,s1,s2,s3,a0,a1,a2,i0,i1,i2,d0,d1,d2,Yk,na,nb,nc]
  ·have ho:(if b≠0 then b else c)=b:=by simp[hb]
   rw[ho];clear ho hb
   simp only[rQ,↓reduceIte,Q9,reduceCtorEq,Qg,Ql,Qi,Qq,Fr.set_ds,Rx,kK,jj,m101,Vh,Vj,RD,R8,ev,Vo,Fr.put,Fr.get_set,Vv,Rz.isDefer,R4.of,WY,VO,Vg,Vu,V0,Fr.nil,Vx,l0,ln,s0,s1,s2,s3,a0,a1,a2,i0,i1,i2,d0,d1,d2,Yk,na,nb]
 ·have ho:orI a b c=a:=by simp[orI,ha]
  rw[ho];clear ho ha
  simp only[rQ,↓reduceIte,Q9,reduceCtorEq,Qg,Ql,Qi,Qq,Fr.set_ds,Rx,kK,jj,m101,Vh,Vj,RD,R8,ev,Vo,Fr.put,Fr.get_set,Vv,Rz.isDefer,R4.of,WY,VO,Vg,Vu,V0,Fr.nil,Vx,l0,ln,s0,s1,s2,s3,a0,a1,a2,i0,i1,i2,d0,d1,d2,Yk,na]
def Vd(st af:St):Prop:=st.next<=af.next/\∀ id,id < st.next->af.get id=st.get id
theorem Vd.refl(st:St):Vd st st:=⟨Qw _,fun _ _=>rfl⟩
theorem Vd.trans{a b c:St}(h:Vd a b)(k:Vd b c):Vd a c:=⟨QY h.1 k.1,fun id hi=>(k.2 id (Qz hi h.1)).trans (h.2 id hi)⟩
theorem Vd.new(st:St)(o:AO):Vd st (st.new o):=⟨by simp,fun id hi=>by rw[St.get_new,Qe (by omega)]⟩
theorem Vd.put{st af:St}(h:Vd st af)(id:Nat)(o:AO)(aZ:st.next<=id):Vd st (af.put id o):=⟨h.1,fun i hi=>by rw[St.get_put,Qe (by omega)];exact h.2 i hi⟩
def V7(nl ex:Bool)(xs:List (List AV)):AV:=bif nl then .nilsl else .lst xs.length xs.flatten ex
noncomputable def Kb(zs:List AV):Vn:=(ZQ [ZO 14 (.bin false .lss (.t 13) (.t 12))]
 (.seq (.cond (.t 14)
 .skip
 (.exit 0))
 (.seq (.block 1 (ZQ [ZV 15 13,ZP 16 3 11 13,ZK 17 3 16,ZO 8 (.alloc zs),ZV 7 15,ZS 3 8 17]
 (.seq (ZQ [ZV 18 7,ZV 19 1,ZN 20 19,ZO 21 (.bin false .geq (.t 18) (.t 20))]
 (.cond (.t 21)
 (ZR [ZM 6 (ZC 1)])
 .skip))
 (ZQ [ZV 22 1,ZV 23 7,ZP 24 3 22 23,ZK 25 3 24,ZO 9 (.alloc zs),ZS 3 9 25]
 (ZQ [ZV 26 2,ZK 27 3 8,ZK 28 3 9,ZO 29 (.call (.t 26) [(.t 27),(.t 28)]),ZV 10 29]
 (ZQ [ZV 30 10,ZO 31 (.bin false .neq (.t 30) (ZC 0))]
 (.cond (.t 31)
 (ZR [ZV 32 10,ZV 6 32])
 .skip)))))))
 (.region [ZO 33 (.bin false .add (.t 13) (ZC 1)),ZV 13 33]))))
noncomputable def cfM(zs:List AV):Vm:=⟨39,(ZQ [ZM 6 (ZC 0)]
 (.seq (ZQ [ZV 11 0,ZN 12 11,ZM 13 (ZC 0)]
 (.block 0 (.loop (Kb zs))))
 (.seq (ZQ [ZV 34 0,ZN 35 34,ZV 36 1,ZN 37 36,ZO 38 (.bin false .lss (.t 35) (.t 37))]
 (.cond (.t 38)
 (ZR [ZM 6 (.c (.int .i64 (.negSucc 0)))])
 .skip))
 (ZR [ZM 6 (ZC 0)])))),[.t 6]⟩
theorem t152:Ry 152=some (cfM [Z0,Z0,.nilsl]):=by kernel_rfl
theorem t270:Ry 270=some (cfM [Z0,.nilsl,.nilsl]):=by kernel_rfl
def Yi{E:Type}(c:E->E->Int):List E->List E->Option Int
 | [],_=>none
 | _::_,[]=>some (.ofNat 1)
 | x::xs,y::ys=>if c x y=0 then Yi c xs ys else some (c x y)
def YS{E:Type}(c:E->E->Int)(xs ys:List E):Int:=
 match Yi c xs ys with
 | some r=>r
 | none=>if xs.length < ys.length then .negSucc 0 else .ofNat 0
theorem flat_at{xs:List (List AV)}(h3:∀ x∈xs,x.length=3):∀{i:Nat} {x:List AV},xs[i]?=some x->(xs.flatten.drop (i*3)).take 3=x:=by
 induction xs with
 | nil=>intro i x h;simp at h
 | cons y ys ih=>
  intro i x h
  have hy:=h3 y (by simp)
  cases i with
  | zero=>
   simp only[Q0,Qa] at h;subst h
   simp only[Xc,Nat.zero_mul,Xw]
   rw[XG (by omega),Xx (by omega)]
  | succ i=>
   simp only[QE] at h
   have:=ih (fun x hx=>h3 x (by simp[hx])) h
   rw[<-this]
   congr 1
   simp only[Xc]
   rw[show (i+1)*3=y.length+i*3 by omega,ZZ]
   simp
theorem mem_flat{x:List AV}:∀{xs:List (List AV)},x∈xs->x.length<=xs.flatten.length
 | y::ys,h=>by
  simp only[Xc,QJ]
  rcases Qx.1 h with rfl | h
  ·omega
  ·have:=mem_flat h;omega
theorem iaddr_sl{nl ex:Bool}{xs:List (List AV)}(h3:∀ x∈xs,x.length=3)(lU:nl=true->xs=[]){i:Nat}{x:List AV}(hx:xs[i]?=some x):
  VC 3 (V7 nl ex xs) (ZI i)=some (.fptr xs.flatten (i*3)):=by
 have hi:=(Qt.1 hx).1
 cases nl with
 | true=>rw[lU rfl] at hi;simp at hi
 | false=>
  simp only[V7,Qq,VC]
  rw[Qo (show i+1<=xs.length from hi)]
  simp only[Qi]
  split
  ·rename_i he
   have hm:x∈xs:=Qr hx
   have h1:=h3 x hm
   have h2:=mem_flat hm
   rw[he,h1] at h2
   simp at h2
  ·rfl
theorem load_sl{xs:List (List AV)}(h3:∀ x∈xs,x.length=3){i:Nat}{x:List AV}(hx:xs[i]?=some x)(st:St):Vf true 3 st (.fptr xs.flatten (i*3))=some (.agg x):=by
 simp only[Vf,Wy,Qg,flat_at h3 hx,Ja,Qi]
 rw[h3 x (Qr hx)]
 rfl
theorem len_sl(nl ex:Bool)(xs:List (List AV))(lU:nl=true->xs=[])(st:St):(bif VD 0 (V7 nl ex xs) then Wm st (V7 nl ex xs) else none)=some (ZI xs.length):=by
 cases nl with
 | true=>rw[lU rfl];rfl
 | false=>rfl
theorem Se{st:St}{zs x:List AV}(hz:zs.length=3)(hx:x.length=3)(h1:x.all AV.one=true):Vt 3 (st.new (.row zs)) (.ptr st.next 0) (.agg x)=some ((st.new (.row zs)).put st.next (.row x)):=by
 simp only[Vt,St.get_new,Xj,AV.cells,hx,hz,h1]
 have:setCells zs 0 x=x:=by
  simp only[setCells,Xe,QR,Q7]
  rw[XX (by omega)];simp
 rw[this];rfl
theorem load_row{st:St}{id:Nat}{x:List AV}(hg:st.get id=some (.row x))(hx:x.length=3):Vf true 3 st (.ptr id 0)=some (.agg x):=by
 simp only[Vf,Wy,hg,Qg,Xw]
 rw[Xx (by omega)]
 simp only[Ja,Qi,hx]
 rfl
section
variable {n:Nat} {Y:Vi} {zs:List AV} {aP aM aX aS:Bool} {xs ys:List (List AV)} {c:List AV->List AV->Int} {g:Nat}
theorem cf_loop(hz:zs.length=3)(h3:∀ x∈xs,x.length=3/\x.all AV.one=true)(gV:∀ y∈ys,y.length=3/\y.all AV.one=true)(dg:aP=true->xs=[])(eo:aX=true->ys=[])(hb:xs.length<=9223372036854775807)
  (hc:∀ x∈xs,∀ y∈ys,∀ st,∃ af,R n Y g [.agg x,.agg y] st=.ret (.int .i64 (c x y)) af/\Vd st af) (m:Nat):
  ∀(r1:List (List AV)) (r2:List (List AV)) (i:Nat) (fr:Fr) (st:St) (k:Nat),xs.drop i=r1->ys.drop i=r2->i<=xs.length->i<=ys.length->r1.length < k ->
   fr.get 0=some (V7 aP aM xs)->fr.get 1=some (V7 aX aS ys)->fr.get 2=some (.func (.func g) [] [])->fr.get 11=some (V7 aP aM xs)->fr.get 12=some (ZI xs.length)->fr.get 13=some (ZI i) ->
   ∃ aa af,Vd st af/\aa.ds=fr.ds/\(match Yi c r1 r2 with
    | some r=>Vx (Vh (gT n) Y m (Kb zs) none) k fr st=.ret aa af/\aa.get 6=some (.int .i64 r)
    | none=>Vx (Vh (gT n) Y m (Kb zs) none) k fr st=.exit 0 aa af/\aa.get 0=some (V7 aP aM xs)/\aa.get 1=some (V7 aX aS ys))
 | [],r2,i,fr,st,k+1,h1,h2,hi,cj,hk,g0,g1,g2,dj,cw,eR=>by
  have al:xs.length<=i:=by
   have:=Xn List.length h1
   simp at this;omega
  have am:Vr false .lss (ZI i) (ZI xs.length)=some (.bool false):=by rw[Wt];simp;omega
  simp only[Yi]
  refine⟨?fr,?st,?k,?d,?r,?f,?g⟩
  case r=>
   simp only[Kb,Vx,rQ,↓reduceIte,Q9,reduceCtorEq,Qg,Ql,Qi,Qq,Fr.set_ds,Vh,Vj,RD,R8,ev,Fr.put,Fr.get_set,Vv,Rz.isDefer,R4.of,R4.ofSt,YJ,FR.toOp,Q4,QZ,QR,QG,QP,eR,cw,am]
   rfl
  case k=>exact Vd.refl st
  case d=>rfl
  case f=>simp only[Fr.get_set,rQ,↓reduceIte,g0]
  case g=>simp only[Fr.get_set,rQ,↓reduceIte,g1]
 | x::r1,[],i,fr,st,k+1,h1,h2,hi,cj,hk,g0,g1,g2,dj,cw,eR=>by
  have hx:xs[i]?=some x:=by
   have:=Xn (fun l=>l[0]?) h1
   simpa [XV] using this
  have al:i < xs.length:=(Qt.1 hx).1
  have lV:ys.length<=i:=by
   have:=Xn List.length h2
   simp at this;omega
  have am:Vr false .lss (ZI i) (ZI xs.length)=some (.bool true):=by rw[Wt];simp;omega
  have ni:Vr false .geq (ZI i) (ZI ys.length)=some (.bool true):=by rw[geqN];simp;omega
  have fV:=h3 x (Qr hx)
  have ia:=iaddr_sl (ex:=aM) (fun x hx=>(h3 x hx).1) dg hx
  have ld:=load_sl (fun x hx=>(h3 x hx).1) hx st
  have bj:=Se (st:=st) hz fV.1 fV.2
  have l2:=len_sl aX aS ys eo ((st.new (.row zs)).put st.next (.row x))
  simp only[Yi]
  refine⟨?fr2,?st2,?k2,?d2,?r2,?f2⟩
  case r2=>
   simp only[Kb,Vx,rQ,↓reduceIte,Q9,reduceCtorEq,Qg,Ql,Qi,Qq,Fr.set_ds,Vh,Vj,RD,R8,ev,Fr.put,Fr.get_set,Vv,Rz.isDefer,R4.of,R4.ofSt,YJ,FR.toOp,Q4,QZ,QR,QG,QP,eR,cw,am,dj,ia,ld,bj,g1,l2,ni]
   rfl
  case k2=>exact(Vd.new st (.row zs)).put st.next (.row x) (Qw _)
  case d2=>rfl
  case f2=>simp only[Fr.get_set,rQ,↓reduceIte]
 | x::r1,y::r2,i,fr,st,k+1,h1,h2,hi,cj,hk,g0,g1,g2,dj,cw,eR=>by
  have hx:xs[i]?=some x:=by
   have:=Xn (fun l=>l[0]?) h1
   simpa [XV] using this
  have hy:ys[i]?=some y:=by
   have:=Xn (fun l=>l[0]?) h2
   simpa [XV] using this
  have al:i < xs.length:=(Qt.1 hx).1
  have lV:i < ys.length:=(Qt.1 hy).1
  have am:Vr false .lss (ZI i) (ZI xs.length)=some (.bool true):=by rw[Wt];simp;omega
  have ni:Vr false .geq (ZI i) (ZI ys.length)=some (.bool false):=by rw[geqN];simp;omega
  have lK:=Qr hx
  have wI:=Qr hy
  have fV:=h3 x lK
  have oQ:=gV y wI
  have ia:=iaddr_sl (ex:=aM) (fun x hx=>(h3 x hx).1) dg hx
  have ib:=iaddr_sl (ex:=aS) (fun x hx=>(gV x hx).1) eo hy
  have ld:=load_sl (fun x hx=>(h3 x hx).1) hx st
  have bj:=Se (st:=st) hz fV.1 fV.2
  have l2:=len_sl aX aS ys eo ((st.new (.row zs)).put st.next (.row x))
  have ld2:=load_sl (fun x hx=>(gV x hx).1) hy ((st.new (.row zs)).put st.next (.row x))
  have bG:=Se (st:=(st.new (.row zs)).put st.next (.row x)) hz oQ.1 oQ.2
  have la:Vf true 3 ((((st.new (.row zs)).put st.next (.row x)).new (.row zs)).put ((st.new (.row zs)).put st.next (.row x)).next (.row y)) (.ptr st.next 0)=some (.agg x):=load_row (by simp) fV.1
  have lb:Vf true 3 ((((st.new (.row zs)).put st.next (.row x)).new (.row zs)).put ((st.new (.row zs)).put st.next (.row x)).next (.row y)) (.ptr ((st.new (.row zs)).put st.next (.row x)).next 0)=some (.agg y):=load_row (by simp) oQ.1
  obtain⟨RM,ay,pZ⟩:=hc x lK y wI ((((st.new (.row zs)).put st.next (.row x)).new (.row zs)).put ((st.new (.row zs)).put st.next (.row x)).next (.row y))
  have aC:((gT n).cg Y).fn g [.agg x,.agg y] ((((st.new (.row zs)).put st.next (.row x)).new (.row zs)).put ((st.new (.row zs)).put st.next (.row x)).next (.row y))=.ret (.int .i64 (c x y)) RM:=ay
  have nj:Vd st RM:=by
   refine Vd.trans ?_ pZ
   refine Vd.put (Vd.trans ((Vd.new st (.row zs)).put st.next (.row x) (Qw _)) (Vd.new _ (.row zs))) _ _ (by simp)
  have jj:Nat.beq 1 0=false:=rfl
  have kK:Nat.beq 0 1=false:=rfl
  by_cases cP:c x y=0
  ·have az:Vr false .neq (.int .i64 (c x y)) Z0=some (.bool false):=by rw[Yk,cP];rfl
   have aU:=WC (i:=i) (by omega)
   obtain⟨FR,ax,e0,e1,e2,yK,yL,yM,eds⟩:∃ FR,Vh (gT n) Y m (Kb zs) none fr st=.norm FR RM/\FR.get 0=some (V7 aP aM xs)/\FR.get 1=some (V7 aX aS ys)/\FR.get 2=some (.func (.func g) [] []) ∧
     FR.get 11=some (V7 aP aM xs)/\FR.get 12=some (ZI xs.length)/\FR.get 13=some (ZI ((i+1)))/\FR.ds=fr.ds:=by
    refine⟨?fr3,?r3,?a0,?a1,?a2,?a11,?a12,?a13,?ad⟩
    case r3=>
     simp only[Kb,rQ,↓reduceIte,Q9,reduceCtorEq,Qg,Ql,Qi,Qq,Fr.set_ds,Vh,Vj,RD,R8,ev,Fr.put,Fr.get_set,Vv,Rz.isDefer,R4.of,R4.ofSt,YJ,FR.toOp,Q4,QZ,QR,QG,QP,eR,cw,am,dj,ia,ld,bj,g1,l2,ni,ib,ld2,bG,la,lb,g2,aC,az,aU]
     rfl
    case a0=>simp only[Fr.get_set,rQ,↓reduceIte,g0]
    case a1=>simp only[Fr.get_set,rQ,↓reduceIte,g1]
    case a2=>simp only[Fr.get_set,rQ,↓reduceIte,g2]
    case a11=>simp only[Fr.get_set,rQ,↓reduceIte,dj]
    case a12=>simp only[Fr.get_set,rQ,↓reduceIte,cw]
    case a13=>simp only[Fr.get_set,rQ,↓reduceIte]
    case ad=>rfl
   obtain⟨aa,af,q1,q2,q3⟩:=cf_loop hz h3 gV dg eo hb hc m r1 r2 (i+1) FR RM k (by rw[<-List.drop_drop,h1];rfl) (by rw[<-List.drop_drop,h2];rfl) (by omega) (by omega) (by simpa using hk) e0 e1 e2 yK yL yM
   refine⟨aa,af,nj.trans q1,q2.trans eds,?_⟩
   have hw:Yi c (x::r1) (y::r2)=Yi c r1 r2:=by simp only[Yi,cP,Xj]
   have hl:Vx (Vh (gT n) Y m (Kb zs) none) (k+1) fr st=Vx (Vh (gT n) Y m (Kb zs) none) k FR RM:=by
    rw[Vx,ax]
   rw[hw,hl]
   exact q3
  ·have az:Vr false .neq (.int .i64 (c x y)) Z0=some (.bool true):=by
    rw[Yk]
    have:(c x y != Int.ofNat 0)=true:=by simpa using cP
    rw[this]
   have hw:Yi c (x::r1) (y::r2)=some (c x y):=by simp only[Yi,cP,Xz]
   rw[hw]
   simp only
   refine⟨?fr4,?st4,?k4,?d4,?r4,?f4⟩
   case r4=>
    simp only[Kb,Vx,rQ,↓reduceIte,Q9,reduceCtorEq,Qg,Ql,Qi,Qq,Fr.set_ds,Vh,Vj,RD,R8,ev,Fr.put,Fr.get_set,Vv,Rz.isDefer,R4.of,R4.ofSt,YJ,FR.toOp,Q4,QZ,QR,QG,QP,eR,cw,am,dj,ia,ld,bj,g1,l2,ni,ib,ld2,bG,la,lb,g2,aC,az]
    rfl
   case k4=>exact nj
   case d4=>rfl
   case f4=>simp only[Fr.get_set,rQ,↓reduceIte]
 | _,_,_,_,_,0,_,_,_,_,hk,_,_,_,_,_,_=>by omega
theorem cf_run{f:Nat}(hf:Ry f=some (cfM zs))(hz:zs.length=3)(h3:∀ x∈xs,x.length=3/\x.all AV.one=true)(gV:∀ y∈ys,y.length=3/\y.all AV.one=true)(dg:aP=true->xs=[])(eo:aX=true->ys=[])(hb:xs.length<=9223372036854775807)
  (hc:∀ x∈xs,∀ y∈ys,∀ st,∃ af,R n Y g [.agg x,.agg y] st=.ret (.int .i64 (c x y)) af/\Vd st af) (hn:xs.length < n) (st:St):
  ∃ af,R (n+1) Y f [V7 aP aM xs,V7 aX aS ys,.func (.func g) [] []] st=.ret (.int .i64 (YS c xs ys)) af/\Vd st af:=by
 have l1:=len_sl aP aM xs dg
 have l2:=len_sl aX aS ys eo
 -- the slots at the loop's begin
 obtain⟨aa,af,hk,dR,hw⟩:=cf_loop (n:=n) (Y:=Y) (zs:=zs) (aM:=aM) (aS:=aS) hz h3 gV dg eo hb hc n xs ys 0
  ((((Vo 0 [V7 aP aM xs,V7 aX aS ys,.func (.func g) [] []] Fr.nil).set 6 (some Z0)).set 11 (some (V7 aP aM xs))).set 12 (some (ZI xs.length)) |>.set 13 (some Z0)) st n rfl rfl (X3 _) (X3 _) hn
  (by simp only[Vo,Fr.get_set,rQ,↓reduceIte]) (by simp only[Vo,Fr.get_set,rQ,↓reduceIte]) (by simp only[Vo,Fr.get_set,rQ,↓reduceIte])
  (by simp only[Vo,Fr.get_set,rQ,↓reduceIte]) (by simp only[Vo,Fr.get_set,rQ,↓reduceIte]) (by simp only[Vo,Fr.get_set,rQ,↓reduceIte])
 have nk:aa.ds=[]:=dR
 have Rx:Nat.beq 0 0=true:=rfl
 have aR:Nat.ble [V7 aP aM xs,V7 aX aS ys,.func (.func g) [] []].length (cfM zs).N=true:=rfl
 refine⟨af,?_,hk⟩
 unfold R
 rw[Js hf]
 unfold WK
 rw[aR]
 cases qa:Yi c xs ys with
 | some r=>
  rw[qa] at hw
  obtain⟨ha,h6⟩:=hw
  have iD:YS c xs ys=r:=by unfold YS;rw[qa]
  rw[iD]
  simp only[Vo] at ha
  simp only[cfM,Vo,rQ,↓reduceIte,Q9,reduceCtorEq,Qg,Ql,Qi,Qq,Fr.set_ds,Vh,Vj,RD,R8,ev,Fr.put,Fr.get_set,Vv,Rz.isDefer,R4.of,R4.ofSt,YJ,FR.toOp,Q4,QZ,QR,QG,QP,l1,ha,WY,nk,VO,Vg,Vu,V0,h6]
 | none=>
  rw[qa] at hw
  obtain⟨ha,g0,g1⟩:=hw
  simp only[Vo] at ha
  by_cases am:xs.length < ys.length
  ·have iD:YS c xs ys=.negSucc 0:=by unfold YS;rw[qa];simp only[am,Xj]
   have hl:Vr false .lss (ZI xs.length) (ZI ys.length)=some (.bool true):=by rw[Wt];simp[am]
   rw[iD]
   simp only[cfM,Vo,rQ,↓reduceIte,Q9,reduceCtorEq,Qg,Ql,Qi,Qq,Fr.set_ds,Vh,Vj,RD,R8,ev,Fr.put,Fr.get_set,Vv,Rz.isDefer,R4.of,R4.ofSt,YJ,FR.toOp,Q4,QZ,QR,QG,QP,l1,l2,ha,Rx,g0,g1,hl,WY,nk,VO,Vg,Vu,V0]
  ·have iD:YS c xs ys=.ofNat 0:=by unfold YS;rw[qa];simp only[am,Xz]
   have hl:Vr false .lss (ZI xs.length) (ZI ys.length)=some (.bool false):=by rw[Wt];simp[am]
   rw[iD]
   simp only[cfM,Vo,rQ,↓reduceIte,Q9,reduceCtorEq,Qg,Ql,Qi,Qq,Fr.set_ds,Vh,Vj,RD,R8,ev,Fr.put,Fr.get_set,Vv,Rz.isDefer,R4.of,R4.ofSt,YJ,FR.toOp,Q4,QZ,QR,QG,QP,l1,l2,ha,Rx,g0,g1,hl,WY,nk,VO,Vg,Vu,V0]
end
open Nat renaming reduceEqDiff -> rQ, reduceAdd -> rA
def isSl:AV->Bool
 | .lst _ _ _=>true
 | .nilsl=>true
 | _=>false
theorem isSl_sl(nl ex:Bool)(l:List (List AV)):isSl (V7 nl ex l)=true:=by cases nl<;>rfl
theorem len_isSl{v:AV}(h:isSl v=true)(st af:St):Wm st v=Wm af v:=by
 cases v<;>first | rfl | (simp[isSl] at h)
theorem avBeq_len(n:Nat):V8 (ZI n) (ZI n)=true:=by
 show (_&&Nat.beq n n)=true
 rw[QD];rfl
def okLin(fr:Fr):Rz->Bool
 | .alloc _=>false
 | .mksl _ _ _ _ _=>false
 | .len _ x=>isSl (ev fr x)
 | .load _ _ x=>frzX fr x
 | _=>true
def dlin(Γ:Cg):List (Vc × Nat)->Fr->St->Option (Fr × St)
 | [],fr,st=>some (fr,st)
 | z::zs,fr,st=>match z.1.guard with
  | some _=>none
  | none=>bif okLin fr z.1.op then match RD Γ fr st z.1.op with
    | .val v af=>dlin Γ zs (Fr.put fr z.1.dst v) af
    | _=>none else none
def loadB:Rz->Bool
 | .load _ _ _=>true
 | .len _ _=>true
 | _=>false
def chkLoads(zs:List (Vc × Nat))(chk:List (Nat × Option Nat)):Bool:=chk.all fun q=>match zs[q.1]? with
 | some z=>loadB z.1.op
 | none=>true
def Ta:List (Vc × Nat)->Bool
 | []=>true
 | z::zs=>(match z.1.op with | .alloc _=>false | .mksl _ _ _ _ _=>false | _=>true)&&Ta zs
theorem TI:∀(zs:List (Vc × Nat)) (ns:List Nat) (st:St),Ta zs=true->VT zs ns st=st
 | [],_,_,_=>rfl
 | z::zs,ns,st,h=>by
  simp only[Ta,Qd] at h
  rcases UB z zs ns st with⟨h2,_⟩|⟨_,h2⟩
  ·have h1:=h.1
   cases ho:z.1.op<;>rw[ho] at h1 h2<;>simp_all [Rz.ahead]
  ·rw[h2];exact TI zs ns st h.2
theorem drun_lin{Γ:Cg}:∀(zs:List (Vc × Nat)) (i id:Nat) (fr aa:Fr) (st af:St),dlin Γ zs fr st=some (aa,af) ->
  ∃ ak,Wq Γ zs i id fr st none=some (ak,aa,af)/\JE ak=none/\(∀(j:Nat) (f:Fr) (s:St) (v:AV) (s':St),ak[j]?=some (RF.pan f s v s')->False)/\∀(j:Nat) (z:Vc × Nat) (f:Fr) (s:St) (v:AV) (s':St),zs[j]?=some z->loadB z.1.op=true->ak[j]?=some (RF.val f s v s')->W0 z.1.op f=true\/∀ i s',YF Γ i f s' z.1.op v=true
 | [],i,id,fr,aa,st,af,h=>by
  simp only[dlin,Qa,Q2] at h
  obtain⟨rfl,rfl⟩:=h
  exact⟨[],rfl,rfl,by simp,by simp⟩
 | z::zs,i,id,fr,aa,st,af,h=>by
  unfold dlin at h
  cases hg:z.1.guard with
  | some g=>rw[hg] at h;cases h
  | none=>
   rw[hg] at h
   simp only at h
   cases hk:okLin fr z.1.op with
   | false=>rw[hk] at h;cases h
   | true=>
    rw[hk] at h
    simp only[Qi] at h
    have ho:V5 Γ id fr st z.1.op=RD Γ fr st z.1.op:=by
     unfold V5
     split
     ·rename_i h2;rw[h2] at hk;cases hk
     ·rename_i h2;rw[h2] at hk;cases hk
     ·rfl
    cases hr:RD Γ fr st z.1.op with
    | val v s1=>
     rw[hr] at h
     obtain⟨ak,h1,h2,h3,h4⟩:=drun_lin zs (i+1) (VJ id z.1.op) (Fr.put fr z.1.dst v) aa s1 af h
     refine⟨.val fr st v s1::ak,?_,?_,?_,?_⟩
     ·unfold Wq
      rw[hg,ho,hr]
      simp only[Ku,Qq,Vv]
      rw[h1];rfl
     ·exact h2
     ·intro j f s v s' hj
      cases j with
      | zero=>simp at hj
      | succ j=>exact h3 j f s v s' (by simpa using hj)
     ·intro j z' f s u s' hz hl hj
      cases j with
      | zero=>
       simp only[Q0,Qa,RF.val.injEq] at hz hj
       obtain⟨rfl,rfl,rfl,rfl⟩:=hj
       subst hz
       unfold loadB at hl
       split at hl
       ·rename_i a n x hx
        rw[hx] at hk ⊢
        exact .inl hk
       ·rename_i c x hx
        rw[hx] at hk hr ⊢
        refine .inr fun i s2=>?_
        have cf:isSl (ev fr x)=true:=hk
        simp only[YF,V5,RD,R8] at hr ⊢
        rw[len_isSl cf s2 st]
        cases hL:(bif VD c (ev fr x) then Wm st (ev fr x) else none) with
        | none=>rw[hL] at hr;cases hr
        | some q=>
         rw[hL] at hr
         simp only[R4.of,R4.val.injEq] at hr
         obtain⟨rfl,rfl⟩:=hr
         simp only[R4.of]
         cases hf:VD c (ev fr x) with
         | false=>rw[hf] at hL;cases hL
         | true=>
          rw[hf] at hL
          simp only[Qi] at hL
          cases he:ev fr x<;>rw[he] at cf hL<;>first | (simp[isSl] at cf;done) | (simp only[Wm,Qa] at hL;subst hL;exact avBeq_len _)
       ·cases hl
      | succ j=>exact h4 j z' f s u s' (by simpa using hz) hl (by simpa using hj)
    | pan v s1=>rw[hr] at h;cases h
    | stuck=>rw[hr] at h;cases h
theorem adraw_lin{Γ:Cg}{zs:List (Vc × Nat)}{chk:List (Nat × Option Nat)}{fr aa:Fr}{st af:St}(hc:chkLoads zs chk=true)(ha:Ta zs=true)(h:dlin Γ zs fr st=some (aa,af)):
  VK Γ zs chk fr st=.ok aa af:=by
 obtain⟨ak,h1,h2,h3,h4⟩:=drun_lin zs 0 st.next fr aa st af h
 have aA:chk.all (KE Γ zs ak st.next af)=true:=by
  rw[QB]
  intro q hq
  have hl:=QB.1 hc q hq
  unfold KE
  split
  ·rename_i z f s v s' hz hi
   rw[hz] at hl
   have hf:=h4 q.1 z f s v s' hz hl hi
   have tN:∀ i s',(W0 z.1.op f||YF Γ i f s' z.1.op v)=true:=fun i s'=>by
    rcases hf with hf | hf
    ·rw[hf];rfl
    ·rw[hf i s',XS]
   split
   ·split
    ·exact tN _ _
    ·split
     ·exact tN _ _
     ·exact tN _ _
     ·rfl
   ·rfl
  ·rfl
 unfold VK
 rw[TI zs _ st ha,h1]
 simp only[aA,Qi,h2]
theorem arun_nil{Γ:Cg}{fr:Fr}{st:St}:Vj Γ [] fr st=.ok fr st:=rfl
def RU(Γ:Cg)(dst:Option Nat)(gd:Option (Nat × Bool))(ms:List Vc)(fr:Fr)(st:St)(op:Rz):RR:=match Vv fr gd with
 | some true=>(match RD Γ fr st op with
  | .val v af=>Vj Γ ms (Fr.put fr dst v) af
  | .pan v af=>.pan fr v af
  | .stuck=>.stuck)
 | some false=>Vj Γ ms (Fr.put fr dst .undef) st
 | none=>.stuck
theorem VE{Γ:Cg}{d:Option Nat}{op:Rz}{g:Option (Nat × Bool)}{ms:List Vc}{fr:Fr}{st:St}(hd:op.isDefer=false):
  Vj Γ (⟨d,op,g⟩::ms) fr st=match Vv fr g with
   | some true=>(match RD Γ fr st op with
    | .val v af=>Vj Γ ms (Fr.put fr d v) af
    | .pan v af=>.pan fr v af
    | .stuck=>.stuck)
   | some false=>Vj Γ ms (Fr.put fr d .undef) st
   | none=>.stuck:=by
 conv=>lhs;unfold Vj
 rw[hd]
 rfl
section
variable {Γ:Cg} {dst:Option Nat} {gd:Option (Nat × Bool)} {ms:List Vc} {fr:Fr} {st:St}
theorem nd_mv{x}:Vj Γ (⟨dst,(Rz.mv x),gd⟩::ms) fr st=RU Γ dst gd ms fr st (Rz.mv x):=VE rfl
theorem nd_pick{a b c}:Vj Γ (⟨dst,(Rz.pick a b c),gd⟩::ms) fr st=RU Γ dst gd ms fr st (Rz.pick a b c):=VE rfl
theorem nd_alloc{x}:Vj Γ (⟨dst,(Rz.alloc x),gd⟩::ms) fr st=RU Γ dst gd ms fr st (Rz.alloc x):=VE rfl
theorem nd_box{a x}:Vj Γ (⟨dst,(Rz.box a x),gd⟩::ms) fr st=RU Γ dst gd ms fr st (Rz.box a x):=VE rfl
theorem nd_build{a b}:Vj Γ (⟨dst,(Rz.build a b),gd⟩::ms) fr st=RU Γ dst gd ms fr st (Rz.build a b):=VE rfl
theorem nd_bslice{a b c}:Vj Γ (⟨dst,(Rz.bslice a b c),gd⟩::ms) fr st=RU Γ dst gd ms fr st (Rz.bslice a b c):=VE rfl
theorem nd_load{a b c}:Vj Γ (⟨dst,(Rz.load a b c),gd⟩::ms) fr st=RU Γ dst gd ms fr st (Rz.load a b c):=VE rfl
theorem nd_store{a b c}:Vj Γ (⟨dst,(Rz.store a b c),gd⟩::ms) fr st=RU Γ dst gd ms fr st (Rz.store a b c):=VE rfl
theorem nd_nilchk{x}:Vj Γ (⟨dst,(Rz.nilchk x),gd⟩::ms) fr st=RU Γ dst gd ms fr st (Rz.nilchk x):=VE rfl
theorem nd_bin{a b c d}:Vj Γ (⟨dst,(Rz.bin a b c d),gd⟩::ms) fr st=RU Γ dst gd ms fr st (Rz.bin a b c d):=VE rfl
theorem nd_un{a b}:Vj Γ (⟨dst,(Rz.un a b),gd⟩::ms) fr st=RU Γ dst gd ms fr st (Rz.un a b):=VE rfl
theorem nd_faddr{a b}:Vj Γ (⟨dst,(Rz.faddr a b),gd⟩::ms) fr st=RU Γ dst gd ms fr st (Rz.faddr a b):=VE rfl
theorem nd_iaddr{a b c}:Vj Γ (⟨dst,(Rz.iaddr a b c),gd⟩::ms) fr st=RU Γ dst gd ms fr st (Rz.iaddr a b c):=VE rfl
theorem nd_len{a b}:Vj Γ (⟨dst,(Rz.len a b),gd⟩::ms) fr st=RU Γ dst gd ms fr st (Rz.len a b):=VE rfl
theorem nd_call{a b}:Vj Γ (⟨dst,(Rz.call a b),gd⟩::ms) fr st=RU Γ dst gd ms fr st (Rz.call a b):=VE rfl
theorem nd_eqnil{a b c d e}:Vj Γ (⟨dst,(Rz.eqnil a b c d e),gd⟩::ms) fr st=RU Γ dst gd ms fr st (Rz.eqnil a b c d e):=VE rfl
theorem nd_extract{a b}:Vj Γ (⟨dst,(Rz.extract a b),gd⟩::ms) fr st=RU Γ dst gd ms fr st (Rz.extract a b):=VE rfl
theorem nd_field{a b c d}:Vj Γ (⟨dst,(Rz.field a b c d),gd⟩::ms) fr st=RU Γ dst gd ms fr st (Rz.field a b c d):=VE rfl
theorem nd_append{a b c d e}:Vj Γ (⟨dst,(Rz.append a b c d e),gd⟩::ms) fr st=RU Γ dst gd ms fr st (Rz.append a b c d e):=VE rfl
theorem nd_conv{a b}:Vj Γ (⟨dst,(Rz.conv a b),gd⟩::ms) fr st=RU Γ dst gd ms fr st (Rz.conv a b):=VE rfl
theorem nd_mkif{a b}:Vj Γ (⟨dst,(Rz.mkif a b),gd⟩::ms) fr st=RU Γ dst gd ms fr st (Rz.mkif a b):=VE rfl
end
abbrev Rw:=
 And.intro @Xj.{1} <| And.intro @Xz.{1} <| And.intro @RU.eq_1 <| And.intro @Go.AM.Vh.eq_1 <| And.intro @Go.AM.Vh.eq_2 <| And.intro @Go.AM.Vh.eq_3 <| And.intro @Go.AM.Vh.eq_4 <| And.intro @Go.AM.Vh.eq_5 <| And.intro @Go.AM.Vh.eq_6 <| And.intro @Go.AM.Vh.eq_7 <| And.intro @Go.AM.Vh.eq_8 <| And.intro @Go.AM.Vh.eq_9 <| And.intro @Go.AM.Vh.eq_10 <| And.intro @Go.AM.Vh.eq_11 <| And.intro @Go.AM.Vh.eq_12 <| And.intro @Go.AM.RD.eq_1 <| And.intro @Go.AM.RD.eq_2 <| And.intro @Go.AM.R8.eq_1 <| And.intro @Go.AM.R8.eq_2 <| And.intro @Go.AM.R8.eq_3 <| And.intro @Go.AM.R8.eq_4 <| And.intro @Go.AM.R8.eq_5 <| And.intro @Go.AM.R8.eq_6 <| And.intro @Go.AM.R8.eq_7 <| And.intro @Go.AM.R8.eq_8 <| And.intro @Go.AM.R8.eq_9 <| And.intro @Go.AM.R8.eq_10 <| And.intro @Go.AM.R8.eq_11 <| And.intro @Go.AM.R8.eq_12 <| And.intro @Go.AM.R8.eq_13 <| And.intro @Go.AM.R8.eq_14 <| And.intro @Go.AM.R8.eq_15 <| And.intro @Go.AM.R8.eq_16 <| And.intro @Go.AM.R8.eq_17 <| And.intro @Go.AM.R8.eq_18 <| And.intro @Go.AM.R8.eq_19 <| And.intro @Go.AM.R8.eq_20 <| And.intro @Go.AM.R8.eq_21 <| And.intro @Go.AM.R8.eq_22 <| And.intro @Go.AM.R8.eq_23 <| And.intro @Go.AM.R8.eq_24 <| And.intro @Go.AM.R8.eq_25 <| And.intro @Go.AM.R8.eq_26 <| And.intro @Go.AM.R8.eq_27 <| And.intro @Go.AM.R8.eq_28 <| And.intro @Go.AM.R8.eq_29 <| And.intro @Go.AM.R8.eq_30 <| And.intro @Go.AM.R8.eq_31 <| And.intro @Go.AM.R8.eq_32 <| And.intro @Go.AM.R8.eq_33 <| And.intro @Go.AM.R8.eq_34 <| And.intro @Go.AM.R8.eq_35 <| And.intro @Go.AM.R8.eq_36 <| And.intro @Go.AM.R8.eq_37 <| And.intro @Go.AM.R8.eq_38 <| And.intro @Go.AM.R8.eq_39 <| And.intro @Go.AM.R8.eq_40 <| And.intro @Go.AM.R8.eq_41 <| And.intro @Go.AM.R8.eq_42 <| And.intro @Go.AM.R8.eq_43 <| And.intro @Go.AM.R8.eq_44 <| And.intro @Go.AM.R8.eq_45 <| And.intro @Go.AM.R8.eq_46 <| And.intro @Go.AM.R8.eq_47 <| And.intro @Go.AM.R8.eq_48 <| And.intro @Go.AM.R8.eq_49 <| And.intro @Go.AM.R8.eq_50 <| And.intro @Go.AM.R8.eq_51 <| And.intro @Go.AM.R8.eq_52 <| And.intro @Go.AM.R8.eq_53 <| And.intro @Go.AM.R8.eq_54 <| And.intro @Go.AM.ev.eq_1 <| And.intro @Go.AM.ev.eq_2 <| And.intro @Go.AM.Vo.eq_1 <| And.intro @Go.AM.Vo.eq_2 <| And.intro @Go.AM.Fr.put.eq_1 <| And.intro @Go.AM.Fr.put.eq_2 <| And.intro @Go.AM.Vv.eq_1 <| And.intro @Go.AM.Vv.eq_2 <| And.intro @Go.AM.R4.of.eq_1 <| And.intro @Go.AM.R4.of.eq_2 <| And.intro @Go.AM.R4.ofSt.eq_1 <| And.intro @Go.AM.R4.ofSt.eq_2 <| And.intro @Go.AM.YJ.eq_1 <| And.intro @Go.AM.YJ.eq_2 <| And.intro @Go.AM.YJ.eq_3 <| And.intro @Go.AM.FR.toOp.eq_1 <| And.intro @Go.AM.FR.toOp.eq_2 <| And.intro @Go.AM.FR.toOp.eq_3 <| And.intro @Go.AM.WY.eq_1 <| And.intro @Go.AM.VO.eq_1 <| And.intro @Go.AM.VO.eq_2 <| And.intro @Go.AM.VO.eq_3 <| And.intro @Go.AM.Vg.eq_1 <| And.intro @Go.AM.Vu.eq_1 <| And.intro @Go.AM.Vu.eq_2 <| And.intro @Go.AM.V0.eq_1 <| And.intro @Go.AM.V0.eq_2 <| And.intro @Go.AM.Fr.nil.eq_1 <| And.intro @Go.AM.AV.cells.eq_1 <| And.intro @Go.AM.AV.cells.eq_2 <| And.intro @Go.AM.WT.eq_1 <| And.intro @dlin.eq_1 <| And.intro @dlin.eq_2 <| And.intro @okLin.eq_1 <| And.intro @okLin.eq_2 <| And.intro @okLin.eq_3 <| And.intro @okLin.eq_4 <| And.intro @Go.AM.frzX.eq_1 <| And.intro @arun_nil <| And.intro @nd_mv <| And.intro @nd_pick <| And.intro @nd_alloc <| And.intro @nd_box <| And.intro @nd_build <| And.intro @nd_bslice <| And.intro @nd_load <| And.intro @nd_store <| And.intro @nd_nilchk <| And.intro @nd_bin <| And.intro @nd_un <| And.intro @nd_faddr <| And.intro @nd_iaddr <| And.intro @nd_len <| And.intro @nd_call <| And.intro @nd_eqnil <| And.intro @nd_extract <| And.intro @nd_field <| And.intro @nd_append <| And.intro @nd_conv <| And.intro @nd_mkif <| And.intro @Fr.get_set <| And.intro @Fr.set_ds <| And.intro @Q9.{0} <| And.intro @Qg.{0,0} <| And.intro @Ql.{0,0} <| And.intro @Qi.{1} <| And.intro @Qq.{1} <| And.intro @Q4.{0,0} <| And.intro @QZ.{0,0} <| And.intro @QR.{0} <| And.intro @QG.{0} <| @QP.{0}
theorem walk_map{E:Type}{cl:E->List AV}{c':List AV->List AV->Int}{c:E->E->Int}:∀(xs ys:List E),(∀ a∈xs,∀ b∈ys,c' (cl a) (cl b)=c a b)->Yi c' (xs.map cl) (ys.map cl)=Yi c xs ys
 | [],_,_=>by simp[Yi]
 | _::_,[],_=>by simp[Yi]
 | x::xs,y::ys,h=>by
  simp only[Q4,Yi]
  rw[h x (by simp) y (by simp),walk_map xs ys fun a ha b hb=>h a (by simp[ha]) b (by simp[hb])]
def Uu(n:Nat)(Y:Vi)(g:Nat)(x y:List AV)(v:Int):Prop:=∀ st,∃ af,R n Y g [.agg x,.agg y] st=.ret (.int .i64 v) af/\Vd st af
theorem Uu.one{n:Nat}{Y:Vi}{g:Nat}{x y:List AV}{v u:Int}(h:Uu n Y g x y v)(k:Uu n Y g x y u):v=u:=by
 obtain⟨s1,h1,_⟩:=h ⟨0,.nil,.nil⟩
 obtain⟨s2,h2,_⟩:=k ⟨0,.nil,.nil⟩
 rw[h1] at h2
 injection h2 with h2 _
 injection h2
theorem cf_runE{E:Type}{n:Nat}{Y:Vi}{zs:List AV}{aP aM aX aS:Bool}{cl:E->List AV}{xs ys:List E}{c:E->E->Int}{g f:Nat}(hf:Ry f=some (cfM zs))(hz:zs.length=3)(h3:∀ x∈xs,(cl x).length=3/\(cl x).all AV.one=true)
  (gV:∀ y∈ys,(cl y).length=3/\(cl y).all AV.one=true) (dg:aP=true->xs=[]) (eo:aX=true->ys=[]) (hb:xs.length<=9223372036854775807)
  (hc:∀ x∈xs,∀ y∈ys,Uu n Y g (cl x) (cl y) (c x y)) (hn:xs.length < n) (st:St):
  ∃ af,R (n+1) Y f [V7 aP aM (xs.map cl),V7 aX aS (ys.map cl),.func (.func g) [] []] st=.ret (.int .i64 (YS c xs ys)) af/\Vd st af:=by
 classical
 let c':List AV->List AV->Int:=fun x y=>if h:∃ v,Uu n Y g x y v then Classical.choose h else 0
 have cz:∀ a∈xs,∀ b∈ys,c' (cl a) (cl b)=c a b:=fun a ha b hb=>by
  have h:∃ v,Uu n Y g (cl a) (cl b) v:=⟨_,hc a ha b hb⟩
  show (if h:∃ v,Uu n Y g (cl a) (cl b) v then Classical.choose h else 0)=_
  rw[dif_pos h]
  exact(Classical.choose_spec h).one (hc a ha b hb)
 obtain⟨af,h1,h2⟩:=cf_run (n:=n) (Y:=Y) (zs:=zs) (aP:=aP) (aM:=aM) (aX:=aX) (aS:=aS) (xs:=xs.map cl) (ys:=ys.map cl) (c:=c') (g:=g) hf hz
  (fun x hx=>by obtain⟨a,ha,rfl⟩:=Q6.1 hx;exact h3 a ha) (fun x hx=>by obtain⟨a,ha,rfl⟩:=Q6.1 hx;exact gV a ha)
  (fun h=>by rw[dg h];rfl) (fun h=>by rw[eo h];rfl) (by simpa using hb)
  (fun x hx y hy=>by
   obtain⟨a,ha,rfl⟩:=Q6.1 hx
   obtain⟨b,hb,rfl⟩:=Q6.1 hy
   rw[cz a ha b hb]
   exact hc a ha b hb) (by simpa using hn) st
 refine⟨af,?_,h2⟩
 rw[h1]
 congr 2
 unfold YS
 rw[walk_map xs ys cz]
 simp
inductive Tm where
 | mk (k n:Int) (nl ex:Bool) (l:List Tm)
mutual
def Tm.cells:Tm->List AV
 | .mk k n nl ex l=>[.int .i64 k,.int .i64 n,V7 nl ex (Tm.cellsL l)]
def Tm.cellsL:List Tm->List (List AV)
 | []=>[]
 | t::l=>Tm.cells t::Tm.cellsL l
end
theorem Tm.cellsL_eq:∀ l,Tm.cellsL l=l.map Tm.cells
 | []=>by simp only[Tm.cellsL,QZ]
 | t::l=>by simp only[Tm.cellsL,Q4,Tm.cellsL_eq l]
mutual
def Tm.ok:Tm->Prop
 | .mk _ _ nl _ l=>(nl=true->l=[])/\l.length<=9223372036854775807/\Tm.okL l
def Tm.okL:List Tm->Prop
 | []=>True
 | t::l=>t.ok/\Tm.okL l
end
theorem Tm.okL_mem:∀{l:List Tm},Tm.okL l->∀ t∈l,t.ok
 | t::l,h,x,hx=>by
  simp only[Tm.okL] at h
  rcases Qx.1 hx with rfl | hx
  ·exact h.1
  ·exact Tm.okL_mem h.2 x hx
mutual
def Tm.fz:Tm->Nat
 | .mk _ _ _ _ l=>12+l.length+Tm.fzL l
def Tm.fzL:List Tm->Nat
 | []=>0
 | t::l=>t.fz+Tm.fzL l
end
theorem Tm.fzL_mem:∀{l:List Tm} {t:Tm},t∈l->t.fz<=Tm.fzL l
 | x::l,t,h=>by
  simp only[Tm.fzL]
  rcases Qx.1 h with rfl | h
  ·omega
  ·have:=Tm.fzL_mem h;omega
mutual
def cmpT:Tm->Tm->Int
 | .mk k n _ _ l,.mk k' n' _ _ l'=>if orI (VS k k') (VS n n') (VS (.ofNat l.length) (.ofNat l'.length))=0 then Wr l l' else orI (VS k k') (VS n n') (VS (.ofNat l.length) (.ofNat l'.length))
def Wr:List Tm->List Tm->Int
 | [],[]=>.ofNat 0
 | [],_::_=>.negSucc 0
 | _::_,[]=>.ofNat 1
 | x::xs,y::ys=>if cmpT x y=0 then Wr xs ys else cmpT x y
end
theorem UK:∀(xs ys:List Tm),YS cmpT xs ys=Wr xs ys
 | [],[]=>by simp[YS,Yi,Wr]
 | [],_::_=>by simp[YS,Yi,Wr]
 | _::_,[]=>by simp[YS,Yi,Wr]
 | x::xs,y::ys=>by
  have ih:=UK xs ys
  unfold YS at ih ⊢
  simp only[Yi,Wr]
  by_cases h:cmpT x y=0
  ·rw[Qm h,Qm h,<-ih]
   simp
  ·rw[Qe h,Qe h]
theorem Tm.cells3(t:Tm):t.cells.length=3/\t.cells.all AV.one=true:=by
 cases t with
 | mk k n nl ex l=>
  simp only[Tm.cells]
  refine⟨rfl,?_⟩
  cases nl<;>rfl
theorem cmpI_at{n:Nat}(hn:2<=n)(Y:Vi)(k:IntKind)(x y:Int)(st:St):R n Y 79 [.int k x,.int k y] st=.ret (.int .i64 (VS x y)) st:=by
 obtain⟨m,rfl⟩:∃ m,n=m+2:=⟨n - 2,by omega⟩
 exact cmpI_run m Y k x y st
theorem or_at{n:Nat}(hn:5<=n)(Y:Vi)(a b c:Int)(st:St):R n Y 101 [.lst 3 [.int .i64 a,.int .i64 b,.int .i64 c] true] st=.ret (.int .i64 (orI a b c)) st:=by
 obtain⟨m,rfl⟩:∃ m,n=m+5:=⟨n - 5,by omega⟩
 exact or_run m Y a b c st
noncomputable def d39:List (Vc × Nat):=[(ZA 6 0 2,0),(ZL 7 6,1),(ZA 8 0 3,0),(ZL 9 8,4),(ZX 10 79 [(.t 7),(.t 9)],15),(ZA 11 1 2,0),(ZL 12 11,32),(ZA 13 1 3,0),(ZL 14 13,128),(ZX 15 79 [(.t 12),(.t 14)],511),(ZA 16 2 2,0),(ZL 17 16,1024),(ZN 18 17,3072),(ZA 19 2 3,0),(ZL 20 19,8192),(ZN 21 20,24576),(ZX 22 79 [(.t 18),(.t 21)],65535),(ZO 23 (.bslice 3 [Z0,Z0,Z0] [(0,1,(.t 10)),(1,1,(.t 15)),(2,1,(.t 22))]),131071),(ZX 24 101 [(.t 23)],262143),(ZV 5 24,524287)]
theorem sigCompare(a:Tm):∀(b:Tm) (n:Nat) (Y:Vi),a.ok->b.ok->a.fz<=n->Uu n Y 103 a.cells b.cells (cmpT a b):=by
 induction hs:a.fz using Nat.strongRecOn generalizing a with
 | _ s ih=>
 intro b n Y ha hb hn st
 cases a with
 | mk k1 n1 aP aM l1=>
 cases b with
 | mk k2 n2 aX aS l2=>
 simp only[Tm.ok] at ha hb
 simp only[Tm.fz] at hs
 obtain⟨m,rfl⟩:∃ m,n=m+2:=⟨n - 2,by omega⟩
 suffices h:∃ af,R (m+2) Y 103 [.agg (Tm.mk k1 n1 aP aM l1).cells,.agg (Tm.mk k2 n2 aX aS l2).cells] st=.ret (.int .i64 (cmpT (.mk k1 n1 aP aM l1) (.mk k2 n2 aX aS l2))) af/\Vd st af from h
 unfold R
 rw[Js t103]
 unfold WK
 have aR:Nat.ble [AV.agg (Tm.mk k1 n1 aP aM l1).cells,AV.agg (Tm.mk k2 n2 aX aS l2).cells].length m103.N=true:=rfl
 rw[aR]
 have c1:∀ st,((gT (m+1)).cg Y).fn 79 [.int .i64 k1,.int .i64 k2] st=.ret (.int .i64 (VS k1 k2)) st:=fun st=>cmpI_at (by omega) Y .i64 k1 k2 st
 have c2:∀ st,((gT (m+1)).cg Y).fn 79 [.int .i64 n1,.int .i64 n2] st=.ret (.int .i64 (VS n1 n2)) st:=fun st=>cmpI_at (by omega) Y .i64 n1 n2 st
 have c3:∀ st,((gT (m+1)).cg Y).fn 79 [ZI l1.length,ZI l2.length] st=.ret (.int .i64 (VS (.ofNat l1.length) (.ofNat l2.length))) st:=fun st=>cmpI_at (by omega) Y .i64 _ _ st
 have c4:∀ x y z st,((gT (m+1)).cg Y).fn 101 [.lst 3 [.int .i64 x,.int .i64 y,.int .i64 z] true] st=.ret (.int .i64 (orI x y z)) st:=fun x y z st=>or_at (by omega) Y x y z st
 have s1:∀ st,(bif VD 0 (V7 aP aM (Tm.cellsL l1)) then Wm st (V7 aP aM (Tm.cellsL l1)) else none)=some (ZI l1.length):=fun st=>by
  have:=len_sl aP aM (Tm.cellsL l1) (fun h=>by rw[ha.1 h];rfl) st
  rw[this,Tm.cellsL_eq];simp
 have s2:∀ st,(bif VD 0 (V7 aX aS (Tm.cellsL l2)) then Wm st (V7 aX aS (Tm.cellsL l2)) else none)=some (ZI l2.length):=fun st=>by
  have:=len_sl aX aS (Tm.cellsL l2) (fun h=>by rw[hb.1 h];rfl) st
  rw[this,Tm.cellsL_eq];simp
 obtain⟨af,yN,hk⟩:=cf_runE (n:=m) (Y:=Y) (aP:=aP) (aM:=aM) (aX:=aX) (aS:=aS) (cl:=Tm.cells) (xs:=l1) (ys:=l2) (c:=cmpT) (g:=103) (f:=152) (zs:=[Z0,Z0,.nilsl]) t152 rfl
  (fun x _=>x.cells3) (fun y _=>y.cells3) ha.1 hb.1 ha.2.1
  (fun x hx y hy=>ih x.fz (by have:=Tm.fzL_mem hx;omega) x rfl y m Y (Tm.okL_mem ha.2.2 x hx) (Tm.okL_mem hb.2.2 y hy) (by have:=Tm.fzL_mem hx;omega)) (by omega) st
 have tO:((gT (m+1)).cg Y).fn 152 [V7 aP aM (Tm.cellsL l1),V7 aX aS (Tm.cellsL l2),.func (.func 103) [] []] st=.ret (.int .i64 (Wr l1 l2)) af:=by
  rw[Tm.cellsL_eq,Tm.cellsL_eq,<-UK];exact yN
 have f0:∀(cs:List AV) (o:Nat),WG o (.fptr cs 0)=some (.fptr cs (0+o)):=fun _ _=>rfl
 have d0:∀(x y z:AV) st,Vf false 1 st (.fptr [x,y,z] 0)=some x:=fun _ _ _ _=>rfl
 have d1:∀(x y z:AV) st,Vf false 1 st (.fptr [x,y,z] 1)=some y:=fun _ _ _ _=>rfl
 have d2:∀(x y z:AV) st,Vf false 1 st (.fptr [x,y,z] 2)=some z:=fun _ _ _ _=>rfl
 have bs:∀ x y z:Int,VN [ZI 0,ZI 0,ZI 0] [(0,1,.int .i64 x),(1,1,.int .i64 y),(2,1,.int .i64 z)]=some [.int .i64 x,.int .i64 y,.int .i64 z]:=fun x y z=>rfl
 have hd:∀ chk,chkLoads d39 chk=true->∃ aa,VK ((gT (m+1)).cg Y) d39 chk ((((Fr.nil.set 0 (some (.agg (Tm.mk k1 n1 aP aM l1).cells))).set 1 (some (.agg (Tm.mk k2 n2 aX aS l2).cells))).set 2 (some (.fptr (Tm.mk k1 n1 aP aM l1).cells 0))).set 3 (some (.fptr (Tm.mk k2 n2 aX aS l2).cells 0)) |>.set 4 (some Z0)) st=.ok aa st
   /\ aa.get 5=some (.int .i64 (orI (VS k1 k2) (VS n1 n2) (VS (.ofNat l1.length) (.ofNat l2.length))))/\aa.get 2=some (.fptr (Tm.mk k1 n1 aP aM l1).cells 0)/\aa.get 3=some (.fptr (Tm.mk k2 n2 aX aS l2).cells 0)/\aa.ds=[]:=by
  intro chk hc
  refine⟨?fr,?h1,?h2,?h3,?h4,?h5⟩
  case h1=>
   refine adraw_lin hc rfl ?_
   simp only[Rw,rQ,rA,dlin,d39,okLin,frzX,Tm.cells,f0,d0,d1,d2,c1,c2,c3,c4,s1,s2,bs,isSl_sl]
   rfl
  case h2=>simp only[Fr.get_set,rQ,↓reduceIte]
  case h3=>simp only[Fr.get_set,rQ,↓reduceIte,Tm.cells]
  case h4=>simp only[Fr.get_set,rQ,↓reduceIte,Tm.cells]
  case h5=>rfl
 obtain⟨yO,bH,g5,g2,g3,gds⟩:=hd [(6,some 4),(6,some 9),(8,some 4),(8,some 9),(11,some 4),(11,some 9),(11,some 16),(12,some 4),(12,some 9),(12,some 16),(14,some 4),(14,some 9),(14,some 16),(15,some 4),(15,some 9),(15,some 16)] rfl
 unfold d39 at bH
 simp only[Fr.nil] at bH
 simp only[Tm.cells] at bH g2 g3
 unfold cmpT
 by_cases h0:orI (VS k1 k2) (VS n1 n2) (VS (.ofNat l1.length) (.ofNat l2.length))=0
 ·have az:Vr false .neq (.int .i64 (orI (VS k1 k2) (VS n1 n2) (VS (.ofNat l1.length) (.ofNat l2.length)))) Z0=some (.bool false):=by rw[Yk,h0];rfl
  rw[Qm h0]
  refine⟨af,?_,hk⟩
  simp only[Rw,rQ,rA,m103,Tm.cells,bH,f0,d0,d1,d2,g5,g2,g3,az,tO,gds]
 ·have az:Vr false .neq (.int .i64 (orI (VS k1 k2) (VS n1 n2) (VS (.ofNat l1.length) (.ofNat l2.length)))) Z0=some (.bool true):=by
   rw[Yk]
   have:(orI (VS k1 k2) (VS n1 n2) (VS (.ofNat l1.length) (.ofNat l2.length)) != Int.ofNat 0)=true:=by simpa using h0
   rw[this]
  rw[Qe h0]
  refine⟨st,?_,Vd.refl st⟩
  simp only[Rw,rQ,rA,m103,Tm.cells,bH,g5,az,gds]
abbrev amB:=And.intro @Q3 <| And.intro @Q8 <| And.intro @QU <| And.intro @QL <| And.intro @Qy <| And.intro @QK <| And.intro @XS <| @Bool.or_false
open Nat renaming reduceEqDiff -> rQ, reduceAdd -> rA
theorem lists_run{E:Type}{n:Nat}{Y:Vi}{zs:List AV}{aP aM aX aS:Bool}{cl:E->List AV}{xs ys:List E}{c:E->E->Int}{g f F:Nat}(hF:(F=223/\f=152)\/(F=224/\f=270))(hf:Ry f=some (cfM zs))(hz:zs.length=3)(h3:∀ x∈xs,(cl x).length=3/\(cl x).all AV.one=true)
  (gV:∀ y∈ys,(cl y).length=3/\(cl y).all AV.one=true) (dg:aP=true->xs=[]) (eo:aX=true->ys=[]) (hb:xs.length<=9223372036854775807)
  (hc:∀ x∈xs,∀ y∈ys,Uu n Y g (cl x) (cl y) (c x y)) (hn:xs.length < n) (st:St):
  ∃ af,R (n+2) Y F [V7 aP aM (xs.map cl),V7 aX aS (ys.map cl),.func (.func g) [] []] st=.ret (.int .i64 (YS c xs ys)) af/\Vd st af:=by
 obtain⟨af,h,hk⟩:=cf_runE (aM:=aM) (aS:=aS) hf hz h3 gV dg eo hb hc hn st
 refine⟨af,?_,hk⟩
 have h':((gT (n+1)).cg Y).fn f [V7 aP aM (xs.map cl),V7 aX aS (ys.map cl),.func (.func g) [] []] st=.ret (.int .i64 (YS c xs ys)) af:=h
 unfold R
 rcases hF with⟨rfl,rfl⟩|⟨rfl,rfl⟩
 ·rw[Js t223]
  unfold WK
  have aR:Nat.ble [V7 aP aM (xs.map cl),V7 aX aS (ys.map cl),.func (.func g) [] []].length m223.N=true:=rfl
  rw[aR]
  simp only[Rw,rQ,rA,m223,h']
 ·rw[Js t224]
  unfold WK
  have aR:Nat.ble [V7 aP aM (xs.map cl),V7 aX aS (ys.map cl),.func (.func g) [] []].length m224.N=true:=rfl
  rw[aR]
  simp only[Rw,rQ,rA,m224,h']
inductive Dv where
 | mk (r:Int) (nv ev:Bool) (vs:List Tm) (nl ex:Bool) (l:List Dv)
mutual
def Dv.cells:Dv->List AV
 | .mk r nv ev vs nl ex l=>[.int .i64 r,V7 nv ev (Tm.cellsL vs),V7 nl ex (Dv.cellsL l)]
def Dv.cellsL:List Dv->List (List AV)
 | []=>[]
 | t::l=>Dv.cells t::Dv.cellsL l
end
theorem Dv.cellsL_eq:∀ l,Dv.cellsL l=l.map Dv.cells
 | []=>by simp only[Dv.cellsL,QZ]
 | t::l=>by simp only[Dv.cellsL,Q4,Dv.cellsL_eq l]
mutual
def Dv.ok:Dv->Prop
 | .mk _ nv _ vs nl _ l=>(nv=true->vs=[])/\vs.length<=9223372036854775807/\Tm.okL vs/\(nl=true->l=[])/\l.length<=9223372036854775807/\Dv.okL l
def Dv.okL:List Dv->Prop
 | []=>True
 | t::l=>t.ok/\Dv.okL l
end
theorem Dv.okL_mem:∀{l:List Dv},Dv.okL l->∀ t∈l,t.ok
 | t::l,h,x,hx=>by
  simp only[Dv.okL] at h
  rcases Qx.1 hx with rfl | hx
  ·exact h.1
  ·exact Dv.okL_mem h.2 x hx
mutual
def Dv.fz:Dv->Nat
 | .mk _ _ _ vs _ _ l=>20+vs.length+Tm.fzL vs+l.length+Dv.fzL l
def Dv.fzL:List Dv->Nat
 | []=>0
 | t::l=>t.fz+Dv.fzL l
end
theorem Dv.fzL_mem:∀{l:List Dv} {t:Dv},t∈l->t.fz<=Dv.fzL l
 | x::l,t,h=>by
  simp only[Dv.fzL]
  rcases Qx.1 h with rfl | h
  ·omega
  ·have:=Dv.fzL_mem h;omega
mutual
def Ky:Dv->Dv->Int
 | .mk r _ _ vs _ _ l,.mk r' _ _ fK _ _ l'=>orI (VS r r') (Wr vs fK) (cmpDs l l')
def cmpDs:List Dv->List Dv->Int
 | [],[]=>.ofNat 0
 | [],_::_=>.negSucc 0
 | _::_,[]=>.ofNat 1
 | x::xs,y::ys=>if Ky x y=0 then cmpDs xs ys else Ky x y
end
theorem cmpL_cmpDs:∀(xs ys:List Dv),YS Ky xs ys=cmpDs xs ys
 | [],[]=>by simp[YS,Yi,cmpDs]
 | [],_::_=>by simp[YS,Yi,cmpDs]
 | _::_,[]=>by simp[YS,Yi,cmpDs]
 | x::xs,y::ys=>by
  have ih:=cmpL_cmpDs xs ys
  unfold YS at ih ⊢
  simp only[Yi,cmpDs]
  by_cases h:Ky x y=0
  ·rw[Qm h,Qm h,<-ih]
   simp
  ·rw[Qe h,Qe h]
theorem Dv.cells3(t:Dv):t.cells.length=3/\t.cells.all AV.one=true:=by
 cases t with
 | mk r nv ev vs nl ex l=>
  simp only[Dv.cells]
  refine⟨rfl,?_⟩
  cases nv<;>cases nl<;>rfl
noncomputable def d9:List (Vc × Nat):=[(ZA 5 0 2,0),(ZL 6 5,1),(ZA 7 0 3,0),(ZL 8 7,4),(ZX 9 79 [(.t 6),(.t 8)],15),(ZA 10 1 2,0),(ZL 11 10,32),(ZA 12 1 3,0),(ZL 13 12,128),(ZO 14 (.call (.c (.func (.func 223) [] [])) [(.t 11),(.t 13),(.c (.func (.func 103) [] []))]),511),(ZA 15 2 2,0),(ZL 16 15,1024),(ZA 17 2 3,0),(ZL 18 17,4096),(ZO 19 (.call (.c (.func (.func 224) [] [])) [(.t 16),(.t 18),(.c (.func (.func 163) [] []))]),16383),(ZO 20 (.bslice 3 [Z0,Z0,Z0] [(0,1,(.t 9)),(1,1,(.t 14)),(2,1,(.t 19))]),32767),(ZX 21 101 [(.t 20)],65535),(ZV 4 21,131071)]
theorem derivCompare(a:Dv):∀(b:Dv) (n:Nat) (Y:Vi),a.ok->b.ok->a.fz<=n->Uu n Y 163 a.cells b.cells (Ky a b):=by
 induction hs:a.fz using Nat.strongRecOn generalizing a with
 | _ s ih=>
 intro b n Y ha hb hn st
 cases a with
 | mk r1 jk np kN aP aM l1=>
 cases b with
 | mk r2 jl nq kO aX aS l2=>
 simp only[Dv.ok] at ha hb
 simp only[Dv.fz] at hs
 obtain⟨m,rfl⟩:∃ m,n=m+3:=⟨n - 3,by omega⟩
 suffices h:∃ af,R (m+3) Y 163 [.agg (Dv.mk r1 jk np kN aP aM l1).cells,.agg (Dv.mk r2 jl nq kO aX aS l2).cells] st=.ret (.int .i64 (Ky (.mk r1 jk np kN aP aM l1) (.mk r2 jl nq kO aX aS l2))) af/\Vd st af from h
 unfold R
 rw[Js t163]
 unfold WK
 have aR:Nat.ble [AV.agg (Dv.mk r1 jk np kN aP aM l1).cells,AV.agg (Dv.mk r2 jl nq kO aX aS l2).cells].length m163.N=true:=rfl
 rw[aR]
 have c1:∀ st,((gT (m+2)).cg Y).fn 79 [.int .i64 r1,.int .i64 r2] st=.ret (.int .i64 (VS r1 r2)) st:=fun st=>cmpI_at (by omega) Y .i64 r1 r2 st
 have c4:∀ x y z st,((gT (m+2)).cg Y).fn 101 [.lst 3 [.int .i64 x,.int .i64 y,.int .i64 z] true] st=.ret (.int .i64 (orI x y z)) st:=fun x y z st=>or_at (by omega) Y x y z st
 obtain⟨ai,e1,k1⟩:=lists_run (n:=m) (Y:=Y) (aP:=jk) (aM:=np) (aX:=jl) (aS:=nq) (cl:=Tm.cells) (xs:=kN) (ys:=kO) (c:=cmpT) (g:=103) (f:=152) (F:=223) (.inl ⟨rfl,rfl⟩) (zs:=[Z0,Z0,.nilsl]) t152 rfl
  (fun x _=>x.cells3) (fun y _=>y.cells3) ha.1 hb.1 ha.2.1
  (fun x hx y hy=>sigCompare x y m Y (Tm.okL_mem ha.2.2.1 x hx) (Tm.okL_mem hb.2.2.1 y hy) (by have:=Tm.fzL_mem hx;omega)) (by omega) st
 have c2:((gT (m+2)).cg Y).fn 223 [V7 jk np (Tm.cellsL kN),V7 jl nq (Tm.cellsL kO),.func (.func 103) [] []] st=.ret (.int .i64 (Wr kN kO)) ai:=by
  rw[Tm.cellsL_eq,Tm.cellsL_eq,<-UK];exact e1
 obtain⟨st2,e2,k2⟩:=lists_run (n:=m) (Y:=Y) (aP:=aP) (aM:=aM) (aX:=aX) (aS:=aS) (cl:=Dv.cells) (xs:=l1) (ys:=l2) (c:=Ky) (g:=163) (f:=270) (F:=224) (.inr ⟨rfl,rfl⟩) (zs:=[Z0,.nilsl,.nilsl]) t270 rfl
  (fun x _=>x.cells3) (fun y _=>y.cells3) ha.2.2.2.1 hb.2.2.2.1 ha.2.2.2.2.1
  (fun x hx y hy=>ih x.fz (by have:=Dv.fzL_mem hx;omega) x rfl y m Y (Dv.okL_mem ha.2.2.2.2.2 x hx) (Dv.okL_mem hb.2.2.2.2.2 y hy) (by have:=Dv.fzL_mem hx;omega)) (by omega) ai
 have c3:((gT (m+2)).cg Y).fn 224 [V7 aP aM (Dv.cellsL l1),V7 aX aS (Dv.cellsL l2),.func (.func 163) [] []] ai=.ret (.int .i64 (cmpDs l1 l2)) st2:=by
  rw[Dv.cellsL_eq,Dv.cellsL_eq,<-cmpL_cmpDs];exact e2
 have f0:∀(cs:List AV) (o:Nat),WG o (.fptr cs 0)=some (.fptr cs (0+o)):=fun _ _=>rfl
 have d0:∀(x y z:AV) st,Vf false 1 st (.fptr [x,y,z] 0)=some x:=fun _ _ _ _=>rfl
 have d1:∀(x y z:AV) st,Vf false 1 st (.fptr [x,y,z] 1)=some y:=fun _ _ _ _=>rfl
 have d2:∀(x y z:AV) st,Vf false 1 st (.fptr [x,y,z] 2)=some z:=fun _ _ _ _=>rfl
 have bs:∀ x y z:Int,VN [ZI 0,ZI 0,ZI 0] [(0,1,.int .i64 x),(1,1,.int .i64 y),(2,1,.int .i64 z)]=some [.int .i64 x,.int .i64 y,.int .i64 z]:=fun x y z=>rfl
 have hd:∀ chk,chkLoads d9 chk=true->∃ aa,VK ((gT (m+2)).cg Y) d9 chk ((((Fr.nil.set 0 (some (.agg (Dv.mk r1 jk np kN aP aM l1).cells))).set 1 (some (.agg (Dv.mk r2 jl nq kO aX aS l2).cells))).set 2 (some (.fptr (Dv.mk r1 jk np kN aP aM l1).cells 0))).set 3 (some (.fptr (Dv.mk r2 jl nq kO aX aS l2).cells 0)) |>.set 4 (some Z0)) st=.ok aa st2
   /\ aa.get 4=some (.int .i64 (orI (VS r1 r2) (Wr kN kO) (cmpDs l1 l2)))/\aa.ds=[]:=by
  intro chk hc
  refine⟨?fr,?h1,?h2,?h5⟩
  case h1=>
   refine adraw_lin hc rfl ?_
   simp only[Rw,rQ,rA,d9,Dv.cells,f0,d0,d1,d2,c1,c2,c3,c4,bs]
   rfl
  case h2=>simp only[Fr.get_set,↓reduceIte]
  case h5=>rfl
 obtain⟨yO,bH,g4,gds⟩:=hd [(6,some 4),(6,some 9),(8,some 4),(8,some 9),(11,some 4),(11,some 9),(11,some 14),(13,some 4),(13,some 9),(13,some 14)] rfl
 unfold d9 at bH
 simp only[Fr.nil] at bH
 simp only[Dv.cells] at bH
 unfold Ky
 refine⟨st2,?_,k1.trans k2⟩
 simp only[Rw,rQ,rA,m163,Dv.cells,bH,g4,gds]
theorem derivSame(a b:Dv)(n:Nat)(Y:Vi)(ha:a.ok)(hb:b.ok)(hn:a.fz < n)(st:St):
  ∃ af,R n Y 115 [.agg a.cells,.agg b.cells] st=.ret (.bool (Ky a b==0)) af/\Vd st af:=by
 obtain⟨m,rfl⟩:∃ m,n=m+1:=⟨n - 1,by omega⟩
 obtain⟨af,h,hk⟩:=derivCompare a b m Y ha hb (by omega) st
 refine⟨af,?_,hk⟩
 have h':((gT m).cg Y).fn 163 [.agg a.cells,.agg b.cells] st=.ret (.int .i64 (Ky a b)) af:=h
 have eq:Vr false .eql (.int .i64 (Ky a b)) Z0=some (.bool (Ky a b==0)):=rfl
 obtain⟨x,y,z,hx⟩:∃ x y z,a.cells=[x,y,z]:=by cases a;simp only[Dv.cells];exact⟨_,_,_,rfl⟩
 obtain⟨x',y',z',aK⟩:∃ x y z,b.cells=[x,y,z]:=by cases b;simp only[Dv.cells];exact⟨_,_,_,rfl⟩
 have ld:∀(x y z:AV) st,Vf true 3 st (.fptr [x,y,z] 0)=some (.agg [x,y,z]):=fun _ _ _ _=>rfl
 rw[hx,aK] at h' ⊢
 unfold R
 rw[Js t115]
 unfold WK
 have aR:Nat.ble [AV.agg [x,y,z],AV.agg [x',y',z']].length m115.N=true:=rfl
 rw[aR]
 simp only[Rw,rQ,rA,m115,ld,h',eq]
open Nat renaming reduceEqDiff -> rQ, reduceAdd -> rA
def lb(c i n i2:Nat)(B:Vn):Vn:=.seq (.region [⟨(some c),.bin false .lss (.t i) (.t n),none⟩]) (.seq (.cond (.t c) .skip (.exit 0)) (.seq (.block 1 B) (.region [⟨(some i2),.bin false .add (.t i) (ZC 1),none⟩,⟨(some i),.mv (.t i2),none⟩])))
def Kp(l:List Nat)(fr aa:Fr):Prop:=aa.ds=fr.ds/\∀ k∈l,aa.get k=fr.get k
theorem Kp.refl{l:List Nat}{fr:Fr}:Kp l fr fr:=⟨rfl,fun _ _=>rfl⟩
theorem Kp.set{l:List Nat}{fr aa:Fr}{s:Nat}{v:Option AV}(hs:s∉l)(h:Kp l fr aa):Kp l fr (aa.set s v):=
 ⟨h.1,fun k hk=>by rw[Fr.get_set,Qe (fun e:k=s=>hs (e ▸ hk))];exact h.2 k hk⟩
theorem Kp.trans{l:List Nat}{a b c:Fr}(h:Kp l a b)(k:Kp l b c):Kp l a c:=⟨k.1.trans h.1,fun x hx=>(k.2 x hx).trans (h.2 x hx)⟩
theorem Kp.at{l:List Nat}{a b:Fr}(h:Kp l a b){k:Nat}{v:Option AV}(hk:k∈l)(hv:a.get k=v):b.get k=v:=(h.2 k hk).trans hv
theorem Yv{Γ:Cg}{b:List Vc}{aJ:Fr}{ai:St}:∀{a:List Vc} {fr:Fr} {st:St},Vj Γ a fr st=.ok aJ ai->Vj Γ (a++b) fr st=Vj Γ b aJ ai
 | [],fr,st,h=>by simp only[Vj,RR.ok.injEq] at h;obtain⟨rfl,rfl⟩:=h;rfl
 | m::a,fr,st,h=>by
  rw[QP]
  unfold Vj at h
  conv=>lhs;unfold Vj
  revert h
  split
  ·rename_i hw
   cases hd:m.op.isDefer with
   | true=>
    simp only[Qi]
    split
    ·exact fun h=>Yv h
    ·exact fun h=>nomatch h
   | false=>
    simp only[Qq]
    split
    ·exact fun h=>Yv h
    ·exact fun h=>nomatch h
    ·exact fun h=>nomatch h
  ·exact fun h=>Yv h
  ·exact fun h=>nomatch h
theorem Tm.cellsL3(l:List Tm):∀ y∈Tm.cellsL l,y.length=3/\y.all AV.one=true:=fun y hy=>by
 rw[Tm.cellsL_eq] at hy
 obtain⟨t,_,rfl⟩:=Q6.1 hy
 exact t.cells3
theorem Tm.cellsL_len(l:List Tm):(Tm.cellsL l).length=l.length:=by rw[Tm.cellsL_eq];simp
theorem Tm.cellsL_at{l:List Tm}{k:Nat}{x:Tm}(h:l[k]?=some x):(Tm.cellsL l)[k]?=some x.cells:=by rw[Tm.cellsL_eq,Q5,h];rfl
theorem Dv.cellsL3(l:List Dv):∀ y∈Dv.cellsL l,y.length=3/\y.all AV.one=true:=fun y hy=>by
 rw[Dv.cellsL_eq] at hy
 obtain⟨t,_,rfl⟩:=Q6.1 hy
 exact t.cells3
theorem Dv.cellsL_len(l:List Dv):(Dv.cellsL l).length=l.length:=by rw[Dv.cellsL_eq];simp
def dstN(k:Nat)(o:Vc):Bool:=match o.dst with
 | none=>true
 | some d=>!(d.beq k)
def ndB(o:Vc):Bool:=!o.op.isDefer
theorem defer_get{f f':Fr}{op:Rz}(h:Jr f op=some f')(k:Nat):f'.get k=f.get k:=by
 unfold Jr at h
 repeat' split at h
 all_goals first | (cases h;done) | (injection h with h;subst h;rfl)
theorem put_none{f:Fr}{o:Vc}{k:Nat}{v':AV}(m:dstN k o=true):(Fr.put f o.dst v').get k=f.get k:=by
 unfold dstN at m
 cases hd:o.dst with
 | none=>rfl
 | some d=>
  rw[hd] at m
  show (f.set d (some v')).get k=_
  rw[Fr.get_set,Qe (fun e=>by subst e;simp at m)]
theorem ah{Γ:Cg}{l:List Vc}{f f':Fr}{s s':St}{k:Nat}(h:Vj Γ l f s=.ok f' s')(m:l.all (dstN k)=true):f'.get k=f.get k:=by
 induction l generalizing f s with
 | nil=>simp only[Vj,RR.ok.injEq] at h;obtain⟨rfl,rfl⟩:=h;rfl
 | cons o l ih=>
  simp only[QN,Qd] at m
  rw[Vj] at h
  split at h
  ·cases hd:o.op.isDefer with
   | true=>
    simp only[hd,Qi] at h
    split at h
    ·rename_i f1 h1
     exact(ih h m.2).trans ((put_none m.1).trans (defer_get h1 k))
    ·cases h
   | false=>
    simp only[hd,Qq] at h
    split at h
    ·exact(ih h m.2).trans (put_none m.1)
    ·cases h
    ·cases h
  ·exact(ih h m.2).trans (put_none m.1)
  ·cases h
theorem ae{Γ:Cg}{l:List Vc}{f f':Fr}{s s':St}(h:Vj Γ l f s=.ok f' s')(m:l.all ndB=true:=by rfl):f'.ds=f.ds:=by
 induction l generalizing f s with
 | nil=>simp only[Vj,RR.ok.injEq] at h;obtain⟨rfl,rfl⟩:=h;rfl
 | cons o l ih=>
  simp only[QN,Qd] at m
  have hd:o.op.isDefer=false:=by have:=m.1;unfold ndB at this;simpa using this
  rw[Vj] at h
  split at h
  ·simp only[hd,Qq] at h
   split at h
   ·exact(ih h m.2).trans (Fr.put_ds _ _ _)
   ·cases h
   ·cases h
  ·exact(ih h m.2).trans (Fr.put_ds _ _ _)
  ·cases h
theorem ag{Γ:Cg}{l:List Vc}{f f':Fr}{s s':St}{k:Nat}{v:AV}(h:Vj Γ l f s=.ok f' s')(g:f.get k=some v)(m:l.all (dstN k)=true:=by rfl):f'.get k=some v:=(ah h m).trans g
theorem ad{Γ:Cg}{l:List Vc}{f f':Fr}{s s':St}{D}(h:Vj Γ l f s=.ok f' s')(d:f.ds=D)(m:l.all ndB=true:=by rfl):f'.ds=D:=(ae h m).trans d
theorem R9{fA:Fr}{l:List AV}(hA:fA=Vo 0 l Fr.nil)(k:Nat){a:AV}(h:(Vo 0 l Fr.nil).get k=some a:=by rfl):fA.get k=some a:=hA ▸ h
def JX(p q:Int):Int:=if p=0 then q else p
def RZ(r:Int):Nat:=if r=1\/r=2 then 0 else if r=7 then 2 else 1
def RY(r:Int):Nat:=if r=1\/r=2 then 8 else if r=16 then 64 else 0
section
variable (gr:Tm->Bool)
mutual
def Dv.good:Dv->Bool
 | .mk r _ _ vs _ _ l=>decide (1<=r)&&decide (r<=19)&&(l.length==RZ r)&&decide (vs.length<=RY r)&&vs.all gr&&Dv.goodL l
def Dv.goodL:List Dv->Bool
 | []=>true
 | d::l=>d.good&&Dv.goodL l
end
end
mutual
def Dv.size:Dv->Nat
 | .mk _ _ _ _ _ _ l=>Dv.sizeL l+1
def Dv.sizeL:List Dv->Nat
 | []=>0
 | d::l=>d.size+Dv.sizeL l
end
mutual
def Dv.depth:Dv->Nat
 | .mk _ _ _ _ _ _ l=>Dv.depthL l+1
def Dv.depthL:List Dv->Nat
 | []=>0
 | d::l=>Nat.max d.depth (Dv.depthL l)
end
def aw(x y:Int):Int:=wr .i64 (x+y)
def sw(x y:Int):Int:=wr .i64 (x - y)
def mx(x y:Int):Int:=if y > x then y else x
theorem wr_in{n:Int}(h:-1000000<=n)(k:n<=1000000):wr .i64 n=n:=by
 have:in64 n=true:=by
  cases n with
  | ofNat m=>exact Qo (by simp at k;omega)
  | negSucc m=>exact Qo (by omega)
 simp only[wr,this,Qi]
theorem aw_eq{x y:Int}(h:-1000000<=x+y)(k:x+y<=1000000):aw x y=x+y:=wr_in h k
theorem sw_eq{x y:Int}(h:-1000000<=x - y)(k:x - y<=1000000):sw x y=x - y:=wr_in h k
mutual
def WM:Tm->Int->Int->Int->Int × Int
 | .mk _ _ _ _ l,d,a,b=>Yw l d (aw a 1) (mx b d)
def Yw:List Tm->Int->Int->Int->Int × Int
 | [],_,a,b=>(a,b)
 | t::l,d,a,b=>if a > 2000 then (a,b) else if b > 200 then (a,b) else Yw l d (WM t (aw d 1) a b).1 (WM t (aw d 1) a b).2
end
theorem cntL_nil(d a b:Int):Yw [] d a b=(a,b):=by unfold Yw;rfl
theorem Sg(t:Tm)(l:List Tm)(d a b:Int):Yw (t::l) d a b=if a > 2000 then (a,b) else if b > 200 then (a,b) else Yw l d (WM t (aw d 1) a b).1 (WM t (aw d 1) a b).2:=by conv=>lhs;unfold Yw
def badT(k n:Int)(len:Nat):Bool:=decide (n < 0)||((k==1)&&decide (Int.ofNat len > 0))||((k != 1)&&(k != 2))||decide (Int.ofNat len > 8)
mutual
def shT:Tm->Bool
 | .mk k n _ _ l=>if badT k n l.length=true then false else RV l
def RV:List Tm->Bool
 | []=>true
 | t::l=>if shT t=true then RV l else false
end
theorem shL_nil:RV []=true:=by unfold RV;rfl
theorem Ul(t:Tm)(l:List Tm):RV (t::l)=if shT t=true then RV l else false:=by conv=>lhs;unfold RV
mutual
def greT:Tm->Int->Int
 | .mk k n _ _ l,o=>mx (if k=1 then mx o n else o) (WW l (.negSucc 0))
def WW:List Tm->Int->Int
 | [],o=>o
 | t::l,o=>WW l (greT t o)
end
theorem greL_nil(o:Int):WW [] o=o:=by unfold WW;rfl
theorem greL_cons(t:Tm)(l:List Tm)(o:Int):WW (t::l) o=WW l (greT t o):=by conv=>lhs;unfold WW
def overP(p:Int × Int):Bool:=decide (p.1 > 2000)||decide (p.2 > 200)
def isTr(t:Tm):Bool:=!overP (WM t 1 0 0)&&shT t
def gr(t:Tm):Bool:=isTr t&&decide (WW [t] (.negSucc 0) < 0)
theorem gr_shT{t:Tm}(h:gr t=true):shT t=true:=by
 simp only[gr,isTr,Qd] at h
 exact h.1.2
theorem shT_mk{k n:Int}{nl ex:Bool}{l:List Tm}(h:shT (.mk k n nl ex l)=true):l.length<=8/\RV l=true:=by
 unfold shT at h
 split at h
 ·cases h
 ·rename_i hb
  refine⟨?_,h⟩
  unfold badT at hb
  simp only[XB,Z8,QF] at hb
  have:=hb.2
  simp at this;omega
theorem shL_mem:∀{l:List Tm},RV l=true->∀ t∈l,shT t=true
 | [],_,_,hx=>by simp at hx
 | t::l,h,x,hx=>by
  unfold RV at h
  split at h
  ·rename_i ht
   rcases Qx.1 hx with rfl | hx
   ·exact ht
   ·exact shL_mem h x hx
  ·cases h
mutual
def shD:Dv->Int->Int->Bool × Int
 | .mk r _ _ vs _ _ l,left,deep=>
  if sw left 1 < 0 then (false,sw left 1) else if deep > 400 then (false,sw left 1) else if r < 1 then (false,sw left 1) else if r > 19 then (false,sw left 1)
  else if l.length≠RZ r then (false,sw left 1) else if vs.length > RY r then (false,sw left 1) else if vs.all gr=true then Jl l (sw left 1) deep else (false,sw left 1)
def Jl:List Dv->Int->Int->Bool × Int
 | [],left,_=>(true,left)
 | d::l,left,deep=>if (shD d left (aw deep 1)).1=true then Jl l (shD d left (aw deep 1)).2 deep else (false,(shD d left (aw deep 1)).2)
end
theorem shDL_nil(a b:Int):Jl [] a b=(true,a):=by unfold Jl;rfl
theorem shDL_cons(d:Dv)(l:List Dv)(left deep:Int):Jl (d::l) left deep=if (shD d left (aw deep 1)).1=true then Jl l (shD d left (aw deep 1)).2 deep else (false,(shD d left (aw deep 1)).2):=by conv=>lhs;unfold Jl
def badD(r left deep:Int)(nl nv:Nat)(g:Bool):Bool:=decide (sw left 1 < 0)||(decide (deep > 400)||(decide (r < 1)||(decide (r > 19)||((Int.ofNat nl != Int.ofNat (RZ r))||(decide (Int.ofNat nv > Int.ofNat (RY r))||!g)))))
theorem shD_eq(r left deep:Int)(nv ev nl ex:Bool)(vs:List Tm)(l:List Dv):shD (.mk r nv ev vs nl ex l) left deep=if badD r left deep l.length vs.length (vs.all gr)=true then (false,sw left 1) else Jl l (sw left 1) deep:=by
 conv=>lhs;unfold shD
 unfold badD
 by_cases c1:sw left 1 < 0
 ·rw[Qm c1,Qs c1,Qm (by simp)]
 rw[Qe c1,Qp c1,QL]
 by_cases c2:deep > 400
 ·rw[Qm c2,Qs c2,Qm (by simp)]
 rw[Qe c2,Qp c2,QL]
 by_cases c3:r < 1
 ·rw[Qm c3,Qs c3,Qm (by simp)]
 rw[Qe c3,Qp c3,QL]
 by_cases c4:r > 19
 ·rw[Qm c4,Qs c4,Qm (by simp)]
 rw[Qe c4,Qp c4,QL]
 by_cases c5:l.length≠RZ r
 ·have:(Int.ofNat l.length != Int.ofNat (RZ r))=true:=by simp;omega
  rw[Qm c5,this,Qm (by simp)]
 have yP:(Int.ofNat l.length != Int.ofNat (RZ r))=false:=by simp;omega
 rw[Qe c5,yP,QL]
 by_cases c6:vs.length > RY r
 ·have:decide (Int.ofNat vs.length > Int.ofNat (RY r))=true:=Qs (by simp;omega)
  rw[Qm c6,this,Qm (by simp)]
 have yQ:decide (Int.ofNat vs.length > Int.ofNat (RY r))=false:=Qp (by simp;omega)
 rw[Qe c6,yQ,QL]
 by_cases c7:vs.all gr=true
 ·rw[Qm c7,c7,Qe (by simp)]
 ·rw[Qe c7,Qm (by simpa using c7)]
def JY(d:Dv):Bool:=(shD d 4000 1).1
theorem depthL_max(d:Dv)(l:List Dv):Dv.depthL (d::l)=if d.depth<=Dv.depthL l then Dv.depthL l else d.depth:=by
 show Nat.max _ _=_
 exact Nat.max_def
mutual
theorem shD_spec:∀(d:Dv) (left deep:Int),0<=left->left<=4000->1<=deep->deep<=401 ->
  ((shD d left deep).1=true ↔ (d.good gr=true/\(d.size:Int)<=left/\deep+d.depth<=401))/\((shD d left deep).1=true->(shD d left deep).2=left - d.size)
 | .mk r nv ev vs nl ex l,left,deep,h1,h2,h3,h4=>by
  have hs:sw left 1=left - 1:=sw_eq (by omega) (by omega)
  unfold shD
  rw[hs]
  simp only[Dv.good,Dv.size,Dv.depth,Qd,QF,Zm]
  by_cases c1:left - 1 < 0
  ·rw[Qm c1];exact⟨⟨fun h=>(by cases h),fun h=>by omega⟩,fun h=>by cases h⟩
  rw[Qe c1]
  by_cases c2:deep > 400
  ·rw[Qm c2];exact⟨⟨fun h=>(by cases h),fun h=>by omega⟩,fun h=>by cases h⟩
  rw[Qe c2]
  by_cases c3:r < 1
  ·rw[Qm c3];exact⟨⟨fun h=>(by cases h),fun h=>by omega⟩,fun h=>by cases h⟩
  rw[Qe c3]
  by_cases c4:r > 19
  ·rw[Qm c4];exact⟨⟨fun h=>(by cases h),fun h=>by omega⟩,fun h=>by cases h⟩
  rw[Qe c4]
  by_cases c5:l.length≠RZ r
  ·rw[Qm c5];exact⟨⟨fun h=>(by cases h),fun h=>absurd h.1.1.1.1.2 c5⟩,fun h=>by cases h⟩
  rw[Qe c5]
  by_cases c6:vs.length > RY r
  ·rw[Qm c6];exact⟨⟨fun h=>(by cases h),fun h=>by omega⟩,fun h=>by cases h⟩
  rw[Qe c6]
  by_cases c7:vs.all gr=true
  ·rw[Qm c7]
   obtain⟨k1,k2⟩:=shDL_spec l (left - 1) deep (by omega) (by omega) h3 (by omega)
   refine⟨⟨fun h=>?_,fun h=>?_⟩,fun h=>?_⟩
   ·obtain⟨a1,a2,a3⟩:=k1.1 h
    refine⟨⟨⟨⟨⟨⟨by omega,by omega⟩,by omega⟩,by omega⟩,c7⟩,a1⟩,by omega,by omega⟩
   ·exact k1.2 ⟨h.1.2,by omega,by omega⟩
   ·rw[k2 h];omega
  ·rw[Qe c7];exact⟨⟨fun h=>(by cases h),fun h=>absurd h.1.1.2 c7⟩,fun h=>by cases h⟩
theorem shDL_spec:∀(l:List Dv) (left deep:Int),0<=left->left<=4000->1<=deep->deep<=400 ->
  ((Jl l left deep).1=true ↔ (Dv.goodL gr l=true/\(Dv.sizeL l:Int)<=left/\deep+Dv.depthL l<=400))/\((Jl l left deep).1=true->(Jl l left deep).2=left - Dv.sizeL l)
 | [],left,deep,h1,h2,h3,h4=>by
  simp only[Jl,Dv.goodL,Dv.sizeL,Dv.depthL,true_iff,true_and]
  exact⟨⟨by omega,by omega⟩,fun _=>by omega⟩
 | d::l,left,deep,h1,h2,h3,h4=>by
  have ha:aw deep 1=deep+1:=aw_eq (by omega) (by omega)
  unfold Jl
  rw[ha]
  obtain⟨k1,k2⟩:=shD_spec d left (deep+1) h1 h2 (by omega) (by omega)
  simp only[Dv.goodL,Dv.sizeL,depthL_max,Qd]
  by_cases c:(shD d left (deep+1)).1=true
  ·rw[Qm c]
   obtain⟨a1,a2,a3⟩:=k1.1 c
   have e:=k2 c
   rw[e]
   obtain⟨m1,m2⟩:=shDL_spec l (left - d.size) deep (by omega) (by omega) h3 h4
   refine⟨⟨fun h=>?_,fun h=>?_⟩,fun h=>?_⟩
   ·obtain⟨b1,b2,b3⟩:=m1.1 h
    exact⟨⟨a1,b1⟩,by omega,by split<;>omega⟩
   ·refine m1.2 ⟨h.1.2,by omega,?_⟩
    have:=h.2.2
    split at this<;>omega
   ·rw[m2 h];omega
  ·rw[Qe c]
   refine⟨⟨fun h=>(by cases h),fun h=>?_⟩,fun h=>by cases h⟩
   exact absurd (k1.2 ⟨h.1.1,by omega,by have:=h.2.2;split at this<;>omega⟩) c
end
theorem isDv_iff(d:Dv):JY d=true ↔ (d.good gr=true/\d.size<=4000/\d.depth<=400):=by
 obtain⟨h,_⟩:=shD_spec d 4000 1 (by omega) (by omega) (by omega) (by omega)
 unfold JY
 rw[h]
 constructor
 ·rintro ⟨a,b,c⟩;exact⟨a,by omega,by omega⟩
 ·rintro ⟨a,b,c⟩;exact⟨a,by omega,by omega⟩
mutual
def Tm.size:Tm->Nat
 | .mk _ _ _ _ l=>Tm.sizeL l+1
def Tm.sizeL:List Tm->Nat
 | []=>0
 | t::l=>t.size+Tm.sizeL l
end
mutual
def Tm.depth:Tm->Nat
 | .mk _ _ _ _ l=>Tm.depthL l+1
def Tm.depthL:List Tm->Nat
 | []=>0
 | t::l=>if t.depth<=Tm.depthL l then Tm.depthL l else t.depth
end
mutual
def rcT:Tm->Int->Int->Int × Bool
 | .mk _ _ _ _ l,left,deep=>if sw left 1 < 0 then (sw left 1,false) else if deep > 200 then (sw left 1,false) else rcL l (sw left 1) deep
def rcL:List Tm->Int->Int->Int × Bool
 | [],left,_=>(left,true)
 | t::l,left,deep=>if (rcT t left (aw deep 1)).2=true then rcL l (rcT t left (aw deep 1)).1 deep else ((rcT t left (aw deep 1)).1,false)
end
theorem rcL_nil(left deep:Int):rcL [] left deep=(left,true):=by unfold rcL;rfl
theorem rcL_cons(t:Tm)(l:List Tm)(left deep:Int):rcL (t::l) left deep=if (rcT t left (aw deep 1)).2=true then rcL l (rcT t left (aw deep 1)).1 deep else ((rcT t left (aw deep 1)).1,false):=by conv=>lhs;unfold rcL
def rIs(t:Tm):Bool:=(rcT t 2000 1).2&&shT t
mutual
theorem rcT_spec:∀(t:Tm) (left deep:Int),0<=left->left<=4000->1<=deep->deep<=201 ->
  ((rcT t left deep).2=true ↔ ((t.size:Int)<=left/\deep+t.depth<=201))/\((rcT t left deep).2=true->(rcT t left deep).1=left - t.size)
 | .mk k n nl ex l,left,deep,h1,h2,h3,h4=>by
  have hs:sw left 1=left - 1:=sw_eq (by omega) (by omega)
  unfold rcT
  rw[hs]
  simp only[Tm.size,Tm.depth]
  by_cases c1:left - 1 < 0
  ·rw[Qm c1];exact⟨⟨fun h=>(by cases h),fun h=>by omega⟩,fun h=>(by cases h)⟩
  rw[Qe c1]
  by_cases c2:deep > 200
  ·rw[Qm c2];exact⟨⟨fun h=>(by cases h),fun h=>by omega⟩,fun h=>(by cases h)⟩
  rw[Qe c2]
  obtain⟨k1,k2⟩:=rcL_spec l (left - 1) deep (by omega) (by omega) h3 (by omega)
  refine⟨⟨fun h=>?_,fun h=>?_⟩,fun h=>?_⟩
  ·obtain⟨a1,a2⟩:=k1.1 h
   exact⟨by omega,by omega⟩
  ·exact k1.2 ⟨by omega,by omega⟩
  ·rw[k2 h];omega
theorem rcL_spec:∀(l:List Tm) (left deep:Int),0<=left->left<=4000->1<=deep->deep<=200 ->
  ((rcL l left deep).2=true ↔ ((Tm.sizeL l:Int)<=left/\deep+Tm.depthL l<=200))/\((rcL l left deep).2=true->(rcL l left deep).1=left - Tm.sizeL l)
 | [],left,deep,h1,h2,h3,h4=>by
  simp only[rcL,Tm.sizeL,Tm.depthL,true_iff]
  exact⟨⟨by omega,by omega⟩,fun _=>by omega⟩
 | d::l,left,deep,h1,h2,h3,h4=>by
  have ha:aw deep 1=deep+1:=aw_eq (by omega) (by omega)
  unfold rcL
  rw[ha]
  obtain⟨k1,k2⟩:=rcT_spec d left (deep+1) h1 h2 (by omega) (by omega)
  simp only[Tm.sizeL,Tm.depthL]
  by_cases c:(rcT d left (deep+1)).2=true
  ·rw[Qm c]
   obtain⟨a2,a3⟩:=k1.1 c
   have e:=k2 c
   rw[e]
   obtain⟨m1,m2⟩:=rcL_spec l (left - d.size) deep (by omega) (by omega) h3 h4
   refine⟨⟨fun h=>?_,fun h=>?_⟩,fun h=>?_⟩
   ·obtain⟨b2,b3⟩:=m1.1 h
    exact⟨by omega,by split<;>omega⟩
   ·refine m1.2 ⟨by omega,?_⟩
    have:=h.2
    split at this<;>omega
   ·rw[m2 h];omega
  ·rw[Qe c]
   refine⟨⟨fun h=>(by cases h),fun h=>?_⟩,fun h=>(by cases h)⟩
   exact absurd (k1.2 ⟨by omega,by have:=h.2;split at this<;>omega⟩) c
end
def fitT(p:Int × Int):Prop:=p.1<=2000/\p.2<=200
mutual
theorem cntT_spec:∀(t:Tm) (d a b:Int),0<=a->a<=2000->0<=b->b<=200->1<=d->d<=201 ->
  (fitT (WM t d a b) ↔ (a+t.size<=2000/\d+t.depth<=201))/\(fitT (WM t d a b)->(WM t d a b).1=a+t.size/\0<=(WM t d a b).2)
 | .mk k n nl ex l,d,a,b,h1,h2,h3,h4,h5,h6=>by
  have ha:aw a 1=a+1:=aw_eq (by omega) (by omega)
  have hm:mx b d=if d > b then d else b:=rfl
  unfold WM
  rw[ha]
  simp only[Tm.size,Tm.depth]
  have oH:d<=mx b d/\b<=mx b d/\(mx b d=d\/mx b d=b):=by rw[hm];split<;>omega
  generalize mx b d=M at *
  by_cases c1:a+1 > 2000\/M > 200
  ·
   have dU:Yw l d (a+1) M=(a+1,M)\/l=[]:=by
    cases l with
    | nil=>exact .inr rfl
    | cons t l=>
     left
     rw[Sg]
     by_cases c:a+1 > 2000
     ·rw[Qm c]
     ·rw[Qe c,Qm (by omega)]
   have hv:Yw l d (a+1) M=(a+1,M):=by
    rcases dU with h | h
    ·exact h
    ·rw[h,cntL_nil]
   rw[hv]
   unfold fitT
   exact⟨⟨fun h=>by simp only at h;omega,fun h=>by omega⟩,fun h=>by simp only at h;omega⟩
  ·obtain⟨k1,k2⟩:=cntL_spec l d (a+1) M (by omega) (by omega) (by omega) (by omega) h5 (by omega)
   refine⟨⟨fun h=>?_,fun h=>?_⟩,fun h=>?_⟩
   ·obtain⟨a1,a2⟩:=k1.1 h
    exact⟨by omega,by omega⟩
   ·exact k1.2 ⟨by omega,by omega⟩
   ·obtain⟨a1,a2⟩:=k2 h
    exact⟨by omega,a2⟩
theorem cntL_spec:∀(l:List Tm) (d a b:Int),0<=a->a<=2000->0<=b->b<=200->1<=d->d<=200 ->
  (fitT (Yw l d a b) ↔ (a+Tm.sizeL l<=2000/\d+Tm.depthL l<=200))/\(fitT (Yw l d a b)->(Yw l d a b).1=a+Tm.sizeL l/\0<=(Yw l d a b).2)
 | [],d,a,b,h1,h2,h3,h4,h5,h6=>by
  rw[cntL_nil]
  simp only[Tm.sizeL,Tm.depthL,fitT]
  exact⟨⟨fun _=>⟨by omega,by omega⟩,fun _=>⟨by omega,by omega⟩⟩,fun _=>⟨by omega,by omega⟩⟩
 | t::l,d,a,b,h1,h2,h3,h4,h5,h6=>by
  have ha:aw d 1=d+1:=aw_eq (by omega) (by omega)
  rw[Sg,Qe (by omega),Qe (by omega),ha]
  obtain⟨k1,k2⟩:=cntT_spec t (d+1) a b h1 h2 h3 h4 (by omega) (by omega)
  simp only[Tm.sizeL,Tm.depthL]
  by_cases c:fitT (WM t (d+1) a b)
  ·obtain⟨a1,a2⟩:=k1.1 c
   obtain⟨e1,e2⟩:=k2 c
   obtain⟨m1,m2⟩:=cntL_spec l d (WM t (d+1) a b).1 (WM t (d+1) a b).2 (by omega) c.1 e2 c.2 h5 h6
   refine⟨⟨fun h=>?_,fun h=>?_⟩,fun h=>?_⟩
   ·obtain⟨b1,b2⟩:=m1.1 h
    exact⟨by omega,by split<;>omega⟩
   ·refine m1.2 ⟨by omega,?_⟩
    have:=h.2
    split at this<;>omega
   ·obtain⟨b1,b2⟩:=m2 h
    exact⟨by omega,b2⟩
  ·
   have hv:Yw l d (WM t (d+1) a b).1 (WM t (d+1) a b).2=((WM t (d+1) a b).1,(WM t (d+1) a b).2):=by
    cases l with
    | nil=>rw[cntL_nil]
    | cons u l=>
     rw[Sg]
     by_cases c':(WM t (d+1) a b).1 > 2000
     ·rw[Qm c']
     ·rw[Qe c',Qm]
      by_cases c2:(WM t (d+1) a b).2 > 200
      ·exact c2
      ·exact absurd ⟨by omega,by omega⟩ c
   rw[hv]
   refine⟨⟨fun h=>absurd h c,fun h=>?_⟩,fun h=>absurd h c⟩
   exact absurd (k1.2 ⟨by omega,by have:=h.2;split at this<;>omega⟩) c
end
theorem rIs_eq(t:Tm):rIs t=isTr t:=by
 obtain⟨h1,_⟩:=rcT_spec t 2000 1 (by omega) (by omega) (by omega) (by omega)
 obtain⟨h2,_⟩:=cntT_spec t 1 0 0 (by omega) (by omega) (by omega) (by omega) (by omega) (by omega)
 unfold rIs isTr
 congr 1
 have h3:(!overP (WM t 1 0 0))=true ↔ fitT (WM t 1 0 0):=by
  unfold overP fitT
  simp only[Xy,XM,XT]
  constructor
  ·rintro ⟨a,b⟩;exact⟨by omega,by omega⟩
  ·rintro ⟨a,b⟩;exact⟨by omega,by omega⟩
 rw[Bool.eq_iff_iff,h1,h3,h2]
 constructor
 ·rintro ⟨a,b⟩;exact⟨by omega,by omega⟩
 ·rintro ⟨a,b⟩;exact⟨by omega,by omega⟩
mutual
def vT:Tm->List Int->List Int
 | .mk k n _ _ l,out=>if k=1 then (if n∈out then out else out++[n]) else vL l out
def vL:List Tm->List Int->List Int
 | [],out=>out
 | t::l,out=>vL l (vT t out)
end
theorem vL_nil(o:List Int):vL [] o=o:=by unfold vL;rfl
theorem Tf(t:Tm)(l:List Tm)(o:List Int):vL (t::l) o=vL l (vT t o):=by conv=>lhs;unfold vL
mutual
theorem vT_keep:∀(t:Tm) (o:List Int),o≠[]->vT t o≠[]
 | .mk k n _ _ l,o,h=>by
  unfold vT
  split
  ·split
   ·exact h
   ·simp
  ·exact vL_keep l o h
theorem vL_keep:∀(l:List Tm) (o:List Int),o≠[]->vL l o≠[]
 | [],o,h=>by rw[vL_nil];exact h
 | t::l,o,h=>by rw[Tf];exact vL_keep l _ (vT_keep t o h)
end
mutual
theorem vT_gre:∀(t:Tm) (o:Int),shT t=true->(greT t o < 0 ↔ (o < 0/\vT t []=[]))
 | .mk k n nl ex l,o,h=>by
  have hb:badT k n l.length=false:=by
   unfold shT at h
   split at h
   ·cases h
   ·rename_i hb;simpa using hb
  obtain⟨_,hl⟩:=shT_mk h
  have hn:¬ n < 0:=by
   unfold badT at hb
   simp only[XM,XT] at hb
   exact hb.1.1.1
  have ih:=vL_gre l (.negSucc 0) hl
  unfold greT vT
  have lK:∀ x y:Int,mx x y < 0 ↔ x < 0/\y < 0:=fun x y=>by unfold mx;split<;>omega
  rw[lK]
  by_cases hk:k=1
  ·rw[Qm hk,Qm hk,Qe (by simp),lK]
   simp
   omega
  ·rw[Qe hk,Qe hk,ih]
   constructor
   ·rintro ⟨a,_,b⟩;exact⟨a,b⟩
   ·rintro ⟨a,b⟩;exact⟨a,by decide,b⟩
theorem vL_gre:∀(l:List Tm) (o:Int),RV l=true->(WW l o < 0 ↔ (o < 0/\vL l []=[]))
 | [],o,_=>by rw[greL_nil,vL_nil];simp
 | t::l,o,h=>by
  rw[Ul] at h
  split at h
  ·rename_i ht
   rw[greL_cons,Tf,vL_gre l _ h,vT_gre t o ht]
   constructor
   ·rintro ⟨⟨a,b⟩,c⟩;rw[b];exact⟨a,c⟩
   ·rintro ⟨a,b⟩
    by_cases hv:vT t []=[]
    ·rw[hv] at b;exact⟨⟨a,hv⟩,b⟩
    ·exact absurd b (vL_keep l _ hv)
  ·cases h
end
def rGround(t:Tm):Bool:=rIs t&&decide ((vL [t] []).length=0)
theorem rGround_eq(t:Tm):rGround t=gr t:=by
 unfold rGround gr
 rw[rIs_eq]
 cases hi:isTr t with
 | false=>rfl
 | true=>
  have hs:shT t=true:=by simp only[isTr,Qd] at hi;exact hi.2
  have h:=vL_gre [t] (.negSucc 0) (by rw[Ul,Qm hs,shL_nil])
  simp only[Q3]
  rw[Bool.eq_iff_iff,decide_eq_true_iff,decide_eq_true_iff,h,XU]
  constructor
  ·intro a;exact⟨by decide,a⟩
  ·intro a;exact a.2
mutual
def rcD:Dv->Int->Int->Int × Bool
 | .mk _ _ _ _ _ _ l,left,deep=>if sw left 1 < 0 then (sw left 1,false) else if deep > 400 then (sw left 1,false) else Yj l (sw left 1) deep
def Yj:List Dv->Int->Int->Int × Bool
 | [],left,_=>(left,true)
 | t::l,left,deep=>if (rcD t left (aw deep 1)).2=true then Yj l (rcD t left (aw deep 1)).1 deep else ((rcD t left (aw deep 1)).1,false)
end
theorem rcDL_nil(left deep:Int):Yj [] left deep=(left,true):=by unfold Yj;rfl
theorem rcDL_cons(t:Dv)(l:List Dv)(left deep:Int):Yj (t::l) left deep=if (rcD t left (aw deep 1)).2=true then Yj l (rcD t left (aw deep 1)).1 deep else ((rcD t left (aw deep 1)).1,false):=by conv=>lhs;unfold Yj
mutual
theorem rcD_spec:∀(t:Dv) (left deep:Int),0<=left->left<=4000->1<=deep->deep<=401 ->
  ((rcD t left deep).2=true ↔ ((t.size:Int)<=left/\deep+t.depth<=401))/\((rcD t left deep).2=true->(rcD t left deep).1=left - t.size)
 | .mk r nv ev vs nl ex l,left,deep,h1,h2,h3,h4=>by
  have hs:sw left 1=left - 1:=sw_eq (by omega) (by omega)
  unfold rcD
  rw[hs]
  simp only[Dv.size,Dv.depth]
  by_cases c1:left - 1 < 0
  ·rw[Qm c1];exact⟨⟨fun h=>(by cases h),fun h=>by omega⟩,fun h=>(by cases h)⟩
  rw[Qe c1]
  by_cases c2:deep > 400
  ·rw[Qm c2];exact⟨⟨fun h=>(by cases h),fun h=>by omega⟩,fun h=>(by cases h)⟩
  rw[Qe c2]
  obtain⟨k1,k2⟩:=rcDL_spec l (left - 1) deep (by omega) (by omega) h3 (by omega)
  refine⟨⟨fun h=>?_,fun h=>?_⟩,fun h=>?_⟩
  ·obtain⟨a1,a2⟩:=k1.1 h
   exact⟨by omega,by omega⟩
  ·exact k1.2 ⟨by omega,by omega⟩
  ·rw[k2 h];omega
theorem rcDL_spec:∀(l:List Dv) (left deep:Int),0<=left->left<=4000->1<=deep->deep<=400 ->
  ((Yj l left deep).2=true ↔ ((Dv.sizeL l:Int)<=left/\deep+Dv.depthL l<=400))/\((Yj l left deep).2=true->(Yj l left deep).1=left - Dv.sizeL l)
 | [],left,deep,h1,h2,h3,h4=>by
  simp only[Yj,Dv.sizeL,Dv.depthL,true_iff]
  exact⟨⟨by omega,by omega⟩,fun _=>by omega⟩
 | d::l,left,deep,h1,h2,h3,h4=>by
  have ha:aw deep 1=deep+1:=aw_eq (by omega) (by omega)
  unfold Yj
  rw[ha]
  obtain⟨k1,k2⟩:=rcD_spec d left (deep+1) h1 h2 (by omega) (by omega)
  simp only[Dv.sizeL,depthL_max]
  by_cases c:(rcD d left (deep+1)).2=true
  ·rw[Qm c]
   obtain⟨a2,a3⟩:=k1.1 c
   have e:=k2 c
   rw[e]
   obtain⟨m1,m2⟩:=rcDL_spec l (left - d.size) deep (by omega) (by omega) h3 h4
   refine⟨⟨fun h=>?_,fun h=>?_⟩,fun h=>?_⟩
   ·obtain⟨b2,b3⟩:=m1.1 h
    exact⟨by omega,by split<;>omega⟩
   ·refine m1.2 ⟨by omega,?_⟩
    have:=h.2
    split at this<;>omega
   ·rw[m2 h];omega
  ·rw[Qe c]
   refine⟨⟨fun h=>(by cases h),fun h=>?_⟩,fun h=>(by cases h)⟩
   exact absurd (k1.2 ⟨by omega,by have:=h.2;split at this<;>omega⟩) c
end
def rIsD(d:Dv):Bool:=(rcD d 4000 1).2&&d.good gr
theorem rIsD_eq(d:Dv):rIsD d=JY d:=by
 obtain⟨h1,_⟩:=rcD_spec d 4000 1 (by omega) (by omega) (by omega) (by omega)
 unfold rIsD
 rw[Bool.eq_iff_iff,Qd,h1,isDv_iff]
 constructor
 ·rintro ⟨⟨a,b⟩,c⟩;exact⟨c,by omega,by omega⟩
 ·rintro ⟨a,b,c⟩;exact⟨⟨by omega,by omega⟩,a⟩
end Go.AM.D32
