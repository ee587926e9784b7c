import Derived.Test.YtejdliehekjicaaGreatAwTbl
import Derived.Test.YtejdliehekjicaaGreatAwFast2
import Derived.KernelRfl
set_option maxRecDepth 100000
set_option linter.unusedSimpArgs false
namespace Go.AM.D32
open Go Go.AM
open Nat renaming reduceEqDiff -> rQ, reduceAdd -> rA
theorem Js{tbl:Nat->Option Vm}{hand:Gam->Nat->Vi->Nat->List AV->St->FR}{f:Nat}{mf:Vm}(h:tbl f=some mf)(n:Nat)(Y:Vi)(args:List AV)(st:St):
  Ji tbl hand (n+1) Y f args st=WK (Yt tbl hand n) Y n (defT tbl (Yt tbl hand n) Y n) mf args st:=by
 simp only[Ji,h];rfl
theorem t121:tbl 121=some m121:=by kernel_rfl
theorem t79:tbl 79=some m79:=by kernel_rfl
theorem t101:tbl 101=some m101:=by kernel_rfl
theorem t223:tbl 223=some m223:=by kernel_rfl
theorem t224:tbl 224=some m224:=by kernel_rfl
theorem t103:tbl 103=some m103:=by kernel_rfl
theorem t163:tbl 163=some m163:=by kernel_rfl
theorem t115:tbl 115=some m115:=by kernel_rfl
noncomputable abbrev gT(n:Nat):Gam:=Yt tbl hnd n
noncomputable abbrev ar(n:Nat)(Y:Vi):=Vj ((gT n).cg Y)
noncomputable abbrev ac(n:Nat)(Y:Vi):=Vh (gT n) Y n
noncomputable abbrev R(n:Nat)(Y:Vi):Nat->List AV->St->FR:=Ji tbl hnd n Y
theorem isNaN_run(n:Nat)(Y:Vi)(k:IntKind)(x:Int)(st:St):R (n+1) Y 121 [.int k x] st=.ret (.bool false) st:=by
 unfold R
 rw[Js t121]
 unfold WK
 have hle:Nat.ble [AV.int k x].length m121.N=true:=by rfl
 rw[hle]
 simp only[Qi]
 simp[m121,Vh,Vj,opr,aop,ev,Vo,Fr.put,Fr.get_set,Vv,MOp.isDefer,OpR.of,Vr,binA,KK,T9,WY,VO,Vg,Vu,V0,Fr.nil]
def VS(x y:Int):Int:=if x < y then .negSucc 0 else if y < x then .ofNat 1 else .ofNat 0
theorem cmpI_run(n:Nat)(Y:Vi)(k:IntKind)(x y:Int)(st:St):R (n+2) Y 79 [.int k x,.int k y] st=.ret (.int .i64 (VS x y)) st:=by
 unfold R
 rw[Js t79]
 have hnan:∀ z,((gT (n+1)).cg Y).fn 121 [.int k z] st=.ret (.bool false) st:=fun z=>isNaN_run n Y k z st
 unfold WK
 have hle:Nat.ble [AV.int k x,AV.int k y].length m79.N=true:=by rfl
 rw[hle]
 simp only[Qi]
 by_cases h1:x < y
 ·simp[m79,Vh,Vj,opr,YJ,FR.toOp,hnan,aop,ev,Vo,Fr.put,Fr.get_set,Vv,MOp.isDefer,OpR.of,Vr,binA,KK,T9,WY,VO,Vg,Vu,V0,Fr.nil,h1,VS]
 ·by_cases h2:y < x
  ·simp[m79,Vh,Vj,opr,YJ,FR.toOp,hnan,aop,ev,Vo,Fr.put,Fr.get_set,Vv,MOp.isDefer,OpR.of,Vr,binA,KK,T9,WY,VO,Vg,Vu,V0,Fr.nil,h1,h2,VS]
  ·simp[m79,Vh,Vj,opr,YJ,FR.toOp,hnan,aop,ev,Vo,Fr.put,Fr.get_set,Vv,MOp.isDefer,OpR.of,Vr,binA,KK,T9,WY,VO,Vg,Vu,V0,Fr.nil,h1,h2,VS]
theorem wr_nat{i:Nat}(h:i<=9223372036854775807):wr .i64 (.ofNat i)=.ofNat i:=by
 have:in64 (.ofNat i)=true:=Qo h
 simp only[wr,this,Qi]
theorem WC{i:Nat}(h:i+1<=9223372036854775807):Vr false .add (ZI i) (ZI 1)=some (ZI ((i+1))):=by
 show some (AV.int .i64 (wr .i64 (.ofNat (i+1))))=_
 rw[wr_nat h]
theorem Wt(i n:Nat):Vr false .lss (ZI i) (ZI n)=some (.bool (decide (i < n))):=by
 show some (AV.bool (decide ((Int.ofNat i) < Int.ofNat n)))=_
 congr 2
 simp
theorem geqN(i n:Nat):Vr false .geq (ZI i) (ZI n)=some (.bool (decide (n<=i))):=by
 show some (AV.bool (decide ((Int.ofNat i)>=Int.ofNat n)))=_
 congr 2
 simp
theorem Yk(x y:Int):Vr false .neq (.int .i64 x) (.int .i64 y)=some (.bool (x != y)):=rfl
def orI(a b c:Int):Int:=if a≠0 then a else if b≠0 then b else c
theorem or_run(n:Nat)(Y:Vi)(a b c:Int)(st:St):R (n+5) Y 101 [.lst 3 [.int .i64 a,.int .i64 b,.int .i64 c] true] st=.ret (.int .i64 (orI a b c)) st:=by
 unfold R
 rw[Js t101]
 unfold WK
 have hle:Nat.ble [AV.lst 3 [.int .i64 a,.int .i64 b,.int .i64 c] true].length m101.N=true:=by rfl
 rw[hle]
 simp only[Qi]
 have e0:∀ x:Int,(x != Int.ofNat 0)=decide (x≠0):=fun x=>by
  by_cases h:x=0
  ·subst h;rfl
  ·simp[h]
 have b00:Nat.beq 0 0=true:=rfl
 have b01:Nat.beq 0 1=false:=rfl
 have b10:Nat.beq 1 0=false:=rfl
 have l0:VD 0 (AV.lst 3 [.int .i64 a,.int .i64 b,.int .i64 c] true)=true:=rfl
 have s0:Vr false .lss Z0 (ZI 3)=some (.bool true):=rfl
 have s1:Vr false .lss (ZI 1) (ZI 3)=some (.bool true):=rfl
 have s2:Vr false .lss (ZI 2) (ZI 3)=some (.bool true):=rfl
 have s3:Vr false .lss (ZI 3) (ZI 3)=some (.bool false):=rfl
 have a0:Vr false .add Z0 (ZI 1)=some (ZI 1):=rfl
 have a1:Vr false .add (ZI 1) (ZI 1)=some (ZI 2):=rfl
 have a2:Vr false .add (ZI 2) (ZI 1)=some (ZI 3):=rfl
 have i0:VC 1 (AV.lst 3 [.int .i64 a,.int .i64 b,.int .i64 c] true) Z0=some (.fptr [.int .i64 a,.int .i64 b,.int .i64 c] 0):=rfl
 have i1:VC 1 (AV.lst 3 [.int .i64 a,.int .i64 b,.int .i64 c] true) (ZI 1)=some (.fptr [.int .i64 a,.int .i64 b,.int .i64 c] 1):=rfl
 have i2:VC 1 (AV.lst 3 [.int .i64 a,.int .i64 b,.int .i64 c] true) (ZI 2)=some (.fptr [.int .i64 a,.int .i64 b,.int .i64 c] 2):=rfl
 have d0:Vf false 1 st (.fptr [.int .i64 a,.int .i64 b,.int .i64 c] 0)=some (.int .i64 a):=rfl
 have d1:Vf false 1 st (.fptr [.int .i64 a,.int .i64 b,.int .i64 c] 1)=some (.int .i64 b):=rfl
 have d2:Vf false 1 st (.fptr [.int .i64 a,.int .i64 b,.int .i64 c] 2)=some (.int .i64 c):=rfl
 have ln:Wm st (AV.lst 3 [.int .i64 a,.int .i64 b,.int .i64 c] true)=some (ZI 3):=rfl
 have hx:∀ x:Int,(x=0/\(x != Int.ofNat 0)=false)\/(x≠0/\(x != Int.ofNat 0)=true):=fun x=>by
  rw[e0]
  by_cases h:x=0
  ·exact .inl ⟨h,by simp[h]⟩
  ·exact .inr ⟨h,by simp[h]⟩
 clear e0
 rcases hx a with⟨ha,na⟩|⟨ha,na⟩
 ·have ho:orI a b c=if b≠0 then b else c:=by simp[orI,ha]
  rw[ho];clear ho ha
  rcases hx b with⟨hb,nb⟩|⟨hb,nb⟩
  ·have ho:(if b≠0 then b else c)=c:=by simp[hb]
   rw[ho];clear ho hb
   rcases hx c with⟨hc,nc⟩|⟨hc,nc⟩
   ·have ho:c=Int.ofNat 0:=hc
    have hg:FR.ret (AV.int .i64 c) st=FR.ret Z0 st:=by rw[ho]
    rw[hg];clear hg ho hc
    simp only[rQ,↓reduceIte,Q9,reduceCtorEq,Qg,Ql,Qi,Qq,Fr.set_ds,b00,b01,b10,m101,Vh,Vj,opr,aop,ev,Vo,Fr.put,Fr.get_set,Vv,MOp.isDefer,OpR.of,WY,VO,Vg,Vu,V0,Fr.nil,Vx,l0,ln,s0,s1,s2,s3,a0,a1,a2,i0,i1,i2,d0,d1,d2,Yk,na,nb,nc]
   ·clear hc
    simp only[rQ,↓reduceIte,Q9,reduceCtorEq,Qg,Ql,Qi,Qq,Fr.set_ds,b00,b01,b10,m101,Vh,Vj,opr,aop,ev,Vo,Fr.put,Fr.get_set,Vv,MOp.isDefer,OpR.of,WY,VO,Vg,Vu,V0,Fr.nil,Vx,l0,ln,s0,s1,s2,s3,a0,a1,a2,i0,i1,i2,d0,d1,d2,Yk,na,nb,nc]
  ·have ho:(if b≠0 then b else c)=b:=by simp[hb]
   rw[ho];clear ho hb
   simp only[rQ,↓reduceIte,Q9,reduceCtorEq,Qg,Ql,Qi,Qq,Fr.set_ds,b00,b01,b10,m101,Vh,Vj,opr,aop,ev,Vo,Fr.put,Fr.get_set,Vv,MOp.isDefer,OpR.of,WY,VO,Vg,Vu,V0,Fr.nil,Vx,l0,ln,s0,s1,s2,s3,a0,a1,a2,i0,i1,i2,d0,d1,d2,Yk,na,nb]
 ·have ho:orI a b c=a:=by simp[orI,ha]
  rw[ho];clear ho ha
  simp only[rQ,↓reduceIte,Q9,reduceCtorEq,Qg,Ql,Qi,Qq,Fr.set_ds,b00,b01,b10,m101,Vh,Vj,opr,aop,ev,Vo,Fr.put,Fr.get_set,Vv,MOp.isDefer,OpR.of,WY,VO,Vg,Vu,V0,Fr.nil,Vx,l0,ln,s0,s1,s2,s3,a0,a1,a2,i0,i1,i2,d0,d1,d2,Yk,na]
def Vd(st st':St):Prop:=st.next<=st'.next/\∀ id,id < st.next->st'.get id=st.get id
theorem Vd.refl(st:St):Vd st st:=⟨Qw _,fun _ _=>rfl⟩
theorem Vd.trans{a b c:St}(h:Vd a b)(k:Vd b c):Vd a c:=⟨QY h.1 k.1,fun id hi=>(k.2 id (Qz hi h.1)).trans (h.2 id hi)⟩
theorem Vd.new(st:St)(o:AO):Vd st (st.new o):=⟨by simp,fun id hi=>by rw[St.get_new,Qe (by omega)]⟩
theorem Vd.put{st st':St}(h:Vd st st')(id:Nat)(o:AO)(hid:st.next<=id):Vd st (st'.put id o):=⟨h.1,fun i hi=>by rw[St.get_put,Qe (by omega)];exact h.2 i hi⟩
def V7(nl ex:Bool)(xs:List (List AV)):AV:=bif nl then .nilsl else .lst xs.length xs.flatten ex
noncomputable def Kb(zs:List AV):Vn:=(ZQ [ZO 14 (.bin false .lss (.t 13) (.t 12))]
 (.seq (.cond (.t 14)
 .skip
 (.exit 0))
 (.seq (.block 1 (ZQ [ZV 15 13,ZP 16 3 11 13,ZK 17 3 16,ZO 8 (.alloc zs),ZV 7 15,ZS 3 8 17]
 (.seq (ZQ [ZV 18 7,ZV 19 1,ZN 20 19,ZO 21 (.bin false .geq (.t 18) (.t 20))]
 (.cond (.t 21)
 (ZR [ZM 6 (ZC 1)])
 .skip))
 (ZQ [ZV 22 1,ZV 23 7,ZP 24 3 22 23,ZK 25 3 24,ZO 9 (.alloc zs),ZS 3 9 25]
 (ZQ [ZV 26 2,ZK 27 3 8,ZK 28 3 9,ZO 29 (.call (.t 26) [(.t 27),(.t 28)]),ZV 10 29]
 (ZQ [ZV 30 10,ZO 31 (.bin false .neq (.t 30) (ZC 0))]
 (.cond (.t 31)
 (ZR [ZV 32 10,ZV 6 32])
 .skip)))))))
 (.region [ZO 33 (.bin false .add (.t 13) (ZC 1)),ZV 13 33]))))
noncomputable def cfM(zs:List AV):Vm:=⟨39,(ZQ [ZM 6 (ZC 0)]
 (.seq (ZQ [ZV 11 0,ZN 12 11,ZM 13 (ZC 0)]
 (.block 0 (.loop (Kb zs))))
 (.seq (ZQ [ZV 34 0,ZN 35 34,ZV 36 1,ZN 37 36,ZO 38 (.bin false .lss (.t 35) (.t 37))]
 (.cond (.t 38)
 (ZR [ZM 6 (.c (.int .i64 (.negSucc 0)))])
 .skip))
 (ZR [ZM 6 (ZC 0)])))),[.t 6]⟩
theorem t152:tbl 152=some (cfM [Z0,Z0,.nilsl]):=by kernel_rfl
theorem t270:tbl 270=some (cfM [Z0,.nilsl,.nilsl]):=by kernel_rfl
def Yi{E:Type}(c:E->E->Int):List E->List E->Option Int
 | [],_=>none
 | _::_,[]=>some (.ofNat 1)
 | x::xs,y::ys=>if c x y=0 then Yi c xs ys else some (c x y)
def YS{E:Type}(c:E->E->Int)(xs ys:List E):Int:=
 match Yi c xs ys with
 | some r=>r
 | none=>if xs.length < ys.length then .negSucc 0 else .ofNat 0
theorem flat_at{xs:List (List AV)}(h3:∀ x∈xs,x.length=3):∀{i:Nat} {x:List AV},xs[i]?=some x->(xs.flatten.drop (i*3)).take 3=x:=by
 induction xs with
 | nil=>intro i x h;simp at h
 | cons y ys ih=>
  intro i x h
  have hy:=h3 y (by simp)
  cases i with
  | zero=>
   simp only[Q0,Qa] at h;subst h
   simp only[Xc,Nat.zero_mul,Xw]
   rw[XG (by omega),Xx (by omega)]
  | succ i=>
   simp only[QE] at h
   have:=ih (fun x hx=>h3 x (by simp[hx])) h
   rw[<-this]
   congr 1
   simp only[Xc]
   rw[show (i+1)*3=y.length+i*3 by omega,ZZ]
   simp
theorem mem_flat{x:List AV}:∀{xs:List (List AV)},x∈xs->x.length<=xs.flatten.length
 | y::ys,h=>by
  simp only[Xc,QJ]
  rcases Qx.1 h with rfl | h
  ·omega
  ·have:=mem_flat h;omega
theorem iaddr_sl{nl ex:Bool}{xs:List (List AV)}(h3:∀ x∈xs,x.length=3)(hnl:nl=true->xs=[]){i:Nat}{x:List AV}(hx:xs[i]?=some x):
  VC 3 (V7 nl ex xs) (ZI i)=some (.fptr xs.flatten (i*3)):=by
 have hi:=(Qt.1 hx).1
 cases nl with
 | true=>rw[hnl rfl] at hi;simp at hi
 | false=>
  simp only[V7,Qq,VC]
  rw[Qo (show i+1<=xs.length from hi)]
  simp only[Qi]
  split
  ·rename_i he
   have hm:x∈xs:=Qr hx
   have h1:=h3 x hm
   have h2:=mem_flat hm
   rw[he,h1] at h2
   simp at h2
  ·rfl
theorem load_sl{xs:List (List AV)}(h3:∀ x∈xs,x.length=3){i:Nat}{x:List AV}(hx:xs[i]?=some x)(st:St):Vf true 3 st (.fptr xs.flatten (i*3))=some (.agg x):=by
 simp only[Vf,Wy,Qg,flat_at h3 hx,Ja,Qi]
 rw[h3 x (Qr hx)]
 rfl
theorem len_sl(nl ex:Bool)(xs:List (List AV))(hnl:nl=true->xs=[])(st:St):(bif VD 0 (V7 nl ex xs) then Wm st (V7 nl ex xs) else none)=some (ZI xs.length):=by
 cases nl with
 | true=>rw[hnl rfl];rfl
 | false=>rfl
theorem Se{st:St}{zs x:List AV}(hz:zs.length=3)(hx:x.length=3)(h1:x.all AV.one=true):Vt 3 (st.new (.row zs)) (.ptr st.next 0) (.agg x)=some ((st.new (.row zs)).put st.next (.row x)):=by
 simp only[Vt,St.get_new,Xj,AV.cells,hx,hz,h1]
 have:setCells zs 0 x=x:=by
  simp only[setCells,Xe,QR,Q7]
  rw[XX (by omega)];simp
 rw[this];rfl
theorem load_row{st:St}{id:Nat}{x:List AV}(hg:st.get id=some (.row x))(hx:x.length=3):Vf true 3 st (.ptr id 0)=some (.agg x):=by
 simp only[Vf,Wy,hg,Qg,Xw]
 rw[Xx (by omega)]
 simp only[Ja,Qi,hx]
 rfl
section
variable {n:Nat} {Y:Vi} {zs:List AV} {nl1 ex1 nl2 ex2:Bool} {xs ys:List (List AV)} {c:List AV->List AV->Int} {g:Nat}
theorem cf_loop(hz:zs.length=3)(h3:∀ x∈xs,x.length=3/\x.all AV.one=true)(h3':∀ y∈ys,y.length=3/\y.all AV.one=true)(hn1:nl1=true->xs=[])(hn2:nl2=true->ys=[])(hb:xs.length<=9223372036854775807)
  (hc:∀ x∈xs,∀ y∈ys,∀ st,∃ st',R n Y g [.agg x,.agg y] st=.ret (.int .i64 (c x y)) st'/\Vd st st') (m:Nat):
  ∀(r1:List (List AV)) (r2:List (List AV)) (i:Nat) (fr:Fr) (st:St) (k:Nat),xs.drop i=r1->ys.drop i=r2->i<=xs.length->i<=ys.length->r1.length < k ->
   fr.get 0=some (V7 nl1 ex1 xs)->fr.get 1=some (V7 nl2 ex2 ys)->fr.get 2=some (.func (.func g) [] [])->fr.get 11=some (V7 nl1 ex1 xs)->fr.get 12=some (ZI xs.length)->fr.get 13=some (ZI i) ->
   ∃ fr' st',Vd st st'/\fr'.ds=fr.ds/\(match Yi c r1 r2 with
    | some r=>Vx (Vh (gT n) Y m (Kb zs) none) k fr st=.ret fr' st'/\fr'.get 6=some (.int .i64 r)
    | none=>Vx (Vh (gT n) Y m (Kb zs) none) k fr st=.exit 0 fr' st'/\fr'.get 0=some (V7 nl1 ex1 xs)/\fr'.get 1=some (V7 nl2 ex2 ys))
 | [],r2,i,fr,st,k+1,h1,h2,hi,hi',hk,g0,g1,g2,g11,g12,g13=>by
  have hlen:xs.length<=i:=by
   have:=Xn List.length h1
   simp at this;omega
  have hlt:Vr false .lss (ZI i) (ZI xs.length)=some (.bool false):=by rw[Wt];simp;omega
  simp only[Yi]
  refine⟨?fr,?st,?k,?d,?r,?f,?g⟩
  case r=>
   simp only[Kb,Vx,rQ,↓reduceIte,Q9,reduceCtorEq,Qg,Ql,Qi,Qq,Fr.set_ds,Vh,Vj,opr,aop,ev,Fr.put,Fr.get_set,Vv,MOp.isDefer,OpR.of,OpR.ofSt,YJ,FR.toOp,Q4,QZ,QR,QG,QP,g13,g12,hlt]
   rfl
  case k=>exact Vd.refl st
  case d=>rfl
  case f=>simp only[Fr.get_set,rQ,↓reduceIte,g0]
  case g=>simp only[Fr.get_set,rQ,↓reduceIte,g1]
 | x::r1,[],i,fr,st,k+1,h1,h2,hi,hi',hk,g0,g1,g2,g11,g12,g13=>by
  have hx:xs[i]?=some x:=by
   have:=Xn (fun l=>l[0]?) h1
   simpa [XV] using this
  have hlen:i < xs.length:=(Qt.1 hx).1
  have hlen2:ys.length<=i:=by
   have:=Xn List.length h2
   simp at this;omega
  have hlt:Vr false .lss (ZI i) (ZI xs.length)=some (.bool true):=by rw[Wt];simp;omega
  have hge:Vr false .geq (ZI i) (ZI ys.length)=some (.bool true):=by rw[geqN];simp;omega
  have hx3:=h3 x (Qr hx)
  have ia:=iaddr_sl (ex:=ex1) (fun x hx=>(h3 x hx).1) hn1 hx
  have ld:=load_sl (fun x hx=>(h3 x hx).1) hx st
  have sto:=Se (st:=st) hz hx3.1 hx3.2
  have l2:=len_sl nl2 ex2 ys hn2 ((st.new (.row zs)).put st.next (.row x))
  simp only[Yi]
  refine⟨?fr2,?st2,?k2,?d2,?r2,?f2⟩
  case r2=>
   simp only[Kb,Vx,rQ,↓reduceIte,Q9,reduceCtorEq,Qg,Ql,Qi,Qq,Fr.set_ds,Vh,Vj,opr,aop,ev,Fr.put,Fr.get_set,Vv,MOp.isDefer,OpR.of,OpR.ofSt,YJ,FR.toOp,Q4,QZ,QR,QG,QP,g13,g12,hlt,g11,ia,ld,sto,g1,l2,hge]
   rfl
  case k2=>exact(Vd.new st (.row zs)).put st.next (.row x) (Qw _)
  case d2=>rfl
  case f2=>simp only[Fr.get_set,rQ,↓reduceIte]
 | x::r1,y::r2,i,fr,st,k+1,h1,h2,hi,hi',hk,g0,g1,g2,g11,g12,g13=>by
  have hx:xs[i]?=some x:=by
   have:=Xn (fun l=>l[0]?) h1
   simpa [XV] using this
  have hy:ys[i]?=some y:=by
   have:=Xn (fun l=>l[0]?) h2
   simpa [XV] using this
  have hlen:i < xs.length:=(Qt.1 hx).1
  have hlen2:i < ys.length:=(Qt.1 hy).1
  have hlt:Vr false .lss (ZI i) (ZI xs.length)=some (.bool true):=by rw[Wt];simp;omega
  have hge:Vr false .geq (ZI i) (ZI ys.length)=some (.bool false):=by rw[geqN];simp;omega
  have hmx:=Qr hx
  have hmy:=Qr hy
  have hx3:=h3 x hmx
  have hy3:=h3' y hmy
  have ia:=iaddr_sl (ex:=ex1) (fun x hx=>(h3 x hx).1) hn1 hx
  have ib:=iaddr_sl (ex:=ex2) (fun x hx=>(h3' x hx).1) hn2 hy
  have ld:=load_sl (fun x hx=>(h3 x hx).1) hx st
  have sto:=Se (st:=st) hz hx3.1 hx3.2
  have l2:=len_sl nl2 ex2 ys hn2 ((st.new (.row zs)).put st.next (.row x))
  have ld2:=load_sl (fun x hx=>(h3' x hx).1) hy ((st.new (.row zs)).put st.next (.row x))
  have sto2:=Se (st:=(st.new (.row zs)).put st.next (.row x)) hz hy3.1 hy3.2
  have la:Vf true 3 ((((st.new (.row zs)).put st.next (.row x)).new (.row zs)).put ((st.new (.row zs)).put st.next (.row x)).next (.row y)) (.ptr st.next 0)=some (.agg x):=load_row (by simp) hx3.1
  have lb:Vf true 3 ((((st.new (.row zs)).put st.next (.row x)).new (.row zs)).put ((st.new (.row zs)).put st.next (.row x)).next (.row y)) (.ptr ((st.new (.row zs)).put st.next (.row x)).next 0)=some (.agg y):=load_row (by simp) hy3.1
  obtain⟨st3,hcall,hkeep⟩:=hc x hmx y hmy ((((st.new (.row zs)).put st.next (.row x)).new (.row zs)).put ((st.new (.row zs)).put st.next (.row x)).next (.row y))
  have hcall':((gT n).cg Y).fn g [.agg x,.agg y] ((((st.new (.row zs)).put st.next (.row x)).new (.row zs)).put ((st.new (.row zs)).put st.next (.row x)).next (.row y))=.ret (.int .i64 (c x y)) st3:=hcall
  have hk3:Vd st st3:=by
   refine Vd.trans ?_ hkeep
   refine Vd.put (Vd.trans ((Vd.new st (.row zs)).put st.next (.row x) (Qw _)) (Vd.new _ (.row zs))) _ _ (by simp)
  have b10:Nat.beq 1 0=false:=rfl
  have b01:Nat.beq 0 1=false:=rfl
  by_cases hc0:c x y=0
  ·have hne:Vr false .neq (.int .i64 (c x y)) Z0=some (.bool false):=by rw[Yk,hc0];rfl
   have had:=WC (i:=i) (by omega)
   obtain⟨FR,hst,e0,e1,e2,e11,e12,e13,eds⟩:∃ FR,Vh (gT n) Y m (Kb zs) none fr st=.norm FR st3/\FR.get 0=some (V7 nl1 ex1 xs)/\FR.get 1=some (V7 nl2 ex2 ys)/\FR.get 2=some (.func (.func g) [] []) ∧
     FR.get 11=some (V7 nl1 ex1 xs)/\FR.get 12=some (ZI xs.length)/\FR.get 13=some (ZI ((i+1)))/\FR.ds=fr.ds:=by
    refine⟨?fr3,?r3,?a0,?a1,?a2,?a11,?a12,?a13,?ad⟩
    case r3=>
     simp only[Kb,rQ,↓reduceIte,Q9,reduceCtorEq,Qg,Ql,Qi,Qq,Fr.set_ds,Vh,Vj,opr,aop,ev,Fr.put,Fr.get_set,Vv,MOp.isDefer,OpR.of,OpR.ofSt,YJ,FR.toOp,Q4,QZ,QR,QG,QP,g13,g12,hlt,g11,ia,ld,sto,g1,l2,hge,ib,ld2,sto2,la,lb,g2,hcall',hne,had]
     rfl
    case a0=>simp only[Fr.get_set,rQ,↓reduceIte,g0]
    case a1=>simp only[Fr.get_set,rQ,↓reduceIte,g1]
    case a2=>simp only[Fr.get_set,rQ,↓reduceIte,g2]
    case a11=>simp only[Fr.get_set,rQ,↓reduceIte,g11]
    case a12=>simp only[Fr.get_set,rQ,↓reduceIte,g12]
    case a13=>simp only[Fr.get_set,rQ,↓reduceIte]
    case ad=>rfl
   obtain⟨fr',st',q1,q2,q3⟩:=cf_loop hz h3 h3' hn1 hn2 hb hc m r1 r2 (i+1) FR st3 k (by rw[<-List.drop_drop,h1];rfl) (by rw[<-List.drop_drop,h2];rfl) (by omega) (by omega) (by simpa using hk) e0 e1 e2 e11 e12 e13
   refine⟨fr',st',hk3.trans q1,q2.trans eds,?_⟩
   have hw:Yi c (x::r1) (y::r2)=Yi c r1 r2:=by simp only[Yi,hc0,Xj]
   have hl:Vx (Vh (gT n) Y m (Kb zs) none) (k+1) fr st=Vx (Vh (gT n) Y m (Kb zs) none) k FR st3:=by
    rw[Vx,hst]
   rw[hw,hl]
   exact q3
  ·have hne:Vr false .neq (.int .i64 (c x y)) Z0=some (.bool true):=by
    rw[Yk]
    have:(c x y != Int.ofNat 0)=true:=by simpa using hc0
    rw[this]
   have hw:Yi c (x::r1) (y::r2)=some (c x y):=by simp only[Yi,hc0,Xz]
   rw[hw]
   simp only
   refine⟨?fr4,?st4,?k4,?d4,?r4,?f4⟩
   case r4=>
    simp only[Kb,Vx,rQ,↓reduceIte,Q9,reduceCtorEq,Qg,Ql,Qi,Qq,Fr.set_ds,Vh,Vj,opr,aop,ev,Fr.put,Fr.get_set,Vv,MOp.isDefer,OpR.of,OpR.ofSt,YJ,FR.toOp,Q4,QZ,QR,QG,QP,g13,g12,hlt,g11,ia,ld,sto,g1,l2,hge,ib,ld2,sto2,la,lb,g2,hcall',hne]
    rfl
   case k4=>exact hk3
   case d4=>rfl
   case f4=>simp only[Fr.get_set,rQ,↓reduceIte]
 | _,_,_,_,_,0,_,_,_,_,hk,_,_,_,_,_,_=>by omega
theorem cf_run{f:Nat}(hf:tbl f=some (cfM zs))(hz:zs.length=3)(h3:∀ x∈xs,x.length=3/\x.all AV.one=true)(h3':∀ y∈ys,y.length=3/\y.all AV.one=true)(hn1:nl1=true->xs=[])(hn2:nl2=true->ys=[])(hb:xs.length<=9223372036854775807)
  (hc:∀ x∈xs,∀ y∈ys,∀ st,∃ st',R n Y g [.agg x,.agg y] st=.ret (.int .i64 (c x y)) st'/\Vd st st') (hn:xs.length < n) (st:St):
  ∃ st',R (n+1) Y f [V7 nl1 ex1 xs,V7 nl2 ex2 ys,.func (.func g) [] []] st=.ret (.int .i64 (YS c xs ys)) st'/\Vd st st':=by
 have l1:=len_sl nl1 ex1 xs hn1
 have l2:=len_sl nl2 ex2 ys hn2
 -- the slots at the loop's begin
 obtain⟨fr',st',hk,hds,hw⟩:=cf_loop (n:=n) (Y:=Y) (zs:=zs) (ex1:=ex1) (ex2:=ex2) hz h3 h3' hn1 hn2 hb hc n xs ys 0
  ((((Vo 0 [V7 nl1 ex1 xs,V7 nl2 ex2 ys,.func (.func g) [] []] Fr.nil).set 6 (some Z0)).set 11 (some (V7 nl1 ex1 xs))).set 12 (some (ZI xs.length)) |>.set 13 (some Z0)) st n rfl rfl (X3 _) (X3 _) hn
  (by simp only[Vo,Fr.get_set,rQ,↓reduceIte]) (by simp only[Vo,Fr.get_set,rQ,↓reduceIte]) (by simp only[Vo,Fr.get_set,rQ,↓reduceIte])
  (by simp only[Vo,Fr.get_set,rQ,↓reduceIte]) (by simp only[Vo,Fr.get_set,rQ,↓reduceIte]) (by simp only[Vo,Fr.get_set,rQ,↓reduceIte])
 have hds':fr'.ds=[]:=hds
 have b00:Nat.beq 0 0=true:=rfl
 have hle:Nat.ble [V7 nl1 ex1 xs,V7 nl2 ex2 ys,.func (.func g) [] []].length (cfM zs).N=true:=rfl
 refine⟨st',?_,hk⟩
 unfold R
 rw[Js hf]
 unfold WK
 rw[hle]
 cases hwk:Yi c xs ys with
 | some r=>
  rw[hwk] at hw
  obtain⟨ha,h6⟩:=hw
  have hcm:YS c xs ys=r:=by unfold YS;rw[hwk]
  rw[hcm]
  simp only[Vo] at ha
  simp only[cfM,Vo,rQ,↓reduceIte,Q9,reduceCtorEq,Qg,Ql,Qi,Qq,Fr.set_ds,Vh,Vj,opr,aop,ev,Fr.put,Fr.get_set,Vv,MOp.isDefer,OpR.of,OpR.ofSt,YJ,FR.toOp,Q4,QZ,QR,QG,QP,l1,ha,WY,hds',VO,Vg,Vu,V0,h6]
 | none=>
  rw[hwk] at hw
  obtain⟨ha,g0,g1⟩:=hw
  simp only[Vo] at ha
  by_cases hlt:xs.length < ys.length
  ·have hcm:YS c xs ys=.negSucc 0:=by unfold YS;rw[hwk];simp only[hlt,Xj]
   have hl:Vr false .lss (ZI xs.length) (ZI ys.length)=some (.bool true):=by rw[Wt];simp[hlt]
   rw[hcm]
   simp only[cfM,Vo,rQ,↓reduceIte,Q9,reduceCtorEq,Qg,Ql,Qi,Qq,Fr.set_ds,Vh,Vj,opr,aop,ev,Fr.put,Fr.get_set,Vv,MOp.isDefer,OpR.of,OpR.ofSt,YJ,FR.toOp,Q4,QZ,QR,QG,QP,l1,l2,ha,b00,g0,g1,hl,WY,hds',VO,Vg,Vu,V0]
  ·have hcm:YS c xs ys=.ofNat 0:=by unfold YS;rw[hwk];simp only[hlt,Xz]
   have hl:Vr false .lss (ZI xs.length) (ZI ys.length)=some (.bool false):=by rw[Wt];simp[hlt]
   rw[hcm]
   simp only[cfM,Vo,rQ,↓reduceIte,Q9,reduceCtorEq,Qg,Ql,Qi,Qq,Fr.set_ds,Vh,Vj,opr,aop,ev,Fr.put,Fr.get_set,Vv,MOp.isDefer,OpR.of,OpR.ofSt,YJ,FR.toOp,Q4,QZ,QR,QG,QP,l1,l2,ha,b00,g0,g1,hl,WY,hds',VO,Vg,Vu,V0]
end
open Nat renaming reduceEqDiff -> rQ, reduceAdd -> rA
def isSl:AV->Bool
 | .lst _ _ _=>true
 | .nilsl=>true
 | _=>false
theorem isSl_sl(nl ex:Bool)(l:List (List AV)):isSl (V7 nl ex l)=true:=by cases nl<;>rfl
theorem len_isSl{v:AV}(h:isSl v=true)(st st':St):Wm st v=Wm st' v:=by
 cases v<;>first | rfl | (simp[isSl] at h)
theorem avBeq_len(n:Nat):V8 (ZI n) (ZI n)=true:=by
 show (_&&Nat.beq n n)=true
 rw[QD];rfl
def okLin(fr:Fr):MOp->Bool
 | .alloc _=>false
 | .mksl _ _ _ _ _=>false
 | .len _ x=>isSl (ev fr x)
 | .load _ _ x=>frzX fr x
 | _=>true
def dlin(Γ:Cg):List (Vc × Nat)->Fr->St->Option (Fr × St)
 | [],fr,st=>some (fr,st)
 | z::zs,fr,st=>match z.1.guard with
  | some _=>none
  | none=>bif okLin fr z.1.op then match opr Γ fr st z.1.op with
    | .val v st'=>dlin Γ zs (Fr.put fr z.1.dst v) st'
    | _=>none else none
def loadB:MOp->Bool
 | .load _ _ _=>true
 | .len _ _=>true
 | _=>false
def chkLoads(zs:List (Vc × Nat))(chk:List (Nat × Option Nat)):Bool:=chk.all fun q=>match zs[q.1]? with
 | some z=>loadB z.1.op
 | none=>true
def Ta:List (Vc × Nat)->Bool
 | []=>true
 | z::zs=>(match z.1.op with | .alloc _=>false | .mksl _ _ _ _ _=>false | _=>true)&&Ta zs
theorem TI:∀(zs:List (Vc × Nat)) (ns:List Nat) (st:St),Ta zs=true->VT zs ns st=st
 | [],_,_,_=>rfl
 | z::zs,ns,st,h=>by
  simp only[Ta,Qd] at h
  rcases UB z zs ns st with⟨h2,_⟩|⟨_,h2⟩
  ·have h1:=h.1
   cases ho:z.1.op<;>rw[ho] at h1 h2<;>simp_all [MOp.ahead]
  ·rw[h2];exact TI zs ns st h.2
theorem drun_lin{Γ:Cg}:∀(zs:List (Vc × Nat)) (i id:Nat) (fr fr':Fr) (st st':St),dlin Γ zs fr st=some (fr',st') ->
  ∃ its,Wq Γ zs i id fr st none=some (its,fr',st')/\JE its=none/\(∀(j:Nat) (f:Fr) (s:St) (v:AV) (s':St),its[j]?=some (DIt.pan f s v s')->False)/\∀(j:Nat) (z:Vc × Nat) (f:Fr) (s:St) (v:AV) (s':St),zs[j]?=some z->loadB z.1.op=true->its[j]?=some (DIt.val f s v s')->W0 z.1.op f=true\/∀ i s',YF Γ i f s' z.1.op v=true
 | [],i,id,fr,fr',st,st',h=>by
  simp only[dlin,Qa,Q2] at h
  obtain⟨rfl,rfl⟩:=h
  exact⟨[],rfl,rfl,by simp,by simp⟩
 | z::zs,i,id,fr,fr',st,st',h=>by
  unfold dlin at h
  cases hg:z.1.guard with
  | some g=>rw[hg] at h;cases h
  | none=>
   rw[hg] at h
   simp only at h
   cases hk:okLin fr z.1.op with
   | false=>rw[hk] at h;cases h
   | true=>
    rw[hk] at h
    simp only[Qi] at h
    have ho:V5 Γ id fr st z.1.op=opr Γ fr st z.1.op:=by
     unfold V5
     split
     ·rename_i h2;rw[h2] at hk;cases hk
     ·rename_i h2;rw[h2] at hk;cases hk
     ·rfl
    cases hr:opr Γ fr st z.1.op with
    | val v s1=>
     rw[hr] at h
     obtain⟨its,h1,h2,h3,h4⟩:=drun_lin zs (i+1) (VJ id z.1.op) (Fr.put fr z.1.dst v) fr' s1 st' h
     refine⟨.val fr st v s1::its,?_,?_,?_,?_⟩
     ·unfold Wq
      rw[hg,ho,hr]
      simp only[Ku,Qq,Vv]
      rw[h1];rfl
     ·exact h2
     ·intro j f s v s' hj
      cases j with
      | zero=>simp at hj
      | succ j=>exact h3 j f s v s' (by simpa using hj)
     ·intro j z' f s u s' hz hl hj
      cases j with
      | zero=>
       simp only[Q0,Qa,DIt.val.injEq] at hz hj
       obtain⟨rfl,rfl,rfl,rfl⟩:=hj
       subst hz
       unfold loadB at hl
       split at hl
       ·rename_i a n x hx
        rw[hx] at hk ⊢
        exact .inl hk
       ·rename_i c x hx
        rw[hx] at hk hr ⊢
        refine .inr fun i s2=>?_
        have hk':isSl (ev fr x)=true:=hk
        simp only[YF,V5,opr,aop] at hr ⊢
        rw[len_isSl hk' s2 st]
        cases hL:(bif VD c (ev fr x) then Wm st (ev fr x) else none) with
        | none=>rw[hL] at hr;cases hr
        | some q=>
         rw[hL] at hr
         simp only[OpR.of,OpR.val.injEq] at hr
         obtain⟨rfl,rfl⟩:=hr
         simp only[OpR.of]
         cases hf:VD c (ev fr x) with
         | false=>rw[hf] at hL;cases hL
         | true=>
          rw[hf] at hL
          simp only[Qi] at hL
          cases he:ev fr x<;>rw[he] at hk' hL<;>first | (simp[isSl] at hk';done) | (simp only[Wm,Qa] at hL;subst hL;exact avBeq_len _)
       ·cases hl
      | succ j=>exact h4 j z' f s u s' (by simpa using hz) hl (by simpa using hj)
    | pan v s1=>rw[hr] at h;cases h
    | stuck=>rw[hr] at h;cases h
theorem adraw_lin{Γ:Cg}{zs:List (Vc × Nat)}{chk:List (Nat × Option Nat)}{fr fr':Fr}{st st':St}(hc:chkLoads zs chk=true)(ha:Ta zs=true)(h:dlin Γ zs fr st=some (fr',st')):
  VK Γ zs chk fr st=.ok fr' st':=by
 obtain⟨its,h1,h2,h3,h4⟩:=drun_lin zs 0 st.next fr fr' st st' h
 have hall:chk.all (KE Γ zs its st.next st')=true:=by
  rw[QB]
  intro q hq
  have hl:=QB.1 hc q hq
  unfold KE
  split
  ·rename_i z f s v s' hz hi
   rw[hz] at hl
   have hf:=h4 q.1 z f s v s' hz hl hi
   have hor:∀ i s',(W0 z.1.op f||YF Γ i f s' z.1.op v)=true:=fun i s'=>by
    rcases hf with hf | hf
    ·rw[hf];rfl
    ·rw[hf i s',XS]
   split
   ·split
    ·exact hor _ _
    ·split
     ·exact hor _ _
     ·exact hor _ _
     ·rfl
   ·rfl
  ·rfl
 unfold VK
 rw[TI zs _ st ha,h1]
 simp only[hall,Qi,h2]
theorem arun_nil{Γ:Cg}{fr:Fr}{st:St}:Vj Γ [] fr st=.ok fr st:=rfl
def ndR(Γ:Cg)(dst:Option Nat)(gd:Option (Nat × Bool))(ms:List Vc)(fr:Fr)(st:St)(op:MOp):RR:=match Vv fr gd with
 | some true=>(match opr Γ fr st op with
  | .val v st'=>Vj Γ ms (Fr.put fr dst v) st'
  | .pan v st'=>.pan fr v st'
  | .stuck=>.stuck)
 | some false=>Vj Γ ms (Fr.put fr dst .undef) st
 | none=>.stuck
theorem VE{Γ:Cg}{d:Option Nat}{op:MOp}{g:Option (Nat × Bool)}{ms:List Vc}{fr:Fr}{st:St}(hd:op.isDefer=false):
  Vj Γ (⟨d,op,g⟩::ms) fr st=match Vv fr g with
   | some true=>(match opr Γ fr st op with
    | .val v st'=>Vj Γ ms (Fr.put fr d v) st'
    | .pan v st'=>.pan fr v st'
    | .stuck=>.stuck)
   | some false=>Vj Γ ms (Fr.put fr d .undef) st
   | none=>.stuck:=by
 conv=>lhs;unfold Vj
 rw[hd]
 rfl
section
variable {Γ:Cg} {dst:Option Nat} {gd:Option (Nat × Bool)} {ms:List Vc} {fr:Fr} {st:St}
theorem nd_mv{x}:Vj Γ (⟨dst,(MOp.mv x),gd⟩::ms) fr st=ndR Γ dst gd ms fr st (MOp.mv x):=VE rfl
theorem nd_pick{a b c}:Vj Γ (⟨dst,(MOp.pick a b c),gd⟩::ms) fr st=ndR Γ dst gd ms fr st (MOp.pick a b c):=VE rfl
theorem nd_alloc{x}:Vj Γ (⟨dst,(MOp.alloc x),gd⟩::ms) fr st=ndR Γ dst gd ms fr st (MOp.alloc x):=VE rfl
theorem nd_box{a x}:Vj Γ (⟨dst,(MOp.box a x),gd⟩::ms) fr st=ndR Γ dst gd ms fr st (MOp.box a x):=VE rfl
theorem nd_build{a b}:Vj Γ (⟨dst,(MOp.build a b),gd⟩::ms) fr st=ndR Γ dst gd ms fr st (MOp.build a b):=VE rfl
theorem nd_bslice{a b c}:Vj Γ (⟨dst,(MOp.bslice a b c),gd⟩::ms) fr st=ndR Γ dst gd ms fr st (MOp.bslice a b c):=VE rfl
theorem nd_load{a b c}:Vj Γ (⟨dst,(MOp.load a b c),gd⟩::ms) fr st=ndR Γ dst gd ms fr st (MOp.load a b c):=VE rfl
theorem nd_store{a b c}:Vj Γ (⟨dst,(MOp.store a b c),gd⟩::ms) fr st=ndR Γ dst gd ms fr st (MOp.store a b c):=VE rfl
theorem nd_nilchk{x}:Vj Γ (⟨dst,(MOp.nilchk x),gd⟩::ms) fr st=ndR Γ dst gd ms fr st (MOp.nilchk x):=VE rfl
theorem nd_bin{a b c d}:Vj Γ (⟨dst,(MOp.bin a b c d),gd⟩::ms) fr st=ndR Γ dst gd ms fr st (MOp.bin a b c d):=VE rfl
theorem nd_un{a b}:Vj Γ (⟨dst,(MOp.un a b),gd⟩::ms) fr st=ndR Γ dst gd ms fr st (MOp.un a b):=VE rfl
theorem nd_faddr{a b}:Vj Γ (⟨dst,(MOp.faddr a b),gd⟩::ms) fr st=ndR Γ dst gd ms fr st (MOp.faddr a b):=VE rfl
theorem nd_iaddr{a b c}:Vj Γ (⟨dst,(MOp.iaddr a b c),gd⟩::ms) fr st=ndR Γ dst gd ms fr st (MOp.iaddr a b c):=VE rfl
theorem nd_len{a b}:Vj Γ (⟨dst,(MOp.len a b),gd⟩::ms) fr st=ndR Γ dst gd ms fr st (MOp.len a b):=VE rfl
theorem nd_call{a b}:Vj Γ (⟨dst,(MOp.call a b),gd⟩::ms) fr st=ndR Γ dst gd ms fr st (MOp.call a b):=VE rfl
theorem nd_eqnil{a b c d e}:Vj Γ (⟨dst,(MOp.eqnil a b c d e),gd⟩::ms) fr st=ndR Γ dst gd ms fr st (MOp.eqnil a b c d e):=VE rfl
theorem nd_extract{a b}:Vj Γ (⟨dst,(MOp.extract a b),gd⟩::ms) fr st=ndR Γ dst gd ms fr st (MOp.extract a b):=VE rfl
theorem nd_field{a b c d}:Vj Γ (⟨dst,(MOp.field a b c d),gd⟩::ms) fr st=ndR Γ dst gd ms fr st (MOp.field a b c d):=VE rfl
theorem nd_append{a b c d e}:Vj Γ (⟨dst,(MOp.append a b c d e),gd⟩::ms) fr st=ndR Γ dst gd ms fr st (MOp.append a b c d e):=VE rfl
theorem nd_conv{a b}:Vj Γ (⟨dst,(MOp.conv a b),gd⟩::ms) fr st=ndR Γ dst gd ms fr st (MOp.conv a b):=VE rfl
theorem nd_mkif{a b}:Vj Γ (⟨dst,(MOp.mkif a b),gd⟩::ms) fr st=ndR Γ dst gd ms fr st (MOp.mkif a b):=VE rfl
end
abbrev amE:=
 And.intro @Xj.{1} <| And.intro @Xz.{1} <| And.intro @ndR.eq_1 <| And.intro @Go.AM.Vh.eq_1 <| And.intro @Go.AM.Vh.eq_2 <| And.intro @Go.AM.Vh.eq_3 <| And.intro @Go.AM.Vh.eq_4 <| And.intro @Go.AM.Vh.eq_5 <| And.intro @Go.AM.Vh.eq_6 <| And.intro @Go.AM.Vh.eq_7 <| And.intro @Go.AM.Vh.eq_8 <| And.intro @Go.AM.Vh.eq_9 <| And.intro @Go.AM.Vh.eq_10 <| And.intro @Go.AM.Vh.eq_11 <| And.intro @Go.AM.Vh.eq_12 <| And.intro @Go.AM.opr.eq_1 <| And.intro @Go.AM.opr.eq_2 <| And.intro @Go.AM.aop.eq_1 <| And.intro @Go.AM.aop.eq_2 <| And.intro @Go.AM.aop.eq_3 <| And.intro @Go.AM.aop.eq_4 <| And.intro @Go.AM.aop.eq_5 <| And.intro @Go.AM.aop.eq_6 <| And.intro @Go.AM.aop.eq_7 <| And.intro @Go.AM.aop.eq_8 <| And.intro @Go.AM.aop.eq_9 <| And.intro @Go.AM.aop.eq_10 <| And.intro @Go.AM.aop.eq_11 <| And.intro @Go.AM.aop.eq_12 <| And.intro @Go.AM.aop.eq_13 <| And.intro @Go.AM.aop.eq_14 <| And.intro @Go.AM.aop.eq_15 <| And.intro @Go.AM.aop.eq_16 <| And.intro @Go.AM.aop.eq_17 <| And.intro @Go.AM.aop.eq_18 <| And.intro @Go.AM.aop.eq_19 <| And.intro @Go.AM.aop.eq_20 <| And.intro @Go.AM.aop.eq_21 <| And.intro @Go.AM.aop.eq_22 <| And.intro @Go.AM.aop.eq_23 <| And.intro @Go.AM.aop.eq_24 <| And.intro @Go.AM.aop.eq_25 <| And.intro @Go.AM.aop.eq_26 <| And.intro @Go.AM.aop.eq_27 <| And.intro @Go.AM.aop.eq_28 <| And.intro @Go.AM.aop.eq_29 <| And.intro @Go.AM.aop.eq_30 <| And.intro @Go.AM.aop.eq_31 <| And.intro @Go.AM.aop.eq_32 <| And.intro @Go.AM.aop.eq_33 <| And.intro @Go.AM.aop.eq_34 <| And.intro @Go.AM.aop.eq_35 <| And.intro @Go.AM.aop.eq_36 <| And.intro @Go.AM.aop.eq_37 <| And.intro @Go.AM.aop.eq_38 <| And.intro @Go.AM.aop.eq_39 <| And.intro @Go.AM.aop.eq_40 <| And.intro @Go.AM.aop.eq_41 <| And.intro @Go.AM.aop.eq_42 <| And.intro @Go.AM.aop.eq_43 <| And.intro @Go.AM.aop.eq_44 <| And.intro @Go.AM.aop.eq_45 <| And.intro @Go.AM.aop.eq_46 <| And.intro @Go.AM.aop.eq_47 <| And.intro @Go.AM.aop.eq_48 <| And.intro @Go.AM.aop.eq_49 <| And.intro @Go.AM.aop.eq_50 <| And.intro @Go.AM.aop.eq_51 <| And.intro @Go.AM.aop.eq_52 <| And.intro @Go.AM.aop.eq_53 <| And.intro @Go.AM.aop.eq_54 <| And.intro @Go.AM.ev.eq_1 <| And.intro @Go.AM.ev.eq_2 <| And.intro @Go.AM.Vo.eq_1 <| And.intro @Go.AM.Vo.eq_2 <| And.intro @Go.AM.Fr.put.eq_1 <| And.intro @Go.AM.Fr.put.eq_2 <| And.intro @Go.AM.Vv.eq_1 <| And.intro @Go.AM.Vv.eq_2 <| And.intro @Go.AM.OpR.of.eq_1 <| And.intro @Go.AM.OpR.of.eq_2 <| And.intro @Go.AM.OpR.ofSt.eq_1 <| And.intro @Go.AM.OpR.ofSt.eq_2 <| And.intro @Go.AM.YJ.eq_1 <| And.intro @Go.AM.YJ.eq_2 <| And.intro @Go.AM.YJ.eq_3 <| And.intro @Go.AM.FR.toOp.eq_1 <| And.intro @Go.AM.FR.toOp.eq_2 <| And.intro @Go.AM.FR.toOp.eq_3 <| And.intro @Go.AM.WY.eq_1 <| And.intro @Go.AM.VO.eq_1 <| And.intro @Go.AM.VO.eq_2 <| And.intro @Go.AM.VO.eq_3 <| And.intro @Go.AM.Vg.eq_1 <| And.intro @Go.AM.Vu.eq_1 <| And.intro @Go.AM.Vu.eq_2 <| And.intro @Go.AM.V0.eq_1 <| And.intro @Go.AM.V0.eq_2 <| And.intro @Go.AM.Fr.nil.eq_1 <| And.intro @Go.AM.AV.cells.eq_1 <| And.intro @Go.AM.AV.cells.eq_2 <| And.intro @Go.AM.WT.eq_1 <| And.intro @dlin.eq_1 <| And.intro @dlin.eq_2 <| And.intro @okLin.eq_1 <| And.intro @okLin.eq_2 <| And.intro @okLin.eq_3 <| And.intro @okLin.eq_4 <| And.intro @Go.AM.frzX.eq_1 <| And.intro @arun_nil <| And.intro @nd_mv <| And.intro @nd_pick <| And.intro @nd_alloc <| And.intro @nd_box <| And.intro @nd_build <| And.intro @nd_bslice <| And.intro @nd_load <| And.intro @nd_store <| And.intro @nd_nilchk <| And.intro @nd_bin <| And.intro @nd_un <| And.intro @nd_faddr <| And.intro @nd_iaddr <| And.intro @nd_len <| And.intro @nd_call <| And.intro @nd_eqnil <| And.intro @nd_extract <| And.intro @nd_field <| And.intro @nd_append <| And.intro @nd_conv <| And.intro @nd_mkif <| And.intro @Fr.get_set <| And.intro @Fr.set_ds <| And.intro @Q9.{0} <| And.intro @Qg.{0,0} <| And.intro @Ql.{0,0} <| And.intro @Qi.{1} <| And.intro @Qq.{1} <| And.intro @Q4.{0,0} <| And.intro @QZ.{0,0} <| And.intro @QR.{0} <| And.intro @QG.{0} <| @QP.{0}
theorem walk_map{E:Type}{cl:E->List AV}{c':List AV->List AV->Int}{c:E->E->Int}:∀(xs ys:List E),(∀ a∈xs,∀ b∈ys,c' (cl a) (cl b)=c a b)->Yi c' (xs.map cl) (ys.map cl)=Yi c xs ys
 | [],_,_=>by simp[Yi]
 | _::_,[],_=>by simp[Yi]
 | x::xs,y::ys,h=>by
  simp only[Q4,Yi]
  rw[h x (by simp) y (by simp),walk_map xs ys fun a ha b hb=>h a (by simp[ha]) b (by simp[hb])]
def Uu(n:Nat)(Y:Vi)(g:Nat)(x y:List AV)(v:Int):Prop:=∀ st,∃ st',R n Y g [.agg x,.agg y] st=.ret (.int .i64 v) st'/\Vd st st'
theorem Uu.one{n:Nat}{Y:Vi}{g:Nat}{x y:List AV}{v u:Int}(h:Uu n Y g x y v)(k:Uu n Y g x y u):v=u:=by
 obtain⟨s1,h1,_⟩:=h ⟨0,.nil,.nil⟩
 obtain⟨s2,h2,_⟩:=k ⟨0,.nil,.nil⟩
 rw[h1] at h2
 injection h2 with h2 _
 injection h2
theorem cf_runE{E:Type}{n:Nat}{Y:Vi}{zs:List AV}{nl1 ex1 nl2 ex2:Bool}{cl:E->List AV}{xs ys:List E}{c:E->E->Int}{g f:Nat}(hf:tbl f=some (cfM zs))(hz:zs.length=3)(h3:∀ x∈xs,(cl x).length=3/\(cl x).all AV.one=true)
  (h3':∀ y∈ys,(cl y).length=3/\(cl y).all AV.one=true) (hn1:nl1=true->xs=[]) (hn2:nl2=true->ys=[]) (hb:xs.length<=9223372036854775807)
  (hc:∀ x∈xs,∀ y∈ys,Uu n Y g (cl x) (cl y) (c x y)) (hn:xs.length < n) (st:St):
  ∃ st',R (n+1) Y f [V7 nl1 ex1 (xs.map cl),V7 nl2 ex2 (ys.map cl),.func (.func g) [] []] st=.ret (.int .i64 (YS c xs ys)) st'/\Vd st st':=by
 classical
 let c':List AV->List AV->Int:=fun x y=>if h:∃ v,Uu n Y g x y v then Classical.choose h else 0
 have hc':∀ a∈xs,∀ b∈ys,c' (cl a) (cl b)=c a b:=fun a ha b hb=>by
  have h:∃ v,Uu n Y g (cl a) (cl b) v:=⟨_,hc a ha b hb⟩
  show (if h:∃ v,Uu n Y g (cl a) (cl b) v then Classical.choose h else 0)=_
  rw[dif_pos h]
  exact(Classical.choose_spec h).one (hc a ha b hb)
 obtain⟨st',h1,h2⟩:=cf_run (n:=n) (Y:=Y) (zs:=zs) (nl1:=nl1) (ex1:=ex1) (nl2:=nl2) (ex2:=ex2) (xs:=xs.map cl) (ys:=ys.map cl) (c:=c') (g:=g) hf hz
  (fun x hx=>by obtain⟨a,ha,rfl⟩:=Q6.1 hx;exact h3 a ha) (fun x hx=>by obtain⟨a,ha,rfl⟩:=Q6.1 hx;exact h3' a ha)
  (fun h=>by rw[hn1 h];rfl) (fun h=>by rw[hn2 h];rfl) (by simpa using hb)
  (fun x hx y hy=>by
   obtain⟨a,ha,rfl⟩:=Q6.1 hx
   obtain⟨b,hb,rfl⟩:=Q6.1 hy
   rw[hc' a ha b hb]
   exact hc a ha b hb) (by simpa using hn) st
 refine⟨st',?_,h2⟩
 rw[h1]
 congr 2
 unfold YS
 rw[walk_map xs ys hc']
 simp
inductive Tm where
 | mk (k n:Int) (nl ex:Bool) (l:List Tm)
mutual
def Tm.cells:Tm->List AV
 | .mk k n nl ex l=>[.int .i64 k,.int .i64 n,V7 nl ex (Tm.cellsL l)]
def Tm.cellsL:List Tm->List (List AV)
 | []=>[]
 | t::l=>Tm.cells t::Tm.cellsL l
end
theorem Tm.cellsL_eq:∀ l,Tm.cellsL l=l.map Tm.cells
 | []=>by simp only[Tm.cellsL,QZ]
 | t::l=>by simp only[Tm.cellsL,Q4,Tm.cellsL_eq l]
mutual
def Tm.ok:Tm->Prop
 | .mk _ _ nl _ l=>(nl=true->l=[])/\l.length<=9223372036854775807/\Tm.okL l
def Tm.okL:List Tm->Prop
 | []=>True
 | t::l=>t.ok/\Tm.okL l
end
theorem Tm.okL_mem:∀{l:List Tm},Tm.okL l->∀ t∈l,t.ok
 | t::l,h,x,hx=>by
  simp only[Tm.okL] at h
  rcases Qx.1 hx with rfl | hx
  ·exact h.1
  ·exact Tm.okL_mem h.2 x hx
mutual
def Tm.fz:Tm->Nat
 | .mk _ _ _ _ l=>12+l.length+Tm.fzL l
def Tm.fzL:List Tm->Nat
 | []=>0
 | t::l=>t.fz+Tm.fzL l
end
theorem Tm.fzL_mem:∀{l:List Tm} {t:Tm},t∈l->t.fz<=Tm.fzL l
 | x::l,t,h=>by
  simp only[Tm.fzL]
  rcases Qx.1 h with rfl | h
  ·omega
  ·have:=Tm.fzL_mem h;omega
mutual
def cmpT:Tm->Tm->Int
 | .mk k n _ _ l,.mk k' n' _ _ l'=>if orI (VS k k') (VS n n') (VS (.ofNat l.length) (.ofNat l'.length))=0 then Wr l l' else orI (VS k k') (VS n n') (VS (.ofNat l.length) (.ofNat l'.length))
def Wr:List Tm->List Tm->Int
 | [],[]=>.ofNat 0
 | [],_::_=>.negSucc 0
 | _::_,[]=>.ofNat 1
 | x::xs,y::ys=>if cmpT x y=0 then Wr xs ys else cmpT x y
end
theorem UK:∀(xs ys:List Tm),YS cmpT xs ys=Wr xs ys
 | [],[]=>by simp[YS,Yi,Wr]
 | [],_::_=>by simp[YS,Yi,Wr]
 | _::_,[]=>by simp[YS,Yi,Wr]
 | x::xs,y::ys=>by
  have ih:=UK xs ys
  unfold YS at ih ⊢
  simp only[Yi,Wr]
  by_cases h:cmpT x y=0
  ·rw[Qm h,Qm h,<-ih]
   simp
  ·rw[Qe h,Qe h]
theorem Tm.cells3(t:Tm):t.cells.length=3/\t.cells.all AV.one=true:=by
 cases t with
 | mk k n nl ex l=>
  simp only[Tm.cells]
  refine⟨rfl,?_⟩
  cases nl<;>rfl
theorem Ri{n:Nat}(hn:2<=n)(Y:Vi)(k:IntKind)(x y:Int)(st:St):R n Y 79 [.int k x,.int k y] st=.ret (.int .i64 (VS x y)) st:=by
 obtain⟨m,rfl⟩:∃ m,n=m+2:=⟨n - 2,by omega⟩
 exact cmpI_run m Y k x y st
theorem or_at{n:Nat}(hn:5<=n)(Y:Vi)(a b c:Int)(st:St):R n Y 101 [.lst 3 [.int .i64 a,.int .i64 b,.int .i64 c] true] st=.ret (.int .i64 (orI a b c)) st:=by
 obtain⟨m,rfl⟩:∃ m,n=m+5:=⟨n - 5,by omega⟩
 exact or_run m Y a b c st
noncomputable def d39:List (Vc × Nat):=[(ZA 6 0 2,0),(ZL 7 6,1),(ZA 8 0 3,0),(ZL 9 8,4),(ZX 10 79 [(.t 7),(.t 9)],15),(ZA 11 1 2,0),(ZL 12 11,32),(ZA 13 1 3,0),(ZL 14 13,128),(ZX 15 79 [(.t 12),(.t 14)],511),(ZA 16 2 2,0),(ZL 17 16,1024),(ZN 18 17,3072),(ZA 19 2 3,0),(ZL 20 19,8192),(ZN 21 20,24576),(ZX 22 79 [(.t 18),(.t 21)],65535),(ZO 23 (.bslice 3 [Z0,Z0,Z0] [(0,1,(.t 10)),(1,1,(.t 15)),(2,1,(.t 22))]),131071),(ZX 24 101 [(.t 23)],262143),(ZV 5 24,524287)]
theorem sigCompare(a:Tm):∀(b:Tm) (n:Nat) (Y:Vi),a.ok->b.ok->a.fz<=n->Uu n Y 103 a.cells b.cells (cmpT a b):=by
 induction hs:a.fz using Nat.strongRecOn generalizing a with
 | _ s ih=>
 intro b n Y ha hb hn st
 cases a with
 | mk k1 n1 nl1 ex1 l1=>
 cases b with
 | mk k2 n2 nl2 ex2 l2=>
 simp only[Tm.ok] at ha hb
 simp only[Tm.fz] at hs
 obtain⟨m,rfl⟩:∃ m,n=m+2:=⟨n - 2,by omega⟩
 suffices h:∃ st',R (m+2) Y 103 [.agg (Tm.mk k1 n1 nl1 ex1 l1).cells,.agg (Tm.mk k2 n2 nl2 ex2 l2).cells] st=.ret (.int .i64 (cmpT (.mk k1 n1 nl1 ex1 l1) (.mk k2 n2 nl2 ex2 l2))) st'/\Vd st st' from h
 unfold R
 rw[Js t103]
 unfold WK
 have hle:Nat.ble [AV.agg (Tm.mk k1 n1 nl1 ex1 l1).cells,AV.agg (Tm.mk k2 n2 nl2 ex2 l2).cells].length m103.N=true:=rfl
 rw[hle]
 have c1:∀ st,((gT (m+1)).cg Y).fn 79 [.int .i64 k1,.int .i64 k2] st=.ret (.int .i64 (VS k1 k2)) st:=fun st=>Ri (by omega) Y .i64 k1 k2 st
 have c2:∀ st,((gT (m+1)).cg Y).fn 79 [.int .i64 n1,.int .i64 n2] st=.ret (.int .i64 (VS n1 n2)) st:=fun st=>Ri (by omega) Y .i64 n1 n2 st
 have c3:∀ st,((gT (m+1)).cg Y).fn 79 [ZI l1.length,ZI l2.length] st=.ret (.int .i64 (VS (.ofNat l1.length) (.ofNat l2.length))) st:=fun st=>Ri (by omega) Y .i64 _ _ st
 have c4:∀ x y z st,((gT (m+1)).cg Y).fn 101 [.lst 3 [.int .i64 x,.int .i64 y,.int .i64 z] true] st=.ret (.int .i64 (orI x y z)) st:=fun x y z st=>or_at (by omega) Y x y z st
 have s1:∀ st,(bif VD 0 (V7 nl1 ex1 (Tm.cellsL l1)) then Wm st (V7 nl1 ex1 (Tm.cellsL l1)) else none)=some (ZI l1.length):=fun st=>by
  have:=len_sl nl1 ex1 (Tm.cellsL l1) (fun h=>by rw[ha.1 h];rfl) st
  rw[this,Tm.cellsL_eq];simp
 have s2:∀ st,(bif VD 0 (V7 nl2 ex2 (Tm.cellsL l2)) then Wm st (V7 nl2 ex2 (Tm.cellsL l2)) else none)=some (ZI l2.length):=fun st=>by
  have:=len_sl nl2 ex2 (Tm.cellsL l2) (fun h=>by rw[hb.1 h];rfl) st
  rw[this,Tm.cellsL_eq];simp
 obtain⟨st',hcf,hk⟩:=cf_runE (n:=m) (Y:=Y) (nl1:=nl1) (ex1:=ex1) (nl2:=nl2) (ex2:=ex2) (cl:=Tm.cells) (xs:=l1) (ys:=l2) (c:=cmpT) (g:=103) (f:=152) (zs:=[Z0,Z0,.nilsl]) t152 rfl
  (fun x _=>x.cells3) (fun y _=>y.cells3) ha.1 hb.1 ha.2.1
  (fun x hx y hy=>ih x.fz (by have:=Tm.fzL_mem hx;omega) x rfl y m Y (Tm.okL_mem ha.2.2 x hx) (Tm.okL_mem hb.2.2 y hy) (by have:=Tm.fzL_mem hx;omega)) (by omega) st
 have hcf':((gT (m+1)).cg Y).fn 152 [V7 nl1 ex1 (Tm.cellsL l1),V7 nl2 ex2 (Tm.cellsL l2),.func (.func 103) [] []] st=.ret (.int .i64 (Wr l1 l2)) st':=by
  rw[Tm.cellsL_eq,Tm.cellsL_eq,<-UK];exact hcf
 have f0:∀(cs:List AV) (o:Nat),WG o (.fptr cs 0)=some (.fptr cs (0+o)):=fun _ _=>rfl
 have d0:∀(x y z:AV) st,Vf false 1 st (.fptr [x,y,z] 0)=some x:=fun _ _ _ _=>rfl
 have d1:∀(x y z:AV) st,Vf false 1 st (.fptr [x,y,z] 1)=some y:=fun _ _ _ _=>rfl
 have d2:∀(x y z:AV) st,Vf false 1 st (.fptr [x,y,z] 2)=some z:=fun _ _ _ _=>rfl
 have bs:∀ x y z:Int,VN [ZI 0,ZI 0,ZI 0] [(0,1,.int .i64 x),(1,1,.int .i64 y),(2,1,.int .i64 z)]=some [.int .i64 x,.int .i64 y,.int .i64 z]:=fun x y z=>rfl
 have hd:∀ chk,chkLoads d39 chk=true->∃ fr',VK ((gT (m+1)).cg Y) d39 chk ((((Fr.nil.set 0 (some (.agg (Tm.mk k1 n1 nl1 ex1 l1).cells))).set 1 (some (.agg (Tm.mk k2 n2 nl2 ex2 l2).cells))).set 2 (some (.fptr (Tm.mk k1 n1 nl1 ex1 l1).cells 0))).set 3 (some (.fptr (Tm.mk k2 n2 nl2 ex2 l2).cells 0)) |>.set 4 (some Z0)) st=.ok fr' st
   /\ fr'.get 5=some (.int .i64 (orI (VS k1 k2) (VS n1 n2) (VS (.ofNat l1.length) (.ofNat l2.length))))/\fr'.get 2=some (.fptr (Tm.mk k1 n1 nl1 ex1 l1).cells 0)/\fr'.get 3=some (.fptr (Tm.mk k2 n2 nl2 ex2 l2).cells 0)/\fr'.ds=[]:=by
  intro chk hc
  refine⟨?fr,?h1,?h2,?h3,?h4,?h5⟩
  case h1=>
   refine adraw_lin hc rfl ?_
   simp only[amE,rQ,rA,dlin,d39,okLin,frzX,Tm.cells,f0,d0,d1,d2,c1,c2,c3,c4,s1,s2,bs,isSl_sl]
   rfl
  case h2=>simp only[Fr.get_set,rQ,↓reduceIte]
  case h3=>simp only[Fr.get_set,rQ,↓reduceIte,Tm.cells]
  case h4=>simp only[Fr.get_set,rQ,↓reduceIte,Tm.cells]
  case h5=>rfl
 obtain⟨fr5,hdr,g5,g2,g3,gds⟩:=hd [(6,some 4),(6,some 9),(8,some 4),(8,some 9),(11,some 4),(11,some 9),(11,some 16),(12,some 4),(12,some 9),(12,some 16),(14,some 4),(14,some 9),(14,some 16),(15,some 4),(15,some 9),(15,some 16)] rfl
 unfold d39 at hdr
 simp only[Fr.nil] at hdr
 simp only[Tm.cells] at hdr g2 g3
 unfold cmpT
 by_cases h0:orI (VS k1 k2) (VS n1 n2) (VS (.ofNat l1.length) (.ofNat l2.length))=0
 ·have hne:Vr false .neq (.int .i64 (orI (VS k1 k2) (VS n1 n2) (VS (.ofNat l1.length) (.ofNat l2.length)))) Z0=some (.bool false):=by rw[Yk,h0];rfl
  rw[Qm h0]
  refine⟨st',?_,hk⟩
  simp only[amE,rQ,rA,m103,Tm.cells,hdr,f0,d0,d1,d2,g5,g2,g3,hne,hcf',gds]
 ·have hne:Vr false .neq (.int .i64 (orI (VS k1 k2) (VS n1 n2) (VS (.ofNat l1.length) (.ofNat l2.length)))) Z0=some (.bool true):=by
   rw[Yk]
   have:(orI (VS k1 k2) (VS n1 n2) (VS (.ofNat l1.length) (.ofNat l2.length)) != Int.ofNat 0)=true:=by simpa using h0
   rw[this]
  rw[Qe h0]
  refine⟨st,?_,Vd.refl st⟩
  simp only[amE,rQ,rA,m103,Tm.cells,hdr,g5,hne,gds]
abbrev amB:=And.intro @Q3 <| And.intro @Q8 <| And.intro @QU <| And.intro @QL <| And.intro @Qy <| And.intro @QK <| And.intro @XS <| @Bool.or_false
open Nat renaming reduceEqDiff -> rQ, reduceAdd -> rA
theorem lists_run{E:Type}{n:Nat}{Y:Vi}{zs:List AV}{nl1 ex1 nl2 ex2:Bool}{cl:E->List AV}{xs ys:List E}{c:E->E->Int}{g f F:Nat}(hF:(F=223/\f=152)\/(F=224/\f=270))(hf:tbl f=some (cfM zs))(hz:zs.length=3)(h3:∀ x∈xs,(cl x).length=3/\(cl x).all AV.one=true)
  (h3':∀ y∈ys,(cl y).length=3/\(cl y).all AV.one=true) (hn1:nl1=true->xs=[]) (hn2:nl2=true->ys=[]) (hb:xs.length<=9223372036854775807)
  (hc:∀ x∈xs,∀ y∈ys,Uu n Y g (cl x) (cl y) (c x y)) (hn:xs.length < n) (st:St):
  ∃ st',R (n+2) Y F [V7 nl1 ex1 (xs.map cl),V7 nl2 ex2 (ys.map cl),.func (.func g) [] []] st=.ret (.int .i64 (YS c xs ys)) st'/\Vd st st':=by
 obtain⟨st',h,hk⟩:=cf_runE (ex1:=ex1) (ex2:=ex2) hf hz h3 h3' hn1 hn2 hb hc hn st
 refine⟨st',?_,hk⟩
 have h':((gT (n+1)).cg Y).fn f [V7 nl1 ex1 (xs.map cl),V7 nl2 ex2 (ys.map cl),.func (.func g) [] []] st=.ret (.int .i64 (YS c xs ys)) st':=h
 unfold R
 rcases hF with⟨rfl,rfl⟩|⟨rfl,rfl⟩
 ·rw[Js t223]
  unfold WK
  have hle:Nat.ble [V7 nl1 ex1 (xs.map cl),V7 nl2 ex2 (ys.map cl),.func (.func g) [] []].length m223.N=true:=rfl
  rw[hle]
  simp only[amE,rQ,rA,m223,h']
 ·rw[Js t224]
  unfold WK
  have hle:Nat.ble [V7 nl1 ex1 (xs.map cl),V7 nl2 ex2 (ys.map cl),.func (.func g) [] []].length m224.N=true:=rfl
  rw[hle]
  simp only[amE,rQ,rA,m224,h']
inductive Dv where
 | mk (r:Int) (nv ev:Bool) (vs:List Tm) (nl ex:Bool) (l:List Dv)
mutual
def Dv.cells:Dv->List AV
 | .mk r nv ev vs nl ex l=>[.int .i64 r,V7 nv ev (Tm.cellsL vs),V7 nl ex (Dv.cellsL l)]
def Dv.cellsL:List Dv->List (List AV)
 | []=>[]
 | t::l=>Dv.cells t::Dv.cellsL l
end
theorem Dv.cellsL_eq:∀ l,Dv.cellsL l=l.map Dv.cells
 | []=>by simp only[Dv.cellsL,QZ]
 | t::l=>by simp only[Dv.cellsL,Q4,Dv.cellsL_eq l]
mutual
def Dv.ok:Dv->Prop
 | .mk _ nv _ vs nl _ l=>(nv=true->vs=[])/\vs.length<=9223372036854775807/\Tm.okL vs/\(nl=true->l=[])/\l.length<=9223372036854775807/\Dv.okL l
def Dv.okL:List Dv->Prop
 | []=>True
 | t::l=>t.ok/\Dv.okL l
end
theorem Dv.okL_mem:∀{l:List Dv},Dv.okL l->∀ t∈l,t.ok
 | t::l,h,x,hx=>by
  simp only[Dv.okL] at h
  rcases Qx.1 hx with rfl | hx
  ·exact h.1
  ·exact Dv.okL_mem h.2 x hx
mutual
def Dv.fz:Dv->Nat
 | .mk _ _ _ vs _ _ l=>20+vs.length+Tm.fzL vs+l.length+Dv.fzL l
def Dv.fzL:List Dv->Nat
 | []=>0
 | t::l=>t.fz+Dv.fzL l
end
theorem Dv.fzL_mem:∀{l:List Dv} {t:Dv},t∈l->t.fz<=Dv.fzL l
 | x::l,t,h=>by
  simp only[Dv.fzL]
  rcases Qx.1 h with rfl | h
  ·omega
  ·have:=Dv.fzL_mem h;omega
mutual
def Ky:Dv->Dv->Int
 | .mk r _ _ vs _ _ l,.mk r' _ _ vs' _ _ l'=>orI (VS r r') (Wr vs vs') (cmpDs l l')
def cmpDs:List Dv->List Dv->Int
 | [],[]=>.ofNat 0
 | [],_::_=>.negSucc 0
 | _::_,[]=>.ofNat 1
 | x::xs,y::ys=>if Ky x y=0 then cmpDs xs ys else Ky x y
end
theorem cmpL_cmpDs:∀(xs ys:List Dv),YS Ky xs ys=cmpDs xs ys
 | [],[]=>by simp[YS,Yi,cmpDs]
 | [],_::_=>by simp[YS,Yi,cmpDs]
 | _::_,[]=>by simp[YS,Yi,cmpDs]
 | x::xs,y::ys=>by
  have ih:=cmpL_cmpDs xs ys
  unfold YS at ih ⊢
  simp only[Yi,cmpDs]
  by_cases h:Ky x y=0
  ·rw[Qm h,Qm h,<-ih]
   simp
  ·rw[Qe h,Qe h]
theorem Dv.cells3(t:Dv):t.cells.length=3/\t.cells.all AV.one=true:=by
 cases t with
 | mk r nv ev vs nl ex l=>
  simp only[Dv.cells]
  refine⟨rfl,?_⟩
  cases nv<;>cases nl<;>rfl
noncomputable def d9:List (Vc × Nat):=[(ZA 5 0 2,0),(ZL 6 5,1),(ZA 7 0 3,0),(ZL 8 7,4),(ZX 9 79 [(.t 6),(.t 8)],15),(ZA 10 1 2,0),(ZL 11 10,32),(ZA 12 1 3,0),(ZL 13 12,128),(ZO 14 (.call (.c (.func (.func 223) [] [])) [(.t 11),(.t 13),(.c (.func (.func 103) [] []))]),511),(ZA 15 2 2,0),(ZL 16 15,1024),(ZA 17 2 3,0),(ZL 18 17,4096),(ZO 19 (.call (.c (.func (.func 224) [] [])) [(.t 16),(.t 18),(.c (.func (.func 163) [] []))]),16383),(ZO 20 (.bslice 3 [Z0,Z0,Z0] [(0,1,(.t 9)),(1,1,(.t 14)),(2,1,(.t 19))]),32767),(ZX 21 101 [(.t 20)],65535),(ZV 4 21,131071)]
theorem derivCompare(a:Dv):∀(b:Dv) (n:Nat) (Y:Vi),a.ok->b.ok->a.fz<=n->Uu n Y 163 a.cells b.cells (Ky a b):=by
 induction hs:a.fz using Nat.strongRecOn generalizing a with
 | _ s ih=>
 intro b n Y ha hb hn st
 cases a with
 | mk r1 nv1 ev1 vs1 nl1 ex1 l1=>
 cases b with
 | mk r2 nv2 ev2 vs2 nl2 ex2 l2=>
 simp only[Dv.ok] at ha hb
 simp only[Dv.fz] at hs
 obtain⟨m,rfl⟩:∃ m,n=m+3:=⟨n - 3,by omega⟩
 suffices h:∃ st',R (m+3) Y 163 [.agg (Dv.mk r1 nv1 ev1 vs1 nl1 ex1 l1).cells,.agg (Dv.mk r2 nv2 ev2 vs2 nl2 ex2 l2).cells] st=.ret (.int .i64 (Ky (.mk r1 nv1 ev1 vs1 nl1 ex1 l1) (.mk r2 nv2 ev2 vs2 nl2 ex2 l2))) st'/\Vd st st' from h
 unfold R
 rw[Js t163]
 unfold WK
 have hle:Nat.ble [AV.agg (Dv.mk r1 nv1 ev1 vs1 nl1 ex1 l1).cells,AV.agg (Dv.mk r2 nv2 ev2 vs2 nl2 ex2 l2).cells].length m163.N=true:=rfl
 rw[hle]
 have c1:∀ st,((gT (m+2)).cg Y).fn 79 [.int .i64 r1,.int .i64 r2] st=.ret (.int .i64 (VS r1 r2)) st:=fun st=>Ri (by omega) Y .i64 r1 r2 st
 have c4:∀ x y z st,((gT (m+2)).cg Y).fn 101 [.lst 3 [.int .i64 x,.int .i64 y,.int .i64 z] true] st=.ret (.int .i64 (orI x y z)) st:=fun x y z st=>or_at (by omega) Y x y z st
 obtain⟨st1,e1,k1⟩:=lists_run (n:=m) (Y:=Y) (nl1:=nv1) (ex1:=ev1) (nl2:=nv2) (ex2:=ev2) (cl:=Tm.cells) (xs:=vs1) (ys:=vs2) (c:=cmpT) (g:=103) (f:=152) (F:=223) (.inl ⟨rfl,rfl⟩) (zs:=[Z0,Z0,.nilsl]) t152 rfl
  (fun x _=>x.cells3) (fun y _=>y.cells3) ha.1 hb.1 ha.2.1
  (fun x hx y hy=>sigCompare x y m Y (Tm.okL_mem ha.2.2.1 x hx) (Tm.okL_mem hb.2.2.1 y hy) (by have:=Tm.fzL_mem hx;omega)) (by omega) st
 have c2:((gT (m+2)).cg Y).fn 223 [V7 nv1 ev1 (Tm.cellsL vs1),V7 nv2 ev2 (Tm.cellsL vs2),.func (.func 103) [] []] st=.ret (.int .i64 (Wr vs1 vs2)) st1:=by
  rw[Tm.cellsL_eq,Tm.cellsL_eq,<-UK];exact e1
 obtain⟨st2,e2,k2⟩:=lists_run (n:=m) (Y:=Y) (nl1:=nl1) (ex1:=ex1) (nl2:=nl2) (ex2:=ex2) (cl:=Dv.cells) (xs:=l1) (ys:=l2) (c:=Ky) (g:=163) (f:=270) (F:=224) (.inr ⟨rfl,rfl⟩) (zs:=[Z0,.nilsl,.nilsl]) t270 rfl
  (fun x _=>x.cells3) (fun y _=>y.cells3) ha.2.2.2.1 hb.2.2.2.1 ha.2.2.2.2.1
  (fun x hx y hy=>ih x.fz (by have:=Dv.fzL_mem hx;omega) x rfl y m Y (Dv.okL_mem ha.2.2.2.2.2 x hx) (Dv.okL_mem hb.2.2.2.2.2 y hy) (by have:=Dv.fzL_mem hx;omega)) (by omega) st1
 have c3:((gT (m+2)).cg Y).fn 224 [V7 nl1 ex1 (Dv.cellsL l1),V7 nl2 ex2 (Dv.cellsL l2),.func (.func 163) [] []] st1=.ret (.int .i64 (cmpDs l1 l2)) st2:=by
  rw[Dv.cellsL_eq,Dv.cellsL_eq,<-cmpL_cmpDs];exact e2
 have f0:∀(cs:List AV) (o:Nat),WG o (.fptr cs 0)=some (.fptr cs (0+o)):=fun _ _=>rfl
 have d0:∀(x y z:AV) st,Vf false 1 st (.fptr [x,y,z] 0)=some x:=fun _ _ _ _=>rfl
 have d1:∀(x y z:AV) st,Vf false 1 st (.fptr [x,y,z] 1)=some y:=fun _ _ _ _=>rfl
 have d2:∀(x y z:AV) st,Vf false 1 st (.fptr [x,y,z] 2)=some z:=fun _ _ _ _=>rfl
 have bs:∀ x y z:Int,VN [ZI 0,ZI 0,ZI 0] [(0,1,.int .i64 x),(1,1,.int .i64 y),(2,1,.int .i64 z)]=some [.int .i64 x,.int .i64 y,.int .i64 z]:=fun x y z=>rfl
 have hd:∀ chk,chkLoads d9 chk=true->∃ fr',VK ((gT (m+2)).cg Y) d9 chk ((((Fr.nil.set 0 (some (.agg (Dv.mk r1 nv1 ev1 vs1 nl1 ex1 l1).cells))).set 1 (some (.agg (Dv.mk r2 nv2 ev2 vs2 nl2 ex2 l2).cells))).set 2 (some (.fptr (Dv.mk r1 nv1 ev1 vs1 nl1 ex1 l1).cells 0))).set 3 (some (.fptr (Dv.mk r2 nv2 ev2 vs2 nl2 ex2 l2).cells 0)) |>.set 4 (some Z0)) st=.ok fr' st2
   /\ fr'.get 4=some (.int .i64 (orI (VS r1 r2) (Wr vs1 vs2) (cmpDs l1 l2)))/\fr'.ds=[]:=by
  intro chk hc
  refine⟨?fr,?h1,?h2,?h5⟩
  case h1=>
   refine adraw_lin hc rfl ?_
   simp only[amE,rQ,rA,d9,Dv.cells,f0,d0,d1,d2,c1,c2,c3,c4,bs]
   rfl
  case h2=>simp only[Fr.get_set,↓reduceIte]
  case h5=>rfl
 obtain⟨fr5,hdr,g4,gds⟩:=hd [(6,some 4),(6,some 9),(8,some 4),(8,some 9),(11,some 4),(11,some 9),(11,some 14),(13,some 4),(13,some 9),(13,some 14)] rfl
 unfold d9 at hdr
 simp only[Fr.nil] at hdr
 simp only[Dv.cells] at hdr
 unfold Ky
 refine⟨st2,?_,k1.trans k2⟩
 simp only[amE,rQ,rA,m163,Dv.cells,hdr,g4,gds]
theorem derivSame(a b:Dv)(n:Nat)(Y:Vi)(ha:a.ok)(hb:b.ok)(hn:a.fz < n)(st:St):
  ∃ st',R n Y 115 [.agg a.cells,.agg b.cells] st=.ret (.bool (Ky a b==0)) st'/\Vd st st':=by
 obtain⟨m,rfl⟩:∃ m,n=m+1:=⟨n - 1,by omega⟩
 obtain⟨st',h,hk⟩:=derivCompare a b m Y ha hb (by omega) st
 refine⟨st',?_,hk⟩
 have h':((gT m).cg Y).fn 163 [.agg a.cells,.agg b.cells] st=.ret (.int .i64 (Ky a b)) st':=h
 have eq:Vr false .eql (.int .i64 (Ky a b)) Z0=some (.bool (Ky a b==0)):=rfl
 obtain⟨x,y,z,hx⟩:∃ x y z,a.cells=[x,y,z]:=by cases a;simp only[Dv.cells];exact⟨_,_,_,rfl⟩
 obtain⟨x',y',z',hx'⟩:∃ x y z,b.cells=[x,y,z]:=by cases b;simp only[Dv.cells];exact⟨_,_,_,rfl⟩
 have ld:∀(x y z:AV) st,Vf true 3 st (.fptr [x,y,z] 0)=some (.agg [x,y,z]):=fun _ _ _ _=>rfl
 rw[hx,hx'] at h' ⊢
 unfold R
 rw[Js t115]
 unfold WK
 have hle:Nat.ble [AV.agg [x,y,z],AV.agg [x',y',z']].length m115.N=true:=rfl
 rw[hle]
 simp only[amE,rQ,rA,m115,ld,h',eq]
open Nat renaming reduceEqDiff -> rQ, reduceAdd -> rA
def lb(c i n i2:Nat)(B:Vn):Vn:=.seq (.region [⟨(some c),.bin false .lss (.t i) (.t n),none⟩]) (.seq (.cond (.t c) .skip (.exit 0)) (.seq (.block 1 B) (.region [⟨(some i2),.bin false .add (.t i) (ZC 1),none⟩,⟨(some i),.mv (.t i2),none⟩])))
def Kp(l:List Nat)(fr fr':Fr):Prop:=fr'.ds=fr.ds/\∀ k∈l,fr'.get k=fr.get k
theorem Kp.refl{l:List Nat}{fr:Fr}:Kp l fr fr:=⟨rfl,fun _ _=>rfl⟩
theorem Kp.set{l:List Nat}{fr fr':Fr}{s:Nat}{v:Option AV}(hs:s∉l)(h:Kp l fr fr'):Kp l fr (fr'.set s v):=
 ⟨h.1,fun k hk=>by rw[Fr.get_set,Qe (fun e:k=s=>hs (e ▸ hk))];exact h.2 k hk⟩
theorem Kp.trans{l:List Nat}{a b c:Fr}(h:Kp l a b)(k:Kp l b c):Kp l a c:=⟨k.1.trans h.1,fun x hx=>(k.2 x hx).trans (h.2 x hx)⟩
theorem Kp.at{l:List Nat}{a b:Fr}(h:Kp l a b){k:Nat}{v:Option AV}(hk:k∈l)(hv:a.get k=v):b.get k=v:=(h.2 k hk).trans hv
theorem Yv{Γ:Cg}{b:List Vc}{fr1:Fr}{st1:St}:∀{a:List Vc} {fr:Fr} {st:St},Vj Γ a fr st=.ok fr1 st1->Vj Γ (a++b) fr st=Vj Γ b fr1 st1
 | [],fr,st,h=>by simp only[Vj,RR.ok.injEq] at h;obtain⟨rfl,rfl⟩:=h;rfl
 | m::a,fr,st,h=>by
  rw[QP]
  unfold Vj at h
  conv=>lhs;unfold Vj
  revert h
  split
  ·rename_i hw
   cases hd:m.op.isDefer with
   | true=>
    simp only[Qi]
    split
    ·exact fun h=>Yv h
    ·exact fun h=>nomatch h
   | false=>
    simp only[Qq]
    split
    ·exact fun h=>Yv h
    ·exact fun h=>nomatch h
    ·exact fun h=>nomatch h
  ·exact fun h=>Yv h
  ·exact fun h=>nomatch h
theorem Tm.cellsL3(l:List Tm):∀ y∈Tm.cellsL l,y.length=3/\y.all AV.one=true:=fun y hy=>by
 rw[Tm.cellsL_eq] at hy
 obtain⟨t,_,rfl⟩:=Q6.1 hy
 exact t.cells3
theorem Tm.cellsL_len(l:List Tm):(Tm.cellsL l).length=l.length:=by rw[Tm.cellsL_eq];simp
theorem Tm.cellsL_at{l:List Tm}{k:Nat}{x:Tm}(h:l[k]?=some x):(Tm.cellsL l)[k]?=some x.cells:=by rw[Tm.cellsL_eq,Q5,h];rfl
theorem Dv.cellsL3(l:List Dv):∀ y∈Dv.cellsL l,y.length=3/\y.all AV.one=true:=fun y hy=>by
 rw[Dv.cellsL_eq] at hy
 obtain⟨t,_,rfl⟩:=Q6.1 hy
 exact t.cells3
theorem Dv.cellsL_len(l:List Dv):(Dv.cellsL l).length=l.length:=by rw[Dv.cellsL_eq];simp
def dstN(k:Nat)(o:Vc):Bool:=match o.dst with
 | none=>true
 | some d=>!(d.beq k)
def ndB(o:Vc):Bool:=!o.op.isDefer
theorem defer_get{f f':Fr}{op:MOp}(h:Jr f op=some f')(k:Nat):f'.get k=f.get k:=by
 unfold Jr at h
 repeat' split at h
 all_goals first | (cases h;done) | (injection h with h;subst h;rfl)
theorem put_none{f:Fr}{o:Vc}{k:Nat}{v':AV}(m:dstN k o=true):(Fr.put f o.dst v').get k=f.get k:=by
 unfold dstN at m
 cases hd:o.dst with
 | none=>rfl
 | some d=>
  rw[hd] at m
  show (f.set d (some v')).get k=_
  rw[Fr.get_set,Qe (fun e=>by subst e;simp at m)]
theorem ah{Γ:Cg}{l:List Vc}{f f':Fr}{s s':St}{k:Nat}(h:Vj Γ l f s=.ok f' s')(m:l.all (dstN k)=true):f'.get k=f.get k:=by
 induction l generalizing f s with
 | nil=>simp only[Vj,RR.ok.injEq] at h;obtain⟨rfl,rfl⟩:=h;rfl
 | cons o l ih=>
  simp only[QN,Qd] at m
  rw[Vj] at h
  split at h
  ·cases hd:o.op.isDefer with
   | true=>
    simp only[hd,Qi] at h
    split at h
    ·rename_i f1 h1
     exact(ih h m.2).trans ((put_none m.1).trans (defer_get h1 k))
    ·cases h
   | false=>
    simp only[hd,Qq] at h
    split at h
    ·exact(ih h m.2).trans (put_none m.1)
    ·cases h
    ·cases h
  ·exact(ih h m.2).trans (put_none m.1)
  ·cases h
theorem ae{Γ:Cg}{l:List Vc}{f f':Fr}{s s':St}(h:Vj Γ l f s=.ok f' s')(m:l.all ndB=true:=by rfl):f'.ds=f.ds:=by
 induction l generalizing f s with
 | nil=>simp only[Vj,RR.ok.injEq] at h;obtain⟨rfl,rfl⟩:=h;rfl
 | cons o l ih=>
  simp only[QN,Qd] at m
  have hd:o.op.isDefer=false:=by have:=m.1;unfold ndB at this;simpa using this
  rw[Vj] at h
  split at h
  ·simp only[hd,Qq] at h
   split at h
   ·exact(ih h m.2).trans (Fr.put_ds _ _ _)
   ·cases h
   ·cases h
  ·exact(ih h m.2).trans (Fr.put_ds _ _ _)
  ·cases h
theorem ag{Γ:Cg}{l:List Vc}{f f':Fr}{s s':St}{k:Nat}{v:AV}(h:Vj Γ l f s=.ok f' s')(g:f.get k=some v)(m:l.all (dstN k)=true:=by rfl):f'.get k=some v:=(ah h m).trans g
theorem ad{Γ:Cg}{l:List Vc}{f f':Fr}{s s':St}{D}(h:Vj Γ l f s=.ok f' s')(d:f.ds=D)(m:l.all ndB=true:=by rfl):f'.ds=D:=(ae h m).trans d
theorem gAt{fA:Fr}{l:List AV}(hA:fA=Vo 0 l Fr.nil)(k:Nat){a:AV}(h:(Vo 0 l Fr.nil).get k=some a:=by rfl):fA.get k=some a:=hA ▸ h
def JX(p q:Int):Int:=if p=0 then q else p
theorem negSucc0:Int.negSucc 0=-1:=rfl
theorem ofNat1:Int.ofNat 1=1:=rfl
theorem ofNat0:Int.ofNat 0=0:=rfl
theorem cmpI_anti(x y:Int):VS y x=-VS x y:=by
 unfold VS
 simp only[negSucc0,ofNat1,ofNat0]
 split<;>split<;>(try split)<;>omega
def arN(r:Int):Nat:=if r=1\/r=2 then 0 else if r=7 then 2 else 1
def vaN(r:Int):Nat:=if r=1\/r=2 then 8 else if r=16 then 64 else 0
section
variable (gr:Tm->Bool)
mutual
def Dv.good:Dv->Bool
 | .mk r _ _ vs _ _ l=>decide (1<=r)&&decide (r<=19)&&(l.length==arN r)&&decide (vs.length<=vaN r)&&vs.all gr&&Dv.goodL l
def Dv.goodL:List Dv->Bool
 | []=>true
 | d::l=>d.good&&Dv.goodL l
end
end
mutual
def Dv.size:Dv->Nat
 | .mk _ _ _ _ _ _ l=>Dv.sizeL l+1
def Dv.sizeL:List Dv->Nat
 | []=>0
 | d::l=>d.size+Dv.sizeL l
end
mutual
def Dv.depth:Dv->Nat
 | .mk _ _ _ _ _ _ l=>Dv.depthL l+1
def Dv.depthL:List Dv->Nat
 | []=>0
 | d::l=>Nat.max d.depth (Dv.depthL l)
end
def aw(x y:Int):Int:=wr .i64 (x+y)
def sw(x y:Int):Int:=wr .i64 (x - y)
def mx(x y:Int):Int:=if y > x then y else x
theorem wr_in{n:Int}(h:-1000000<=n)(k:n<=1000000):wr .i64 n=n:=by
 have:in64 n=true:=by
  cases n with
  | ofNat m=>exact Qo (by simp at k;omega)
  | negSucc m=>exact Qo (by omega)
 simp only[wr,this,Qi]
theorem aw_eq{x y:Int}(h:-1000000<=x+y)(k:x+y<=1000000):aw x y=x+y:=wr_in h k
theorem sw_eq{x y:Int}(h:-1000000<=x - y)(k:x - y<=1000000):sw x y=x - y:=wr_in h k
mutual
def WM:Tm->Int->Int->Int->Int × Int
 | .mk _ _ _ _ l,d,a,b=>Yw l d (aw a 1) (mx b d)
def Yw:List Tm->Int->Int->Int->Int × Int
 | [],_,a,b=>(a,b)
 | t::l,d,a,b=>if a > 2000 then (a,b) else if b > 200 then (a,b) else Yw l d (WM t (aw d 1) a b).1 (WM t (aw d 1) a b).2
end
theorem cntL_nil(d a b:Int):Yw [] d a b=(a,b):=by unfold Yw;rfl
theorem Sg(t:Tm)(l:List Tm)(d a b:Int):Yw (t::l) d a b=if a > 2000 then (a,b) else if b > 200 then (a,b) else Yw l d (WM t (aw d 1) a b).1 (WM t (aw d 1) a b).2:=by conv=>lhs;unfold Yw
def badT(k n:Int)(len:Nat):Bool:=decide (n < 0)||((k==1)&&decide (Int.ofNat len > 0))||((k != 1)&&(k != 2))||decide (Int.ofNat len > 8)
mutual
def shT:Tm->Bool
 | .mk k n _ _ l=>if badT k n l.length=true then false else shL l
def shL:List Tm->Bool
 | []=>true
 | t::l=>if shT t=true then shL l else false
end
theorem shL_nil:shL []=true:=by unfold shL;rfl
theorem Ul(t:Tm)(l:List Tm):shL (t::l)=if shT t=true then shL l else false:=by conv=>lhs;unfold shL
mutual
def greT:Tm->Int->Int
 | .mk k n _ _ l,o=>mx (if k=1 then mx o n else o) (WW l (.negSucc 0))
def WW:List Tm->Int->Int
 | [],o=>o
 | t::l,o=>WW l (greT t o)
end
theorem greL_nil(o:Int):WW [] o=o:=by unfold WW;rfl
theorem greL_cons(t:Tm)(l:List Tm)(o:Int):WW (t::l) o=WW l (greT t o):=by conv=>lhs;unfold WW
def overP(p:Int × Int):Bool:=decide (p.1 > 2000)||decide (p.2 > 200)
def isTr(t:Tm):Bool:=!overP (WM t 1 0 0)&&shT t
def gr(t:Tm):Bool:=isTr t&&decide (WW [t] (.negSucc 0) < 0)
theorem gr_shT{t:Tm}(h:gr t=true):shT t=true:=by
 simp only[gr,isTr,Qd] at h
 exact h.1.2
theorem shT_mk{k n:Int}{nl ex:Bool}{l:List Tm}(h:shT (.mk k n nl ex l)=true):l.length<=8/\shL l=true:=by
 unfold shT at h
 split at h
 ·cases h
 ·rename_i hb
  refine⟨?_,h⟩
  unfold badT at hb
  simp only[XB,Z8,QF] at hb
  have:=hb.2
  simp at this;omega
theorem shL_mem:∀{l:List Tm},shL l=true->∀ t∈l,shT t=true
 | [],_,_,hx=>by simp at hx
 | t::l,h,x,hx=>by
  unfold shL at h
  split at h
  ·rename_i ht
   rcases Qx.1 hx with rfl | hx
   ·exact ht
   ·exact shL_mem h x hx
  ·cases h
mutual
def shD:Dv->Int->Int->Bool × Int
 | .mk r _ _ vs _ _ l,left,deep=>
  if sw left 1 < 0 then (false,sw left 1) else if deep > 400 then (false,sw left 1) else if r < 1 then (false,sw left 1) else if r > 19 then (false,sw left 1)
  else if l.length≠arN r then (false,sw left 1) else if vs.length > vaN r then (false,sw left 1) else if vs.all gr=true then Jl l (sw left 1) deep else (false,sw left 1)
def Jl:List Dv->Int->Int->Bool × Int
 | [],left,_=>(true,left)
 | d::l,left,deep=>if (shD d left (aw deep 1)).1=true then Jl l (shD d left (aw deep 1)).2 deep else (false,(shD d left (aw deep 1)).2)
end
theorem shDL_nil(a b:Int):Jl [] a b=(true,a):=by unfold Jl;rfl
theorem shDL_cons(d:Dv)(l:List Dv)(left deep:Int):Jl (d::l) left deep=if (shD d left (aw deep 1)).1=true then Jl l (shD d left (aw deep 1)).2 deep else (false,(shD d left (aw deep 1)).2):=by conv=>lhs;unfold Jl
def badD(r left deep:Int)(nl nv:Nat)(g:Bool):Bool:=decide (sw left 1 < 0)||(decide (deep > 400)||(decide (r < 1)||(decide (r > 19)||((Int.ofNat nl != Int.ofNat (arN r))||(decide (Int.ofNat nv > Int.ofNat (vaN r))||!g)))))
theorem shD_eq(r left deep:Int)(nv ev nl ex:Bool)(vs:List Tm)(l:List Dv):shD (.mk r nv ev vs nl ex l) left deep=if badD r left deep l.length vs.length (vs.all gr)=true then (false,sw left 1) else Jl l (sw left 1) deep:=by
 conv=>lhs;unfold shD
 unfold badD
 by_cases c1:sw left 1 < 0
 ·rw[Qm c1,Qs c1,Qm (by simp)]
 rw[Qe c1,Qp c1,QL]
 by_cases c2:deep > 400
 ·rw[Qm c2,Qs c2,Qm (by simp)]
 rw[Qe c2,Qp c2,QL]
 by_cases c3:r < 1
 ·rw[Qm c3,Qs c3,Qm (by simp)]
 rw[Qe c3,Qp c3,QL]
 by_cases c4:r > 19
 ·rw[Qm c4,Qs c4,Qm (by simp)]
 rw[Qe c4,Qp c4,QL]
 by_cases c5:l.length≠arN r
 ·have:(Int.ofNat l.length != Int.ofNat (arN r))=true:=by simp;omega
  rw[Qm c5,this,Qm (by simp)]
 have c5':(Int.ofNat l.length != Int.ofNat (arN r))=false:=by simp;omega
 rw[Qe c5,c5',QL]
 by_cases c6:vs.length > vaN r
 ·have:decide (Int.ofNat vs.length > Int.ofNat (vaN r))=true:=Qs (by simp;omega)
  rw[Qm c6,this,Qm (by simp)]
 have c6':decide (Int.ofNat vs.length > Int.ofNat (vaN r))=false:=Qp (by simp;omega)
 rw[Qe c6,c6',QL]
 by_cases c7:vs.all gr=true
 ·rw[Qm c7,c7,Qe (by simp)]
 ·rw[Qe c7,Qm (by simpa using c7)]
def JY(d:Dv):Bool:=(shD d 4000 1).1
theorem depthL_max(d:Dv)(l:List Dv):Dv.depthL (d::l)=if d.depth<=Dv.depthL l then Dv.depthL l else d.depth:=by
 show Nat.max _ _=_
 exact Nat.max_def
mutual
theorem shD_spec:∀(d:Dv) (left deep:Int),0<=left->left<=4000->1<=deep->deep<=401 ->
  ((shD d left deep).1=true ↔ (d.good gr=true/\(d.size:Int)<=left/\deep+d.depth<=401))/\((shD d left deep).1=true->(shD d left deep).2=left - d.size)
 | .mk r nv ev vs nl ex l,left,deep,h1,h2,h3,h4=>by
  have hs:sw left 1=left - 1:=sw_eq (by omega) (by omega)
  unfold shD
  rw[hs]
  simp only[Dv.good,Dv.size,Dv.depth,Qd,QF,Zm]
  by_cases c1:left - 1 < 0
  ·rw[Qm c1];exact⟨⟨fun h=>(by cases h),fun h=>by omega⟩,fun h=>by cases h⟩
  rw[Qe c1]
  by_cases c2:deep > 400
  ·rw[Qm c2];exact⟨⟨fun h=>(by cases h),fun h=>by omega⟩,fun h=>by cases h⟩
  rw[Qe c2]
  by_cases c3:r < 1
  ·rw[Qm c3];exact⟨⟨fun h=>(by cases h),fun h=>by omega⟩,fun h=>by cases h⟩
  rw[Qe c3]
  by_cases c4:r > 19
  ·rw[Qm c4];exact⟨⟨fun h=>(by cases h),fun h=>by omega⟩,fun h=>by cases h⟩
  rw[Qe c4]
  by_cases c5:l.length≠arN r
  ·rw[Qm c5];exact⟨⟨fun h=>(by cases h),fun h=>absurd h.1.1.1.1.2 c5⟩,fun h=>by cases h⟩
  rw[Qe c5]
  by_cases c6:vs.length > vaN r
  ·rw[Qm c6];exact⟨⟨fun h=>(by cases h),fun h=>by omega⟩,fun h=>by cases h⟩
  rw[Qe c6]
  by_cases c7:vs.all gr=true
  ·rw[Qm c7]
   obtain⟨k1,k2⟩:=shDL_spec l (left - 1) deep (by omega) (by omega) h3 (by omega)
   refine⟨⟨fun h=>?_,fun h=>?_⟩,fun h=>?_⟩
   ·obtain⟨a1,a2,a3⟩:=k1.1 h
    refine⟨⟨⟨⟨⟨⟨by omega,by omega⟩,by omega⟩,by omega⟩,c7⟩,a1⟩,by omega,by omega⟩
   ·exact k1.2 ⟨h.1.2,by omega,by omega⟩
   ·rw[k2 h];omega
  ·rw[Qe c7];exact⟨⟨fun h=>(by cases h),fun h=>absurd h.1.1.2 c7⟩,fun h=>by cases h⟩
theorem shDL_spec:∀(l:List Dv) (left deep:Int),0<=left->left<=4000->1<=deep->deep<=400 ->
  ((Jl l left deep).1=true ↔ (Dv.goodL gr l=true/\(Dv.sizeL l:Int)<=left/\deep+Dv.depthL l<=400))/\((Jl l left deep).1=true->(Jl l left deep).2=left - Dv.sizeL l)
 | [],left,deep,h1,h2,h3,h4=>by
  simp only[Jl,Dv.goodL,Dv.sizeL,Dv.depthL,true_iff,true_and]
  exact⟨⟨by omega,by omega⟩,fun _=>by omega⟩
 | d::l,left,deep,h1,h2,h3,h4=>by
  have ha:aw deep 1=deep+1:=aw_eq (by omega) (by omega)
  unfold Jl
  rw[ha]
  obtain⟨k1,k2⟩:=shD_spec d left (deep+1) h1 h2 (by omega) (by omega)
  simp only[Dv.goodL,Dv.sizeL,depthL_max,Qd]
  by_cases c:(shD d left (deep+1)).1=true
  ·rw[Qm c]
   obtain⟨a1,a2,a3⟩:=k1.1 c
   have e:=k2 c
   rw[e]
   obtain⟨m1,m2⟩:=shDL_spec l (left - d.size) deep (by omega) (by omega) h3 h4
   refine⟨⟨fun h=>?_,fun h=>?_⟩,fun h=>?_⟩
   ·obtain⟨b1,b2,b3⟩:=m1.1 h
    exact⟨⟨a1,b1⟩,by omega,by split<;>omega⟩
   ·refine m1.2 ⟨h.1.2,by omega,?_⟩
    have:=h.2.2
    split at this<;>omega
   ·rw[m2 h];omega
  ·rw[Qe c]
   refine⟨⟨fun h=>(by cases h),fun h=>?_⟩,fun h=>by cases h⟩
   exact absurd (k1.2 ⟨h.1.1,by omega,by have:=h.2.2;split at this<;>omega⟩) c
end
theorem isDv_iff(d:Dv):JY d=true ↔ (d.good gr=true/\d.size<=4000/\d.depth<=400):=by
 obtain⟨h,_⟩:=shD_spec d 4000 1 (by omega) (by omega) (by omega) (by omega)
 unfold JY
 rw[h]
 constructor
 ·rintro ⟨a,b,c⟩;exact⟨a,by omega,by omega⟩
 ·rintro ⟨a,b,c⟩;exact⟨a,by omega,by omega⟩
def VZ(id:Nat)(st st':St):Prop:=st.next<=st'.next/\∀ i,i < st.next->i≠id->st'.get i=st.get i
theorem VZ.refl(id:Nat)(st:St):VZ id st st:=⟨Qw _,fun _ _ _=>rfl⟩
theorem VZ.trans{id:Nat}{a b c:St}(h:VZ id a b)(k:VZ id b c):VZ id a c:=⟨QY h.1 k.1,fun i hi hn=>(k.2 i (Qz hi h.1) hn).trans (h.2 i hi hn)⟩
theorem VZ.of{id:Nat}{a b:St}(h:Vd a b):VZ id a b:=⟨h.1,fun i hi _=>h.2 i hi⟩
theorem VZ.put(id:Nat)(st:St)(o:AO):VZ id st (st.put id o):=⟨Qw _,fun i _ hn=>by rw[St.get_put,Qe hn]⟩
theorem Vd.then1{id:Nat}{s a b:St}(h:Vd s a)(k:VZ id a b)(hid:s.next<=id):Vd s b:=
 ⟨QY h.1 k.1,fun i hi=>(k.2 i (Qz hi h.1) (by omega)).trans (h.2 i hi)⟩
theorem Vd.put'{s a:St}(h:Vd s a)(id:Nat)(o:AO)(hid:s.next<=id):Vd s (a.put id o):=h.put id o hid
theorem Vd.new'{s a:St}(h:Vd s a)(o:AO):Vd s (a.new o):=h.trans (Vd.new a o)
theorem Vd.newput{s a:St}(h:Vd s a)(o o':AO):Vd s ((a.new o).put a.next o'):=(h.new' o).put' _ _ h.1
theorem Vd.get{s a:St}(h:Vd s a){i:Nat}{o:AO}(hi:i < s.next)(hg:s.get i=some o):a.get i=some o:=(h.2 i hi).trans hg
def Vs(F:Nat->Prop)(st st':St):Prop:=∀ i,F i->st'.get i=st.get i
theorem Vs.refl(F:Nat->Prop)(st:St):Vs F st st:=fun _ _=>rfl
theorem Vs.trans{F:Nat->Prop}{a b c:St}(h:Vs F a b)(k:Vs F b c):Vs F a c:=fun i hi=>(k i hi).trans (h i hi)
theorem Vs.of1{F:Nat->Prop}{id:Nat}{a b:St}(h:VZ id a b)(hF:∀ i,F i->i < a.next)(hid:¬ F id):Vs F a b:=fun i hi=>h.2 i (hF i hi) (fun e=>hid (e ▸ hi))
theorem Vs.of{F:Nat->Prop}{a b:St}(h:Vd a b)(hF:∀ i,F i->i < a.next):Vs F a b:=fun i hi=>h.2 i (hF i hi)
theorem Vs.get{F:Nat->Prop}{a b:St}(h:Vs F a b){i:Nat}{o:AO}(hi:F i)(hg:a.get i=some o):b.get i=some o:=(h i hi).trans hg
def SlR(F:Nat->Prop)(st:St)(sl:AV)(xs:List (List AV)):Prop:=
 (∀ x∈xs,x.length=3/\x.all AV.one=true)/\xs.length<=9223372036854775807 ∧
 ((sl=.nilsl/\xs=[])\/(∃ ex,sl=.lst xs.length xs.flatten ex)\/(∃ id cap lo,sl=.own id 0 xs.length 3 cap lo/\F id/\st.get id=some (.row xs.flatten)))
theorem SlR.mono{F G:Nat->Prop}{s a:St}{sl:AV}{xs:List (List AV)}(h:SlR F s sl xs)(k:Vs F s a)(hFG:∀ i,F i->G i):SlR G a sl xs:=by
 obtain⟨h1,h2,h3⟩:=h
 refine⟨h1,h2,?_⟩
 rcases h3 with h | h|⟨id,cap,lo,h,hi,hg⟩
 ·exact .inl h
 ·exact .inr (.inl h)
 ·exact .inr (.inr ⟨id,cap,lo,h,hFG _ hi,k.get hi hg⟩)
theorem SlR.nil(F:Nat->Prop)(st:St):SlR F st .nilsl []:=⟨fun _ h=>by simp at h,X3 _,.inl ⟨rfl,rfl⟩⟩
theorem SlR.lst(F:Nat->Prop)(st:St){n:Nat}{xs:List (List AV)}{ex:Bool}(h:∀ x∈xs,x.length=3/\x.all AV.one=true)(hb:xs.length<=9223372036854775807)(hn:n=xs.length):SlR F st (.lst n xs.flatten ex) xs:=⟨h,hb,.inr (.inl ⟨ex,by rw[hn]⟩)⟩
theorem SlR.sl(F:Nat->Prop)(st:St){nl ex:Bool}{xs:List (List AV)}(h:∀ x∈xs,x.length=3/\x.all AV.one=true)(hb:xs.length<=9223372036854775807)(hn:nl=true->xs=[]):SlR F st (V7 nl ex xs) xs:=by
 cases nl with
 | true=>rw[hn rfl];exact SlR.nil F st
 | false=>exact SlR.lst F st h hb rfl
theorem SlR.one{F:Nat->Prop}{st:St}{sl:AV}{xs:List (List AV)}(h:SlR F st sl xs):AV.one sl=true:=by
 rcases h.2.2 with⟨rfl,_⟩|⟨ex,rfl⟩|⟨id,cap,lo,rfl,_⟩<;>rfl
theorem SlR.len{F:Nat->Prop}{st:St}{sl:AV}{xs:List (List AV)}(h:SlR F st sl xs)(st':St):(bif VD 0 sl then Wm st' sl else none)=some (ZI xs.length):=by
 rcases h.2.2 with⟨rfl,rfl⟩|⟨ex,rfl⟩|⟨id,cap,lo,rfl,_⟩<;>rfl
theorem SlR.at{F:Nat->Prop}{st:St}{sl:AV}{xs:List (List AV)}(h:SlR F st sl xs){k:Nat}{x:List AV}(hx:xs[k]?=some x):
  ∃ p,VC 3 sl (ZI k)=some p/\∀ st',Vs F st st'->Vf true 3 st' p=some (.agg x):=by
 have hk:=(Qt.1 hx).1
 have h3:=fun x hx=>(h.1 x hx).1
 rcases h.2.2 with⟨rfl,rfl⟩|⟨ex,rfl⟩|⟨id,cap,lo,rfl,hi,hg⟩
 ·simp at hk
 ·exact⟨_,iaddr_sl (nl:=false) (ex:=ex) h3 (fun h=>by cases h) hx,fun st' _=>load_sl h3 hx st'⟩
 ·refine⟨.ptr id (0+k*3),?_,fun st' hk'=>?_⟩
  ·simp only[VC]
   rw[Qo (show k+1<=xs.length from hk)]
   rfl
  ·simp only[Vf,Wy,hk'.get hi hg,Qg,Q7,flat_at h3 hx,Ja,Qi]
   rw[h3 x (Qr hx)]
   rfl
theorem flat_len{xs:List (List AV)}(h:∀ x∈xs,x.length=3/\x.all AV.one=true):xs.flatten.length=xs.length*3:=by
 induction xs with
 | nil=>rfl
 | cons y ys ih=>
  simp only[Xc,QJ,QC]
  rw[ih fun x hx=>h x (by simp[hx]),(h y (by simp)).1];omega
mutual
def We(F:Nat->Prop)(st:St):Tm->List AV->Prop
 | .mk k n _ _ l,cs=>∃ sl xs,cs=[.int .i64 k,.int .i64 n,sl]/\SlR F st sl xs/\Vy F st l xs
def Vy(F:Nat->Prop)(st:St):List Tm->List (List AV)->Prop
 | [],xs=>xs=[]
 | t::l,xs=>∃ x ys,xs=x::ys/\We F st t x/\Vy F st l ys
end
mutual
def VU(F:Nat->Prop)(st:St):Dv->List AV->Prop
 | .mk r _ _ vs _ _ l,cs=>∃ s1 x1 s2 x2,cs=[.int .i64 r,s1,s2]/\SlR F st s1 x1/\Vy F st vs x1/\SlR F st s2 x2/\VI F st l x2
def VI(F:Nat->Prop)(st:St):List Dv->List (List AV)->Prop
 | [],xs=>xs=[]
 | t::l,xs=>∃ x ys,xs=x::ys/\VU F st t x/\VI F st l ys
end
mutual
theorem We.mono{F G:Nat->Prop}{s a:St}(k:Vs F s a)(g:∀ i,F i->G i):∀(t:Tm) (cs:List AV),We F s t cs->We G a t cs
 | .mk _ _ _ _ l,cs,h=>by
  simp only[We] at h ⊢
  obtain⟨sl,xs,h1,h2,h3⟩:=h
  exact⟨sl,xs,h1,h2.mono k g,Vy.mono k g l xs h3⟩
theorem Vy.mono{F G:Nat->Prop}{s a:St}(k:Vs F s a)(g:∀ i,F i->G i):∀(l:List Tm) (xs:List (List AV)),Vy F s l xs->Vy G a l xs
 | [],xs,h=>by simp only[Vy] at h ⊢;exact h
 | t::l,xs,h=>by
  simp only[Vy] at h ⊢
  obtain⟨x,ys,h1,h2,h3⟩:=h
  exact⟨x,ys,h1,We.mono k g t x h2,Vy.mono k g l ys h3⟩
end
mutual
theorem VU.mono{F G:Nat->Prop}{s a:St}(k:Vs F s a)(g:∀ i,F i->G i):∀(t:Dv) (cs:List AV),VU F s t cs->VU G a t cs
 | .mk _ _ _ vs _ _ l,cs,h=>by
  simp only[VU] at h ⊢
  obtain⟨s1,x1,s2,x2,h1,h2,h3,h4,h5⟩:=h
  exact⟨s1,x1,s2,x2,h1,h2.mono k g,Vy.mono k g vs x1 h3,h4.mono k g,VI.mono k g l x2 h5⟩
theorem VI.mono{F G:Nat->Prop}{s a:St}(k:Vs F s a)(g:∀ i,F i->G i):∀(l:List Dv) (xs:List (List AV)),VI F s l xs->VI G a l xs
 | [],xs,h=>by simp only[VI] at h ⊢;exact h
 | t::l,xs,h=>by
  simp only[VI] at h ⊢
  obtain⟨x,ys,h1,h2,h3⟩:=h
  exact⟨x,ys,h1,VU.mono k g t x h2,VI.mono k g l ys h3⟩
end
theorem We.cells3{F:Nat->Prop}{st:St}{t:Tm}{cs:List AV}(h:We F st t cs):cs.length=3/\cs.all AV.one=true:=by
 cases t with
 | mk k n nl ex l=>
  simp only[We] at h
  obtain⟨sl,xs,rfl,h2,_⟩:=h
  refine⟨rfl,?_⟩
  have:=h2.one
  show (true&&(true&&(AV.one sl&&true)))=true
  rw[this];rfl
theorem VU.cells3{F:Nat->Prop}{st:St}{t:Dv}{cs:List AV}(h:VU F st t cs):cs.length=3/\cs.all AV.one=true:=by
 cases t with
 | mk r nv ev vs nl ex l=>
  simp only[VU] at h
  obtain⟨s1,x1,s2,x2,rfl,h2,_,h4,_⟩:=h
  refine⟨rfl,?_⟩
  show (true&&(AV.one s1&&(AV.one s2&&true)))=true
  rw[h2.one,h4.one];rfl
theorem Vy.len{F:Nat->Prop}{st:St}:∀{l:List Tm} {xs:List (List AV)},Vy F st l xs->xs.length=l.length
 | [],xs,h=>by simp only[Vy] at h;rw[h];rfl
 | t::l,xs,h=>by
  simp only[Vy] at h
  obtain⟨x,ys,rfl,_,h3⟩:=h
  simp only[QC,Vy.len h3]
theorem VI.len{F:Nat->Prop}{st:St}:∀{l:List Dv} {xs:List (List AV)},VI F st l xs->xs.length=l.length
 | [],xs,h=>by simp only[VI] at h;rw[h];rfl
 | t::l,xs,h=>by
  simp only[VI] at h
  obtain⟨x,ys,rfl,_,h3⟩:=h
  simp only[QC,VI.len h3]
theorem Vy.at{F:Nat->Prop}{st:St}:∀{l:List Tm} {xs:List (List AV)},Vy F st l xs->∀{k:Nat} {t:Tm},l[k]?=some t->∃ x,xs[k]?=some x/\We F st t x
 | [],xs,_,k,t,ht=>by simp at ht
 | u::l,xs,h,k,t,ht=>by
  simp only[Vy] at h
  obtain⟨x,ys,rfl,h2,h3⟩:=h
  cases k with
  | zero=>simp only[Q0,Qa] at ht;subst ht;exact⟨x,rfl,h2⟩
  | succ k=>simp only[QE] at ht;exact h3.at ht
theorem VI.at{F:Nat->Prop}{st:St}:∀{l:List Dv} {xs:List (List AV)},VI F st l xs->∀{k:Nat} {t:Dv},l[k]?=some t->∃ x,xs[k]?=some x/\VU F st t x
 | [],xs,_,k,t,ht=>by simp at ht
 | u::l,xs,h,k,t,ht=>by
  simp only[VI] at h
  obtain⟨x,ys,rfl,h2,h3⟩:=h
  cases k with
  | zero=>simp only[Q0,Qa] at ht;subst ht;exact⟨x,rfl,h2⟩
  | succ k=>simp only[QE] at ht;exact h3.at ht
theorem Vy.snoc{F:Nat->Prop}{st:St}:∀{l:List Tm} {xs:List (List AV)} {t:Tm} {x:List AV},Vy F st l xs->We F st t x->Vy F st (l++[t]) (xs++[x])
 | [],xs,t,x,h,k=>by simp only[Vy] at h;subst h;simp only[QR,Vy];exact⟨x,[],rfl,k,rfl⟩
 | u::l,xs,t,x,h,k=>by
  simp only[Vy] at h
  obtain⟨y,ys,rfl,h2,h3⟩:=h
  simp only[QP,Vy]
  exact⟨y,ys++[x],rfl,h2,h3.snoc k⟩
theorem VI.snoc{F:Nat->Prop}{st:St}:∀{l:List Dv} {xs:List (List AV)} {t:Dv} {x:List AV},VI F st l xs->VU F st t x->VI F st (l++[t]) (xs++[x])
 | [],xs,t,x,h,k=>by simp only[VI] at h;subst h;simp only[QR,VI];exact⟨x,[],rfl,k,rfl⟩
 | u::l,xs,t,x,h,k=>by
  simp only[VI] at h
  obtain⟨y,ys,rfl,h2,h3⟩:=h
  simp only[QP,VI]
  exact⟨y,ys++[x],rfl,h2,h3.snoc k⟩
theorem cellsL_nil{nl:Bool}{l:List Tm}(h:nl=true->l=[]):nl=true->Tm.cellsL l=[]:=fun k=>by rw[h k];rfl
mutual
theorem We.line(F:Nat->Prop)(st:St):∀(t:Tm),t.ok->We F st t t.cells
 | .mk k n nl ex l,h=>by
  simp only[Tm.ok] at h
  simp only[We,Tm.cells]
  exact⟨_,_,rfl,SlR.sl F st (Tm.cellsL3 l) (by rw[Tm.cellsL_len];exact h.2.1) (cellsL_nil h.1),Vy.line F st l h.2.2⟩
theorem Vy.line(F:Nat->Prop)(st:St):∀(l:List Tm),Tm.okL l->Vy F st l (Tm.cellsL l)
 | [],_=>by simp only[Vy,Tm.cellsL]
 | t::l,h=>by
  simp only[Tm.okL] at h
  simp only[Vy,Tm.cellsL]
  exact⟨_,_,rfl,We.line F st t h.1,Vy.line F st l h.2⟩
end
mutual
theorem VU.line(F:Nat->Prop)(st:St):∀(t:Dv),t.ok->VU F st t t.cells
 | .mk r nv ev vs nl ex l,h=>by
  simp only[Dv.ok] at h
  simp only[VU,Dv.cells]
  exact⟨_,_,_,_,rfl,SlR.sl F st (Tm.cellsL3 vs) (by rw[Tm.cellsL_len];exact h.2.1) (cellsL_nil h.1),Vy.line F st vs h.2.2.1,
   SlR.sl F st (Dv.cellsL3 l) (by rw[Dv.cellsL_len];exact h.2.2.2.2.1) (fun k=>by rw[h.2.2.2.1 k];rfl),VI.line F st l h.2.2.2.2.2⟩
theorem VI.line(F:Nat->Prop)(st:St):∀(l:List Dv),Dv.okL l->VI F st l (Dv.cellsL l)
 | [],_=>by simp only[VI,Dv.cellsL]
 | t::l,h=>by
  simp only[Dv.okL] at h
  simp only[VI,Dv.cellsL]
  exact⟨_,_,rfl,VU.line F st t h.1,VI.line F st l h.2⟩
end
theorem next_el(st:St){x zs:List AV}(hz:zs.length=3)(hx:x.length=3/\x.all AV.one=true):
  ∃ st1,Vt 3 (st.new (.row zs)) (.ptr st.next 0) (.agg x)=some st1/\Vd st st1/\st1.get st.next=some (.row x)/\st1.next=st.next+1:=
 ⟨_,Se hz hx.1 hx.2,(Vd.refl st).newput _ _,by rw[St.get_put,Qm rfl],rfl⟩
end Go.AM.D32
