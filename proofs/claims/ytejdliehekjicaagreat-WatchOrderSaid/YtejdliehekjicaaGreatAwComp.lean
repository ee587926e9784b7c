import Derived.Test.YtejdliehekjicaaGreatAwOp7
import Derived.Laws.MakeOwn
import Derived.Laws.IdiomStrings
import Derived.Laws.BytesString
import Derived.Lib.UnsafeStr
import Derived.Laws.IdiomRangeMap
import Derived.RangeFuncNested
import Derived.Laws.StructEq
import Derived.Laws.Tables
set_option linter.unusedSimpArgs false
namespace Go.AM
section
variable {E:Env} {st:St} {w:World} {P:Program}
theorem nilchkA_sound{x r:AV}{v:Value}{o:Oper}{X:Operand}{ρ:Operand->Value}(ho:o.op=.nilCheck X)(hv:ρ X=v)(hx:Rv E w x v)(hr:Jd x=some r):
  (execOp ρ o).run P w=.ok (.value v) w/\Rv E w r v:=by
 unfold Jd at hr
 split at hr<;>simp only[Qa,reduceCtorEq] at hr<;>subst hr
 ·have h0:=hx;obtain⟨b,hb,rfl⟩:=hx
  exact⟨by simp[execOp,ho,hv],h0⟩
 ·have h0:=hx;obtain⟨a,rfl,_⟩:=hx
  exact⟨by simp[execOp,ho,hv],h0⟩
 ·have h0:=hx;obtain⟨xs,ys,rfl,_⟩:=hx
  exact⟨by simp[execOp,ho,hv],h0⟩
 ·have h0:=hx;obtain⟨y,rfl,_⟩:=hx
  exact⟨by simp[execOp,ho,hv],h0⟩
theorem makeIface_sound{t:TypeId}{d:TypeDesc}{x:AV}{v:Value}(ht:P.underlying t=some d)(hd:Y3 d=true)(hx:Rv E w x v):
  (Instr.makeInterface t v).run P w=.ok (.iface t v) w/\Rv E w (.iface t x) (.iface t v):=by
 refine⟨?_,v,rfl,hx⟩
 cases d<;>simp[Y3] at hd<;>simp[Instr.makeInterface,underlying,ht]
theorem tassertA_sound{t xt:TypeId}{d:TypeDesc}{i:TypeInfo}{z:Value}{zero x r:AV}{ok:Bool}{v:Value}(ht:P.underlying t=some d)(hd:Y3 d=true)(hi:P.info? t=some i)(hz:i.zero=some z)
  (hzero:Rv E w zero z) (hx:Rv E w x v) (hr:tassertA t zero ok x=some r):∃ u,(Instr.typeAssert v xt t ok).run P w=.ok u w/\Rv E w r u:=by
 have two:∀(a b:AV) (va vb:Value),Rv E w a va->Rv E w b vb->Rv E w (.tuple [a,b]) (.tuple #[va,vb]):=fun a b va vb h1 h2=>⟨#[va,vb],rfl,va,[vb],rfl,h1,vb,[],rfl,h2,rfl⟩
 cases x<;>simp only[tassertA,reduceCtorEq] at hr
 ·have hx:v=.nilIface:=hx
  subst hx
  cases ok<;>simp only[Qi,Qq,Qa,reduceCtorEq] at hr
  subst hr
  refine⟨.tuple #[z,.bool false],?_,two _ _ _ _ hzero rfl⟩
  cases d<;>simp[Y3] at hd<;>simp[Instr.typeAssert,underlying,ht,Wc hi hz]
 ·obtain⟨y,rfl,hy⟩:=hx
  rename_i u x
  cases hu:u.beq t
  ·simp only[hu,Qq] at hr
   cases ok<;>simp only[Qi,Qq,Qa,reduceCtorEq] at hr
   subst hr
   have hne:u≠t:=fun h=>by subst h;simp at hu
   refine⟨.tuple #[z,.bool false],?_,two _ _ _ _ hzero rfl⟩
   cases d<;>simp[Y3] at hd<;>simp[Instr.typeAssert,underlying,ht,Wc hi hz,hne]
  ·simp only[hu,Qi] at hr
   have:=Qj hu
   subst this
   cases ok<;>simp only[Qi,Qq,Qa] at hr<;>subst hr
   ·refine⟨y,?_,hy⟩
    cases d<;>simp[Y3] at hd<;>simp[Instr.typeAssert,underlying,ht]
   ·refine⟨.tuple #[y,.bool true],?_,two _ _ _ _ hy rfl⟩
    cases d<;>simp[Y3] at hd<;>simp[Instr.typeAssert,underlying,ht]
theorem bytes_beq(s s':ByteArray):(s.data.toList==s'.data.toList)=(s==s'):=by
 have:(s==s')=(s.data==s'.data):=by cases s;cases s';rfl
 rw[this];simp
def Uj(str:Bool):TypeDesc->Prop:=fun d=>(str=true/\d=.string)\/(str=false/\∃ k,d=.int k)
theorem keyEq_sound{str:Bool}{d:TypeDesc}{x y:AV}{v u:Value}{b:Bool}(hd:Uj str d)(hx:Rv E w x v)(hy:Rv E w y u)(h:KO str x y=some b):Instr.sameNow d v u=some b:=by
 cases x<;>cases y<;>simp only[KO,reduceCtorEq] at h
 ·have hx:v=_:=hx
  have hy:u=_:=hy
  subst hx;subst hy
  rcases hd with⟨rfl,rfl⟩|⟨rfl,k,rfl⟩
  ·simp at h
  ·simp only[Qq] at h
   simp only[Instr.sameNow]
   exact h
 ·obtain⟨s,rfl,hs⟩:=hx
  obtain⟨s',rfl,hs'⟩:=hy
  rcases hd with⟨rfl,rfl⟩|⟨rfl,k,rfl⟩
  ·simp only[Qi,Qa] at h
   rw[<-hs,<-hs',UO] at h
   simp only[Instr.sameNow,Qa]
   rw[<-h]
   exact(bytes_beq s s').symm
  ·simp at h
theorem sameBits_of{str:Bool}{x y:AV}{v u:Value}(hx:Rv E w x v)(hy:Rv E w y u)(h:KO str x y=some true)(n:Nat):Instr.sameBits n u v=true:=by
 cases x<;>cases y<;>simp only[KO,reduceCtorEq] at h
 ·have hx:v=_:=hx
  have hy:u=_:=hy
  subst hx;subst hy
  cases str
  ·simp only[Qq,Xs,Qa,Zm] at h
   obtain⟨rfl,rfl⟩:=h
   simp[Instr.sameBits]
  ·simp at h
 ·obtain⟨s,rfl,hs⟩:=hx
  obtain⟨s',rfl,hs'⟩:=hy
  cases str
  ·simp at h
  ·simp only[Qi,Qa] at h
   rw[<-hs,<-hs',UO] at h
   rw[bytes_beq] at h
   have h':(s'==s)=true:=by
    rw[<-bytes_beq] at h ⊢
    rw[eq_of_beq h];simp
   simp[Instr.sameBits,h']
theorem Su{str:Bool}{d:TypeDesc}{k:AV}{vk:Value}(hd:Uj str d)(hk:Rv E w k vk):∀(es:List (AV × AV)) (l:List MapEntry) (r:Option AV) (i:Nat),RvEs E w es l->Uz str k es=some r ->
  ∃ q,Instr.findNow d vk l i=some q/\(match r,q with | none,none=>True | some v,some (_,u)=>Rv E w v u | _,_=>False)
 | [],l,r,i,hl,h=>by
  cases hl;simp only[Uz,Qa] at h;subst h
  exact⟨none,rfl,trivial⟩
 | (x,v)::es,_,r,i,⟨e,l,rfl,h1,h2,h3⟩,h=>by
  simp only[Uz] at h
  cases hq:KO str k x with
  | none=>simp[hq] at h
  | some b=>
   have hs:=keyEq_sound hd hk h1 hq
   cases b with
   | true=>
    simp only[hq,Qa] at h;subst h
    exact⟨some (i,e.val),by simp[Instr.findNow,hs],h2⟩
   | false=>
    simp only[hq] at h
    obtain⟨q,h4,h5⟩:=Su hd hk es l r (i+1) h3 h
    exact⟨q,by simp[Instr.findNow,hs,h4],h5⟩
theorem Y2{str:Bool}{d:TypeDesc}{kt:TypeId}{b:Bool}{v:Value}(hk:P.underlying kt=some d)(hd:Uj str d):(Instr.checkKey b 10000 kt v).run P w=.ok () w:=by
 have:∀ n,(Instr.checkKey b (n+1) kt v).run P w=.ok () w:=fun n=>by
  rcases hd with⟨_,rfl⟩|⟨_,k,rfl⟩<;>simp[Instr.checkKey,underlying,hk]
 exact this 9999
theorem lookupA_sound{t kt et:TypeId}{d:TypeDesc}{i:TypeInfo}{z:Value}{zero m k r:AV}{str ok:Bool}{vm vk:Value}(ht:P.underlying t=some (.map kt et))(hk:P.underlying kt=some d)(hd:Uj str d)
  (hi:P.info? et=some i) (hz:i.zero=some z) (hzero:Rv E w zero z) (hs:Sat E st w) (hm:Rv E w m vm) (hkv:Rv E w k vk) (hr:JP str zero ok st m k=some r):
  ∃ u,(Instr.lookup t vm vk ok).run P w=.ok u w/\Rv E w r u:=by
 have two:∀(a b:AV) (va vb:Value),Rv E w a va->Rv E w b vb->Rv E w (.tuple [a,b]) (.tuple #[va,vb]):=fun a b va vb h1 h2=>⟨#[va,vb],rfl,va,[vb],rfl,h1,vb,[],rfl,h2,rfl⟩
 cases m<;>simp only[JP,reduceCtorEq] at hr
 ·have hm:vm=.map none:=hm
  subst hm
  simp only[Qa] at hr;subst hr
  refine⟨if ok then .tuple #[z,.bool false] else z,?_,?_⟩
  ·simp[Instr.lookup,underlying,ht,Y2 hk hd,Instr.findKey,hk,Instr.findNow,Wc hi hz]
  ·cases ok
   ·exact hzero
   ·exact two _ _ _ _ hzero rfl
 ·obtain⟨b,hb,rfl⟩:=hm
  rename_i id
  cases ho:st.get id with
  | none=>simp[ho] at hr
  | some o=>
   cases o with
   | loop s=>simp[ho] at hr
   | row _=>simp[ho] at hr
   | fro _=>simp[ho] at hr
   | iter _ _=>simp[ho] at hr
   | map es=>
    simp only[ho] at hr
    obtain⟨l,clock,h1,h2,_⟩:=hs.obj id _ b ho hb
    have hg:(getObj b).run P w=.ok (.map l clock) w:=by simp[getObj,Sem.run,h1]
    cases hf:Uz str k es with
    | none=>simp[hf] at hr
    | some q=>
     simp only[hf,Ql,Qa] at hr;subst hr
     obtain⟨q',h3,h4⟩:=Su hd hkv es l.toList q 0 h2 hf
     cases q with
     | none=>
      cases q' with
      | some p=>exact h4.elim
      | none=>
       refine⟨if ok then .tuple #[z,.bool false] else z,?_,?_⟩
       ·simp[Instr.lookup,underlying,ht,Y2 hk hd,Instr.findKey,hk,hg,h3,Wc hi hz]
       ·cases ok
        ·exact hzero
        ·exact two _ _ _ _ hzero rfl
     | some v=>
      cases q' with
      | none=>exact h4.elim
      | some p=>
       obtain⟨j,u⟩:=p
       refine⟨if ok then .tuple #[u,.bool true] else u,?_,?_⟩
       ·simp[Instr.lookup,underlying,ht,Y2 hk hd,Instr.findKey,hk,hg,h3]
       ·cases ok
        ·exact h4
        ·exact two _ _ _ _ h4 rfl
   | fmap es=>
    simp only[ho] at hr
    obtain⟨_,l,clock,h1,h2,_⟩:=hs.obj id _ b ho hb
    have hg:(getObj b).run P w=.ok (.map l clock) w:=by simp[getObj,Sem.run,h1]
    cases hf:Uz str k es with
    | none=>simp[hf] at hr
    | some q=>
     simp only[hf,Ql,Qa] at hr;subst hr
     obtain⟨q',h3,h4⟩:=Su hd hkv es l.toList q 0 h2 hf
     cases q with
     | none=>
      cases q' with
      | some p=>exact h4.elim
      | none=>
       refine⟨if ok then .tuple #[z,.bool false] else z,?_,?_⟩
       ·simp[Instr.lookup,underlying,ht,Y2 hk hd,Instr.findKey,hk,hg,h3,Wc hi hz]
       ·cases ok
        ·exact hzero
        ·exact two _ _ _ _ hzero rfl
     | some v=>
      cases q' with
      | none=>exact h4.elim
      | some p=>
       obtain⟨j,u⟩:=p
       refine⟨if ok then .tuple #[u,.bool true] else u,?_,?_⟩
       ·simp[Instr.lookup,underlying,ht,Y2 hk hd,Instr.findKey,hk,hg,h3]
       ·cases ok
        ·exact h4
        ·exact two _ _ _ _ h4 rfl
theorem putA_sound{str:Bool}{d:TypeDesc}{k v:AV}{vk vv:Value}(hd:Uj str d)(hk:Rv E w k vk)(hv:Rv E w v vv):∀(es es':List (AV × AV)) (l:List MapEntry) (i:Nat),RvEs E w es l->putA str k v es=some es' ->
  (Instr.findNow d vk l i=some none/\∀ clock,RvEs E w es' (l++[{ key:=vk,val:=vv,born:=clock }])) ∨
  (∃ j u old,Instr.findNow d vk l i=some (some (i+j,u))/\l[j]?=some old/\Instr.sameBits 10000 old.key vk=true/\RvEs E w es' (l.set j { old with key:=vk,val:=vv }))
 | [],es',l,i,hl,h=>by
  cases hl;simp only[putA,Qa] at h;subst h
  exact .inl ⟨rfl,fun clock=>⟨_,_,rfl,hk,hv,rfl⟩⟩
 | (x,u)::es,es',_,i,⟨e,l,rfl,h1,h2,h3⟩,h=>by
  simp only[putA] at h
  cases hq:KO str k x with
  | none=>simp[hq] at h
  | some b=>
   have hs:=keyEq_sound hd hk h1 hq
   cases b with
   | true=>
    simp only[hq,Qa] at h;subst h
    exact .inr ⟨0,e.val,e,by simp[Instr.findNow,hs],rfl,sameBits_of hk h1 hq 10000,⟨_,_,rfl,hk,hv,h3⟩⟩
   | false=>
    simp only[hq] at h
    cases hp:putA str k v es with
    | none=>simp[hp] at h
    | some es1=>
     simp only[hp,Ql,Qa] at h;subst h
     rcases putA_sound hd hk hv es es1 l (i+1) h3 hp with⟨h4,h5⟩|⟨j,u',old,h4,h5,h6,h7⟩
     ·exact .inl ⟨by simp[Instr.findNow,hs,h4],fun clock=>⟨_,_,rfl,h1,h2,h5 clock⟩⟩
     ·refine .inr ⟨j+1,u',old,?_,by simpa using h5,h6,⟨_,_,rfl,h1,h2,h7⟩⟩
      simp only[Instr.findNow,hs,h4]
      rw[show i+1+j=i+(j+1) by omega]
theorem stamp_push{l:Array MapEntry}{c:Nat}(h:Je l c)(vk vv:Value):Je (l.push { key:=vk,val:=vv,born:=c }) (c+1):=by
 refine⟨fun x hx=>?_,?_⟩
 ·simp only[Array.toList_push,QV,Xd] at hx
  rcases hx with hx | rfl
  ·have:=h.1 x hx;omega
  ·exact Nat.lt_succ_self _
 ·simp only[Array.toList_push,QQ,Q4,QZ]
  rw[QS]
  refine⟨h.2,by simp,fun a ha b hb=>?_⟩
  simp only[Q6,Xd] at ha hb
  obtain⟨x,hx,rfl⟩:=ha
  have:=h.1 x hx;omega
theorem stamp_modify{l:Array MapEntry}{c:Nat}(h:Je l c)(j:Nat)(vk vv:Value):Je (l.modify j fun e=>{ e with key:=vk,val:=vv }) c:=by
 have hm:(l.modify j fun e=>{ e with key:=vk,val:=vv }).toList.map (·.born)=l.toList.map (·.born):=by
  apply Zn
  intro q
  simp only[Array.toList_modify,Q5,List.getElem?_modify]
  by_cases hq:j=q
  ·subst hq;cases l.toList[j]?<;>simp
  ·simp[hq]
 refine⟨fun x hx=>?_,by rw[hm];exact h.2⟩
 have:x.born∈(l.modify j fun e=>{ e with key:=vk,val:=vv }).toList.map (·.born):=List.mem_map_of_mem hx
 rw[hm] at this
 obtain⟨y,hy,he⟩:=Q6.1 this
 rw[<-he];exact h.1 y hy
theorem mapupA_sound{t kt et:TypeId}{d:TypeDesc}{m k v:AV}{str:Bool}{vm vk vv:Value}{st':St}(ht:P.underlying t=some (.map kt et))(hk:P.underlying kt=some d)(hd:Uj str d)
  (hs:Sat E st w) (hm:Rv E w m vm) (hkv:Rv E w k vk) (hv:Rv E w v vv) (hr:Tw str st m k v=some st'):
  ∃ w',(Instr.mapUpdate t vm vk vv).run P w=.ok () w'/\Sat E st' w'/\Ext E w E w':=by
 cases m<;>simp only[Tw,reduceCtorEq] at hr
 obtain⟨b,hb,rfl⟩:=hm
 rename_i id
 cases ho:st.get id with
 | none=>simp[ho] at hr
 | some o=>
  cases o with
  | loop s=>simp[ho] at hr
  | row _=>simp[ho] at hr
  | fro _=>simp[ho] at hr
  | fmap _=>simp[ho] at hr
  | iter _ _=>simp[ho] at hr
  | map es=>
   simp only[ho] at hr
   obtain⟨l,clock,h1,h2,hst⟩:=hs.obj id _ b ho hb
   have hlt:b < w.heap.size:=(Qv.1 h1).1
   have hg:(getObj b).run P w=.ok (.map l clock) w:=by simp[getObj,Sem.run,h1]
   have hset:∀(l':Array MapEntry) (c':Nat),(setObj b (.map l' c')).run P w=.ok () { w with heap:=w.heap.setIfInBounds b (.map l' c') }:=fun l' c'=>by simp[setObj,Sem.run,h1]
   have hsat:∀(l':Array MapEntry) (c':Nat) (es':List (AV × AV)),RvEs E w es' l'.toList->Je l' c' ->
     Sat E (st.put id (.map es')) { w with heap:=w.heap.setIfInBounds b (.map l' c') }/\Ext E w E { w with heap:=w.heap.setIfInBounds b (.map l' c') }:=fun l' c' es' he hst'=>by
    refine Sat.write hs id b (.map es) (.map es') ho rfl hb (fun j hj=>?_) (by simp) (fun s hs'=>?_) rfl rfl rfl rfl fun hx=>⟨l',c',by simp[hlt],RvEs.mono hx.toExt0 _ _ he,hst'⟩
    ·show (w.heap.setIfInBounds b _)[j]?=_
     rw[Zv (by omega)]
    ·unfold World.shape? at hs';rw[h1] at hs';simp at hs'
   cases hp:putA str k v es with
   | none=>simp[hp] at hr
   | some es'=>
    simp only[hp,Ql,Qa] at hr;subst hr
    rcases putA_sound hd hkv hv es es' l.toList 0 h2 hp with⟨h4,h5⟩|⟨j,u,old,h4,h5,h6,h7⟩
    ·obtain⟨q1,q2⟩:=hsat (l.push { key:=vk,val:=vv,born:=clock }) (clock+1) es' (by simpa using h5 clock) (stamp_push hst _ _)
     refine⟨_,?_,q1,q2⟩
     simp[Instr.mapUpdate,underlying,ht,hg,Y2 hk hd,Instr.findKey,hk,h4,hset]
    ·have h5':l[j]?=some old:=by simpa using h5
     have hj:j < l.size:=(Qv.1 h5').1
     have hmod:(l.modify j fun e=>{ e with key:=vk,val:=vv }).toList=l.toList.set j { old with key:=vk,val:=vv }:=by
      rw[Array.toList_modify]
      apply Zn
      intro q
      rw[List.getElem?_modify,List.getElem?_set]
      by_cases hq:j=q
      ·subst hq;simp only[Qm,h5,hj,Xm];rfl
      ·simp[hq]
     obtain⟨q1,q2⟩:=hsat (l.modify j fun e=>{ e with key:=vk,val:=vv }) clock es' (by rw[hmod];exact h7) (stamp_modify hst j _ _)
     refine⟨_,?_,q1,q2⟩
     simp[Instr.mapUpdate,underlying,ht,hg,Y2 hk hd,Instr.findKey,hk,h4,hset,h5',Instr.keyThatStays,h6]
end
end Go.AM
namespace Go.AM
section
variable {E:Env} {st:St} {w:World} {P:Program}
theorem J0(zs:List AV):∀ n,(Yl zs n).length=n*zs.length
 | 0=>by simp[Yl]
 | n+1=>by simp[Yl,J0 zs n,Xv];omega
theorem zrep_get(zs:List AV):∀(n j:Nat),j < n*zs.length->(Yl zs n)[j]?=zs[j % zs.length]?
 | 0,j,h=>by simp at h
 | n+1,j,h=>by
  simp only[Yl]
  by_cases hj:j < zs.length
  ·rw[Xk hj,Ze hj]
  ·rw[Xg (by omega)]
   rw[Xv,Nat.one_mul] at h
   rw[zrep_get zs n (j - zs.length) (by omega)]
   rw[show j % zs.length=(j - zs.length) % zs.length from Nat.mod_eq_sub_mod (by omega)]
theorem UM{zs:List AV}{z:Array Value}(hz:RvL E w zs z.toList)(n:Nat):RvL E w (Yl zs n) (madeCells z (n*z.size)).toList:=by
 have hl:=hz.length
 simp only[Xm] at hl
 refine RvL.of_get (by rw[J0,hl];simp[madeCells]) fun j c v h1 h2=>?_
 have hj:j < n*zs.length:=by rw[<-J0];exact(Qt.1 h1).1
 rw[zrep_get zs n j hj] at h1
 obtain⟨u,h3,h4⟩:=hz.get _ h1
 have hlt:j % zs.length < z.size:=by rw[<-hl];exact(Qt.1 h1).1
 have:v=u:=by
  have hj':j < n*z.size:=by rw[<-hl];exact hj
  simp only[madeCells,ZT,Array.toList_range,Q5,List.getElem?_range hj',Ql,Qa] at h2
  rw[<-h2,<-hl,getElem!_pos z _ hlt]
  have h3':z[j % zs.length]?=some u:=by simpa using h3
  rw[QM hlt] at h3'
  injection h3'
 rw[this];exact h4
theorem msliceA_sound{t e:TypeId}{i:TypeInfo}{z:Value}{zs:List AV}{l c r:AV}{vl vc:Value}{st':St}(ht:P.underlying t=some (.slice e))(hi:P.info? e=some i)(hz:i.zero=some z)
  (hzs:∀ E w,RvL E w zs z.cells.toList) (hs:Sat E st w) (hl:Rv E w l vl) (hc:Rv E w c vc) (hr:msliceA i.bytes i.size zs st l c=some (r,st')):
  ∃ q w' E',(Instr.makeSlice t vl vc).run P w=.ok q w'/\Ext E w E' w'/\Sat E' st' w'/\Rv E' w' r q:=by
 unfold msliceA at hr
 split at hr<;>try (simp only[reduceCtorEq] at hr;done)
 rename_i kl nl kc nc
 have hl:vl=.int kl (nl:Int):=hl
 have hc:vc=.int kc (nc:Int):=hc
 subst hl;subst hc
 cases hcond:(nl.ble nc&&(i.bytes*nc).ble 140737488355328&&nc.ble 140737488355328&&zs.length.beq i.size)
 ·simp[hcond] at hr
 ·simp only[hcond,Qi,Qa,Q2] at hr
  obtain⟨rfl,rfl⟩:=hr
  simp only[Qd] at hcond
  have c1:=Qk hcond.1.1.1
  have c2:=Qk hcond.1.1.2
  have c3:=Qk hcond.1.2
  have c4:=Qj hcond.2
  have hzl:=(hzs E w).length
  simp only[Xm] at hzl
  have hb:(i.bytes:Int)*(nc:Int)<=281474976710656:=by
   have h:((i.bytes*nc:Nat):Int)<=281474976710656:=by omega
   rwa [Zx] at h
  have hrun:=run_make (P:=P) w t e i z ht hi hz kl kc nl nc (by omega) (by omega) hb (by omega)
  simp only[Int.toNat_natCast] at hrun
  have hsz:i.size=z.cells.size:=by omega
  obtain⟨h1,h2⟩:=hs.alloc (.cells (madeCells z.cells (nc*i.size)) e) (.row (Yl zs nc)) fun E' hx=>⟨⟨_,e,(0,0),Vz w _,by
    rw[J0,size_madeCells,c4];exact Qw _,.inl rfl⟩,
   V3.new (by rw[hsz];exact UM (hzs _ _) nc) (Vz w _)⟩
  refine⟨_,_,_,hrun,h2,h1,w.heap.size,nc,e,_,by simp[Env.link],rfl,c1,by simp,Yn w _ e (0,0),?_,X3 _⟩
  rw[size_madeCells];simp
theorem mslice_link_sound{t e:TypeId}{i:TypeInfo}{z:Value}{zs:List AV}{id nl nc:Nat}{kl kc:IntKind}(ht:P.underlying t=some (.slice e))(hi:P.info? e=some i)(hz:i.zero=some z)
  (hzs:∀ E w,RvL E w zs z.cells.toList) (hs:Sat E st w) (hid:id < st.next) (hβ:E.β id=none) (hr:¬ E.Rs id) (hg:st.get id=some (.row (Yl zs nc)))
  (hcond:(nl.ble nc&&(i.bytes*nc).ble 140737488355328&&nc.ble 140737488355328&&zs.length.beq i.size)=true):
  ∃ q w',(Instr.makeSlice t (.int kl (nl:Int)) (.int kc (nc:Int))).run P w=.ok q w'/\Ext E w (E.link id w.heap.size) w'/\Sat (E.link id w.heap.size) st w'/\Rv (E.link id w.heap.size) w' (.own id 0 nl i.size (some nc) 0) q:=by
 simp only[Qd] at hcond
 have c1:=Qk hcond.1.1.1
 have c2:=Qk hcond.1.1.2
 have c3:=Qk hcond.1.2
 have c4:=Qj hcond.2
 have hzl:=(hzs E w).length
 simp only[Xm] at hzl
 have hb:(i.bytes:Int)*(nc:Int)<=281474976710656:=by
  have h:((i.bytes*nc:Nat):Int)<=281474976710656:=by omega
  rwa [Zx] at h
 have hrun:=run_make (P:=P) w t e i z ht hi hz kl kc nl nc (by omega) (by omega) hb (by omega)
 simp only[Int.toNat_natCast] at hrun
 have hsz:i.size=z.cells.size:=by omega
 obtain⟨h1,h2⟩:=hs.link (.cells (madeCells z.cells (nc*i.size)) e) id (.row (Yl zs nc)) hid hβ hr hg fun E' hx=>⟨⟨_,e,(0,0),Vz w _,by
   rw[J0,size_madeCells,c4];exact Qw _,.inl rfl⟩,
  V3.new (by rw[hsz];exact UM (hzs _ _) nc) (Vz w _)⟩
 refine⟨_,_,hrun,h2,h1,w.heap.size,nc,e,_,by simp[Env.link],rfl,c1,by simp,Yn w _ e (0,0),?_,X3 _⟩
 rw[size_madeCells];simp
set_option maxHeartbeats 1000000 in
theorem appendz_fit{ts:Array TypeId}{t u ty e:TypeId}{ki k:IntKind}{i:TypeInfo}{z:Value}{base:Option Addr}{m n c:Nat}{w':World}
  (ht0:ts[0]?=some t) (ht:P.underlying t=some (.slice e)) (hi:P.info? e=some i) (hz:i.zero=some z) (hu0:ts[1]?=some u) (hu:P.underlying u=some (.int ki))
  (hzs:z.cells.size=i.size) (hb:n*i.bytes<=140737488355328) (hn:n<=140737488355328) (hfit:m+n<=c)
  (hst:(match base with | some a=>storeCells (a.add (m*i.size)) (madeCells z.cells (n*i.size)).toList | none=>pure ():Sem Unit).run P w=.ok () w'):
  (Builtin.append_ ts ty #[.slice base m c,.int k (n:Int)]).run P w=.ok (.slice base (m+n) c) w':=by
 have wn:IntKind.i64.wrap (n:Int)=n:=wrap_i64 (by omega) (by omega)
 have n1:¬((n:Int) < 0):=by omega
 have n2:¬(281474976710656 < (n:Int)*(i.bytes:Int)):=by
  have h:((n*i.bytes:Nat):Int)<=281474976710656:=by omega
  rw[Zx] at h;omega
 have hmade:Builtin.zeroCells z.cells n=madeCells z.cells (n*i.size):=by unfold Builtin.zeroCells madeCells;rw[hzs]
 by_cases h0:n*i.size=0
 ·have hm0:madeCells z.cells (n*i.size)=#[]:=by rw[h0];simp[madeCells]
  rw[hm0] at hst
  cases base with
  | none=>
   simp only[Sem.run_pure,Result.ok.injEq,true_and] at hst;subst hst
   simp[Builtin.append_,ht0,hu0,underlying,ht,hu,sizeOf,typeInfo,hi,asInt,asIntOf,wn,n1,n2,h0,hfit]
  | some a=>
   simp only at hst
   simp[Builtin.append_,ht0,hu0,underlying,ht,hu,sizeOf,typeInfo,hi,asInt,asIntOf,wn,n1,n2,h0,hfit,hst]
 ·cases base with
  | none=>
   simp only[Sem.run_pure,Result.ok.injEq,true_and] at hst;subst hst
   simp[Builtin.append_,ht0,hu0,underlying,ht,hu,sizeOf,typeInfo,zeroValue,hz,hi,asInt,asIntOf,wn,n1,n2,h0,hfit]
  | some a=>
   simp only at hst
   simp[Builtin.append_,ht0,hu0,underlying,ht,hu,sizeOf,typeInfo,zeroValue,hz,hi,asInt,asIntOf,wn,n1,n2,h0,hfit,hmade,hst]
set_option maxHeartbeats 1000000 in
theorem appendz_grow{ts:Array TypeId}{t u ty e:TypeId}{ki k:IntKind}{i:TypeInfo}{z:Value}{base:Option Addr}{m n c:Nat}{old:Array Value}
  (ht0:ts[0]?=some t) (ht:P.underlying t=some (.slice e)) (hi:P.info? e=some i) (hz:i.zero=some z) (hu0:ts[1]?=some u) (hu:P.underlying u=some (.int ki))
  (hzs:z.cells.size=i.size) (hb:n*i.bytes<=140737488355328) (hn:n<=140737488355328) (hfo:(Builtin.firstCells i.size m (.slice base m c)).run P w.drew=.ok old w.drew)
  (hfit:¬(m+n<=c)) (h63:((m+n:Nat):Int)<=9223372036854775807) (h48:Builtin.nextslicecap (m+n) c*i.bytes<=281474976710656):
  (Builtin.append_ ts ty #[.slice base m c,.int k (n:Int)]).run P w=.ok (.slice (some ⟨w.heap.size,0,none⟩) (m+n) (grownCap w (m+n) c e))
   (w.drew.alloc (.cells (old++madeCells z.cells (n*i.size)++Builtin.zeroCells z.cells (grownCap w (m+n) c e - (m+n))) e)):=by
 have wn:IntKind.i64.wrap (n:Int)=n:=wrap_i64 (by omega) (by omega)
 have n1:¬((n:Int) < 0):=by omega
 have n2:¬(281474976710656 < (n:Int)*(i.bytes:Int)):=by
  have h:((n*i.bytes:Nat):Int)<=281474976710656:=by omega
  rw[Zx] at h;omega
 have hmade:Builtin.zeroCells z.cells n=madeCells z.cells (n*i.size):=by unfold Builtin.zeroCells madeCells;rw[hzs]
 have h63':¬(9223372036854775807 < ((m:Int)+(n:Int))):=by omega
 have h48':¬(281474976710656 < Builtin.nextslicecap (m+n) c*i.bytes):=by omega
 have e63:IntKind.i64.max=9223372036854775807:=by decide
 by_cases h0:n*i.size=0
 ·have hm0:madeCells z.cells (n*i.size)=#[]:=by rw[h0];simp[madeCells]
  rw[hm0]
  simp[Builtin.append_,ht0,hu0,underlying,ht,hu,sizeOf,typeInfo,zeroValue,hz,hi,asInt,asIntOf,wn,n1,n2,h0,hfo,hfit,h63',h48',e63,Question.forced,newRow,grownCap]
 ·simp[Builtin.append_,ht0,hu0,underlying,ht,hu,sizeOf,typeInfo,zeroValue,hz,hi,asInt,asIntOf,wn,n1,n2,h0,hmade,hfo,hfit,h63',h48',e63,Question.forced,newRow,grownCap]
theorem appendzA_sound{ts:Array TypeId}{t u ty e:TypeId}{ki:IntKind}{i:TypeInfo}{z:Value}{x k r:AV}{zs:List AV}{vx vk:Value}{st':St}
  (ht0:ts[0]?=some t) (ht:P.underlying t=some (.slice e)) (hi:P.info? e=some i) (hz:i.zero=some z) (hu0:ts[1]?=some u) (hu:P.underlying u=some (.int ki))
  (hzs:∀ E w,RvL E w zs z.cells.toList) (hs:Sat E st w) (hx:Rv E w x vx) (hk:Rv E w k vk) (hr:appendzA i.bytes i.size zs st x k=some (r,st')):
  ∃ q w' E',(Builtin.append_ ts ty #[vx,vk]).run P w=.ok q w'/\Ext E w E' w'/\Sat E' st' w'/\Rv E' w' r q:=by
 unfold appendzA at hr
 split at hr<;>try (simp only[reduceCtorEq] at hr;done)
 rename_i kk n
 have hk:vk=.int kk (n:Int):=hk
 subst hk
 cases hcond:((n*i.bytes).ble 140737488355328&&n.ble 140737488355328&&zs.length.beq i.size)
 ·simp[hcond] at hr
 ·simp only[hcond,Qi] at hr
  simp only[Qd] at hcond
  have c1:=Qk hcond.1.1
  have c2:=Qk hcond.1.2
  have c3:=Qj hcond.2
  have hzl:=(hzs E w).length
  simp only[Xm] at hzl
  have hsz:z.cells.size=i.size:=by omega
  obtain⟨q,w',E',k1,k2,k3,k4,_⟩:=appendA_core (S:=fun v=>Builtin.append_ ts ty #[v,.int kk (n:Int)]) hsz hs hx
   (fun base m c w' hfit hst=>appendz_fit (P:=P) (ty:=ty) ht0 ht hi hz hu0 hu hsz c1 c2 hfit hst)
   (fun base m c ovs hfit h63 h48 hfo=>by
    have:=appendz_grow (P:=P) (w:=w) (ty:=ty) (k:=kk) ht0 ht hi hz hu0 hu hsz c1 c2 hfo hfit h63 h48
    simpa using this)
   (by have:=UM (E:=E) (w:=w) (hzs E w) n;rw[hsz] at this;exact this) (by simp[madeCells]) hr
  exact⟨q,w',E',k1,k2,k3,k4⟩
theorem content_take{sz n:Nat}{x:AV}{ys:List AV}{v:Value}(hs:Sat E st w)(hx:Rv E w x v)(hns:isStr x=false)(hc:Wd sz st x=some (n,ys))(k:Nat)(hk:k<=n):
  ∃ vs:List Value,(Builtin.lenOf v).run P w=.ok n w/\(Builtin.firstCells sz k v).run P w=.ok vs.toArray w/\RvL E w (ys.take (k*sz)) vs/\vs.length=k*sz:=by
 have hkn:k*sz<=n*sz:=XL _ hk
 have mem:∀(a:Addr) (c:Nat) (ds:List AV),v=.slice (some a) n c->V3 E w a 0 ds->ds.length=n*sz->ds=ys ->
   ∃ vs:List Value,(Builtin.lenOf v).run P w=.ok n w/\(Builtin.firstCells sz k v).run P w=.ok vs.toArray w/\RvL E w (ys.take (k*sz)) vs/\vs.length=k*sz:=fun a c ds hv hm hl he=>by
  subst hv;subst he
  obtain⟨vs,h1,h2⟩:=(hm.take (k*sz)).vals
  have hlen:vs.length=k*sz:=by rw[<-h1.length,Xl];omega
  refine⟨vs,rfl,?_,h1,hlen⟩
  have:=JQ (P:=P) (w:=w) rfl h2
  rw[hlen] at this
  simpa [Builtin.firstCells] using this
 cases x<;>simp only[Wd,reduceCtorEq] at hc
 ·simp[isStr] at hns
 ·have hx:v=.slice none 0 0:=hx
  subst hx
  simp only[Qa,Q2] at hc
  obtain⟨rfl,rfl⟩:=hc
  obtain rfl:k=0:=by omega
  exact⟨[],rfl,by simp[Builtin.firstCells],by simp[RvL],by simp⟩
 ·rename_i m cs ex
  obtain⟨a,cap,rfl,h1,h2,h3,h4⟩:=hx
  cases hb:(m*sz).ble cs.length
  ·simp[hb] at hc
  ·simp only[hb,Qi,Qa,Q2] at hc
   obtain⟨rfl,rfl⟩:=hc
   have:=Qk hb
   exact mem a cap _ rfl (h4.take _) (by simp;omega) rfl
 ·rename_i id off m s cap lo
  obtain⟨b,c,e',mm,h0,rfl,h1,h2,h3,h4⟩:=hx
  cases ho:st.get id with
  | none=>simp[ho] at hc
  | some o=>
   have key:∀ cs,st.get id=some (.row cs)\/st.get id=some (.fro cs)->(bif s.beq sz&&(off+m*sz).ble cs.length then some (m,(cs.drop off).take (m*sz)) else none)=some (n,ys) ->
     ∃ vs:List Value,(Builtin.lenOf (.slice (some ⟨b,off,none⟩) m c)).run P w=.ok n w/\(Builtin.firstCells sz k (.slice (some ⟨b,off,none⟩) m c)).run P w=.ok vs.toArray w/\RvL E w (ys.take (k*sz)) vs/\vs.length=k*sz:=fun cs hg hc=>by
    cases hb:s.beq sz&&(off+m*sz).ble cs.length
    ·simp[hb] at hc
    ·simp only[hb,Qi,Qa,Q2] at hc
     obtain⟨rfl,rfl⟩:=hc
     simp only[Qd] at hb
     have:=Qk hb.2
     exact mem ⟨b,off,none⟩ c _ rfl ((row_at hs h0 hg).take _) (by simp;omega) rfl
   cases o with
   | loop s=>simp[ho] at hc
   | row cs=>simp only[ho] at hc;exact key cs (.inl ho) hc
   | fro cs=>simp only[ho] at hc;exact key cs (.inr ho) hc
   | map es=>simp[ho] at hc
   | fmap es=>simp[ho] at hc
   | iter m ks=>simp[ho] at hc
theorem copyA_sound{ts:Array TypeId}{t ty e:TypeId}{i:TypeInfo}{x y r:AV}{vx vy:Value}{st':St}(ht0:ts[0]?=some t)(ht:P.underlying t=some (.slice e))(hi:P.info? e=some i)
  (hs:Sat E st w) (hx:Rv E w x vx) (hy:Rv E w y vy) (hr:copyA i.size st x y=some (r,st')):
  ∃ q w' E',(Builtin.copy_ ts ty #[vx,vy]).run P w=.ok q w'/\Ext E w E' w'/\Sat E' st' w'/\Rv E' w' r q:=by
 unfold copyA at hr
 cases hstr:isStr y
 ·simp only[hstr,Qq,Qh] at hr
  obtain⟨⟨n,ys⟩,hcont,hr⟩:=hr
  cases x<;>try (simp only[reduceCtorEq] at hr;done)
  rename_i id off m s cap lo
  obtain⟨b,c,e',mm,h0,rfl,h1,h2,h3,h4⟩:=hx
  simp only at hr
  cases ho:st.get id with
  | none=>simp[ho] at hr
  | some o=>
   cases o with
   | loop s=>simp[ho] at hr
   | fro cs=>simp[ho] at hr
   | map es=>simp[ho] at hr
   | fmap es=>simp[ho] at hr
   | iter m ks=>simp[ho] at hr
   | row cs=>
    simp only[ho] at hr
    cases hcond:(s.beq i.size&&off.ble cs.length&&(ys.take (Nat.min n m*i.size)).all AV.one)
    ·simp[hcond] at hr
    ·simp only[hcond,Qi,Qa,Q2] at hr
     obtain⟨rfl,rfl⟩:=hr
     simp only[Qd] at hcond
     have c2:=Qk hcond.1.2
     obtain⟨vs,k1,k2,k3,k4⟩:=content_take (P:=P) hs hy hstr hcont (Nat.min n m) (Nat.min_le_left _ _)
     have hlen:(ys.take (Nat.min n m*i.size)).length=Nat.min n m*i.size:=by rw[k3.length];exact k4
     have es:=Qj hcond.1.1
     obtain⟨w',r1,r2,r3⟩:=write_row2 (P:=P) (off:=off) hs ho h0 k3 c2 (.inr ⟨e',mm,h3,by
      rw[hlen]
      have:Nat.min n m*i.size<=c*i.size:=XL _ (by have hmn:Nat.min n m<=m:=Nat.min_le_right n m;omega)
      rw[es] at h4
      omega⟩) (k3.one hcond.2)
     refine⟨goInt (Nat.min n m:Nat),w',E,?_,r3,r2,rfl⟩
     simp only[Builtin.copy_,ht0,List.getElem?_toArray,Q0,QE,Sem.run_bind,underlying,run_program,Result.andThen,ht,Sem.run_pure,VW hi,k1,k2,r1]
 ·simp[hstr] at hr
end
end Go.AM
namespace Go.AM
section
variable {E:Env} {st:St} {w:World} {P:Program}
theorem s2bA_sound{s t e:TypeId}{x r:AV}{v:Value}{st':St}(hs':P.underlying s=some .string)(ht:P.underlying t=some (.slice e))(he:P.underlying e=some (.int .u8))(hne:e≠Uf)
  (hs:Sat E st w) (hx:Rv E w x v) (hr:s2bA st x=some (r,st')):∃ q w' E',(convert s t v).run P w=.ok q w'/\Ext E w E' w'/\Sat E' st' w'/\Rv E' w' r q:=by
 cases x<;>simp only[s2bA,reduceCtorEq] at hr
 rename_i l
 obtain⟨b,rfl,hl⟩:=hx
 simp only[Qa,Q2] at hr
 obtain⟨rfl,rfl⟩:=hr
 have hrun:=run_bytes_of_string (P:=P) w s t e b hs' ht he
 have hlen:l.length=b.size:=by rw[<-hl];simp
 have hcap:=grownCap_ge w b.size 0 e
 have hsz:(bytesRow b (grownCap w b.size 0 e)).size=grownCap w b.size 0 e:=by
  have:b.data.size=b.size:=rfl
  simp[bytesRow,this];omega
 obtain⟨hs1,hx1⟩:=hs.drew
 have hv:RvL E w (l.map fun b=>AV.int .u8 (.ofNat b)) (b.data.toList.map fun c=>Value.int .u8 c.toNat):=by
  rw[<-hl,Xq]
  exact RvL.of_get (by simp) fun j c v h1 h2=>by
   simp only[Q5] at h1 h2
   cases hj:b.data.toList[j]? with
   | none=>simp[hj] at h1
   | some q=>
    simp only[hj,Ql,Qa,Function.comp] at h1 h2
    subst h1;subst h2;rfl
 obtain⟨hs2,hx2⟩:=hs1.alloc (.cells (bytesRow b (grownCap w b.size 0 e)) e ((bytesRow b (grownCap w b.size 0 e)).size,(bytesRow b (grownCap w b.size 0 e)).size+1)) (.row (l.map fun b=>.int .u8 (.ofNat b)))
  fun E' hx'=>⟨⟨_,e,_,Vz w.drew _,by rw[hsz,Qu,hlen];exact hcap,.inr ⟨Qw _,hne⟩⟩,
   V3.new_prefix (RvL.mono (hx1.trans hx') _ _ hv) (Vz w.drew _) fun j v hj=>by
    have hlt:=(Qt.1 hj).1
    simp only[Qu,Xm] at hlt
    unfold bytesRow
    rw[Zg (by simpa using hlt)]
    simpa using hj⟩
 refine⟨_,_,_,hrun,hx1.trans hx2,hs2,w.heap.size,grownCap w b.size 0 e,e,_,by simp[Env.link],by rw[hlen],by rw[hlen];exact hcap,by simp,Yn w.drew _ e _,?_,by rw[hlen];exact hcap⟩
 rw[hsz];simp
theorem foldl_push(ns:List Int):∀(s:ByteArray),(ns.foldl (fun r n=>r.push (UInt8.ofNat n.toNat)) s).data.toList=s.data.toList++ns.map fun n=>UInt8.ofNat n.toNat:=by
 induction ns with
 | nil=>intro s;simp
 | cons n ns ih=>
  intro s
  rw[Xt,ih]
  have:(s.push (UInt8.ofNat n.toNat)).data.toList=s.data.toList++[UInt8.ofNat n.toNat]:=by
   cases s;simp[ByteArray.push]
  rw[this];simp
theorem bytesA_sound:∀{ys:List AV} {vs:List Value} {l:List Nat},RvL E w ys vs->Uc ys=some l->vs=(l.map fun (b:Nat)=>(b:Int)).map (Value.int .u8)/\∀ b∈l,b < 256
 | [],vs,l,hv,h=>by
  cases hv;simp only[Uc,Qa] at h;subst h;simp
 | y::ys,_,l,⟨x,xs,rfl,h1,h2⟩,h=>by
  simp only[Uc,Qh,Qf] at h
  obtain⟨b,hb,l',hl,rfl⟩:=h
  obtain⟨h3,h4⟩:=bytesA_sound h2 hl
  unfold byteA at hb
  split at hb<;>try (simp only[reduceCtorEq] at hb;done)
  rename_i c
  cases hc:(c+1).ble 256
  ·simp[hc] at hb
  ·simp only[hc,Qi,Qa] at hb;subst hb
   have h1:x=.int .u8 (c:Int):=h1
   subst h1;subst h3
   have:=Qk hc
   refine⟨rfl,fun b hb=>?_⟩
   rcases Qx.1 hb with rfl | hb
   ·omega
   ·exact h4 b hb
theorem b2sA_sound{s t e:TypeId}{x r:AV}{v:Value}(hs':P.underlying s=some (.slice e))(ht:P.underlying t=some .string)(he:P.underlying e=some (.int .u8))
  (hs:Sat E st w) (hx:Rv E w x v) (hr:b2sA st x=some r):∃ u,(convert s t v).run P w=.ok u w/\Rv E w r u:=by
 unfold b2sA at hr
 cases hstr:isStr x
 ·simp only[hstr,Qq,Qh,Qf] at hr
  obtain⟨⟨n,ys⟩,hc,l,hl,rfl⟩:=hr
  obtain⟨vs,k1,k2,k3,k4⟩:=S8 (P:=P) hs hx hc
  obtain⟨h3,h4⟩:=bytesA_sound k3 hl
  have fin:∀(b:ByteArray),b.data.toList=l.map (fun (n:Nat)=>UInt8.ofNat n)->Rv E w (.str l) (.string b):=fun b hb=>by
   refine⟨b,rfl,?_⟩
   rw[hb,Xq]
   have:∀ q∈l,((fun x:UInt8=>x.toNat) ∘ fun n=>UInt8.ofNat n) q=q:=fun q hq=>by
    simp[Ze (h4 q hq)]
   rw[QX this];simp
  have slice:∀(a:Option Addr) (m c:Nat),v=.slice a m c->m=n->∃ u,(convert s t v).run P w=.ok u w/\Rv E w (.str l) u:=fun a m c hv hm=>by
   subst hv;subst hm
   rw[run_convert_bytes_string (P:=P) w s t e a m c hs' he ht]
   cases a with
   | none=>
    have:=k2 w rfl
    simp[Builtin.firstCells] at this
    have hnil:vs=[]:=by simpa using this.symm
    subst hnil
    have:l=[]:=by
     cases l with
     | nil=>rfl
     | cons _ _=>simp at h3
    subst this
    exact⟨.string .empty,by simp[Conv.bytesToString],fin _ (by simp)⟩
   | some a=>
    have h5:=k2 w rfl
    simp only[Builtin.firstCells,XP] at h5
    rw[h3] at h5
    refine⟨_,run_bytesToString (P:=P) w a m c _ h5,fin _ ?_⟩
    rw[foldl_push]
    simp[Xq,Function.comp]
  have k1':=k1 w
  cases x<;>simp only[Wd,reduceCtorEq] at hc
  ·simp[isStr] at hstr
  ·have hx:v=.slice none 0 0:=hx
   simp only[Qa,Q2] at hc
   exact slice _ _ _ hx hc.1
  ·obtain⟨a,cap,hv,_⟩:=hx
   subst hv
   simp only[Builtin.lenOf,Sem.run_pure,Result.ok.injEq] at k1'
   exact slice _ _ _ rfl k1'.1
  ·obtain⟨b,c,e',mm,h0,hv,_⟩:=hx
   subst hv
   simp only[Builtin.lenOf,Sem.run_pure,Result.ok.injEq] at k1'
   exact slice _ _ _ rfl k1'.1
 ·simp[hstr] at hr
end
end Go.AM
namespace Go.AM
section
variable {E:Env} {st:St} {w:World} {P:Program}
theorem eqPtrA_sound{op:BinOp}{x y r:AV}{vx vy:Value}{t:TypeId}{d:TypeDesc}{c:Nat}{X Y:Operand}(hd:P.underlying t=some d)(hc:Yy d=some c)
  (hop:op=.eql\/op=.neq) (hz:∀ q,d=.pointer q->∃ i,P.info? q=some i/\i.size≠0) (hx:Rv E w x vx) (hy:Rv E w y vy) (hr:eqPtrA c op x y=some r):∃ u,(do eqGuard op t X Y vx vy;binOp op t vx vy:Sem Value).run P w=.ok u w/\Rv E w r u:=by
 unfold eqPtrA at hr
 split at hr<;>try (simp only[reduceCtorEq] at hr;done)
 rename_i i n j m
 cases hcond:(c.beq 0&&i.beq j)
 ·simp[hcond] at hr
 ·simp only[hcond,Qi] at hr
  simp only[Qd] at hcond
  have h0:=Qj hcond.1
  have hij:=Qj hcond.2
  subst h0;subst hij
  obtain⟨b,hb,rfl⟩:=hx
  obtain⟨b',hb',rfl⟩:=hy
  rw[hb] at hb';injection hb' with hb';subst hb'
  have hg:(eqGuard op t X Y (.pointer (some ⟨b,n,none⟩)) (.pointer (some ⟨b,m,none⟩))).run P w=.ok () w:=by
   unfold eqGuard
   rcases hop with rfl | rfl<;>simp
  have hq':∀ k,(Op.equalIn (k+1) t (.pointer (some ⟨b,n,none⟩)) (.pointer (some ⟨b,m,none⟩))).run P w=.ok (n.beq m==true) w:=fun k=>by
   simp only[Op.equalIn,underlying,Sem.run_bind,run_program,Result.andThen,hd]
   cases d<;>simp[Yy] at hc
   rename_i q
   obtain⟨i',hi,h0⟩:=hz q rfl
   have hsz:(sizeOf q).run P w=.ok i'.size w:=VW hi
   by_cases hnm:n=m
   ·subst hnm;simp[hsz,h0,sameAddr]
   ·have hb:n.beq m=false:=by
     cases h:n.beq m
     ·rfl
     ·exact absurd (Qj h) hnm
    have ha:((⟨b,n,none⟩:Addr)==⟨b,m,none⟩)=false:=by
     rw[beq_eq_false_iff_ne]
     intro h;injection h with _ h;exact hnm h
    rw[hb]
    simp[hsz,h0,sameAddr,ha]
  have hq:(Op.equal t (.pointer (some ⟨b,n,none⟩)) (.pointer (some ⟨b,m,none⟩))).run P w=.ok (n.beq m==true) w:=hq' 9999
  simp only[Sem.run_bind,hg,Result.andThen]
  exact UF hr hq (fun h=>by subst h;rfl) (fun h=>by subst h;rfl)
theorem row_shape(hs:Sat E st w){id b:Nat}{cs:List AV}(hb:E.β id=some b)(hg:st.get id=some (.row cs)):∃ c e f,w.heap[b]?=some (.cells c e f)/\w.shape? b=some (e,c.size)/\cs.length<=c.size:=by
 obtain⟨⟨c,e,f,h1,h2,_⟩,_⟩:=hs.obj id _ b hg hb
 exact⟨c,e,f,h1,by unfold World.shape?;rw[h1],h2⟩
theorem run_seenAt{b off:Nat}{s:TypeId × Nat}(h:w.shape? b=some s):(Conv.seenAt ⟨b,off,none⟩).run P w=.ok ⟨b,off,none⟩ w:=by
 simp[Conv.seenAt,viewAt,shape,Sem.run,h]
theorem TQ{b off n s m:Nat}{u:TypeId}(h:w.shape? b=some (u,m))(hs:P.cellsOf u=s)(h0:s≠0)(h1:off % s=0)(h2:off / s+n<=m / s):(variablesAt ⟨b,off,none⟩ u n).run P w=.ok true w:=by
 have hl:liesAt P P.depth u (m / P.cellsOf u) off u n=true:=by
  have hdep:∃ d,P.depth=d+1:=⟨2*(P.types.size+Made.depth)+1,rfl⟩
  obtain⟨d,hd⟩:=hdep
  have hsame:sameLayout P P.depth u u=true:=by rw[hd];simp[sameLayout]
  rw[hd,liesAt,hd,rowAt]
  rw[hd] at hsame
  simp[hs,h0,h1,h2,hsame]
 simp[variablesAt,shape,Sem.run,h,hl]
theorem ptouA_sound{s t q:TypeId}{x r:AV}{v:Value}{i:TypeInfo}(hs':P.underlying s=some (.pointer q))(ht:P.underlying t=some .unsafePointer)(hi:P.info? q=some i)(h0:i.size≠0)
  (hs:Sat E st w) (hx:Rv E w x v) (hr:ptouA st x=some r):∃ u,(convert s t v).run P w=.ok u w/\Rv E w r u:=by
 unfold ptouA at hr
 split at hr<;>try (simp only[reduceCtorEq] at hr;done)
 ·simp only[Qa] at hr;subst hr
  have hx:v=.pointer none:=hx
  subst hx
  exact⟨_,by simp[convert,underlying,hs',ht,Conv.unsafePointer],rfl⟩
 ·rename_i id off
  split at hr<;>try (simp only[reduceCtorEq] at hr;done)
  rename_i cs hg
  cases hc:(off+1).ble cs.length
  ·simp[hc] at hr
  ·simp only[hc,Qi,Qa] at hr;subst hr
   have hc:=Qk hc
   have hx0:=hx
   obtain⟨b,hb,rfl⟩:=hx
   obtain⟨c,e,f,h1,h2,h3⟩:=row_shape hs hb hg
   have hcell:(cellsIn b).run P w=.ok (some c.size) w:=by simp[cellsIn,shape,Sem.run,h2]
   have hsz:(sizeOf q).run P w=.ok i.size w:=VW hi
   have hlt:¬(c.size<=off):=by omega
   refine⟨.pointer (some ⟨b,off,none⟩),?_,hx0⟩
   simp[convert,underlying,hs',ht,Conv.unsafePointer,run_seenAt h2,hcell,hsz,h0,hlt]
theorem utopA_sound{s t u:TypeId}{x r:AV}{v:Value}{i:TypeInfo}(hs':P.underlying s=some .unsafePointer)(ht:P.underlying t=some (.pointer u))(hi:P.info? u=some i)(h0:i.size≠0)
  (hs:Sat E st w) (hx:Rv E w x v) (hr:utopA u i.size st x=some r):∃ q,(convert s t v).run P w=.ok q w/\Rv E w r q:=by
 unfold utopA at hr
 split at hr<;>try (simp only[reduceCtorEq] at hr;done)
 ·simp only[Qa] at hr;subst hr
  have hx:v=.pointer none:=hx
  subst hx
  exact⟨_,by simp[convert,underlying,hs',ht,Conv.unsafePointer],rfl⟩
 ·rename_i id off
  split at hr<;>try (simp only[reduceCtorEq] at hr;done)
  rename_i cs t' hg hbt
  cases hc:(t'.beq u&&(off.mod i.size).beq 0&&(off.div i.size+1).ble (cs.length.div i.size))
  ·simp[hc] at hr
  ·simp only[hc,Qi,Qa] at hr;subst hr
   simp only[Qd] at hc
   have e1:=Qj hc.1.1
   have e2:off % i.size=0:=Qj hc.1.2
   have e3:off / i.size+1<=cs.length / i.size:=Qk hc.2
   subst e1
   have hx0:=hx
   obtain⟨b,hb,rfl⟩:=hx
   obtain⟨c,e,f,h1,h2,h3⟩:=row_shape hs hb hg
   obtain⟨b',m,h4,h5⟩:=hs.bt id _ hbt
   rw[hb] at h4;injection h4 with h4;subst h4
   rw[h2] at h5;injection h5 with h5;injection h5 with h5 h6;subst h5
   have hcells:P.cellsOf e=i.size:=by simp[Program.cellsOf,hi]
   have hle:cs.length / i.size<=c.size / i.size:=Nat.div_le_div_right h3
   have hv:=TQ (P:=P) (n:=1) h2 hcells h0 e2 (by omega)
   have hsz:(sizeOf e).run P w=.ok i.size w:=VW hi
   refine⟨.pointer (some ⟨b,off,none⟩),?_,hx0⟩
   simp[convert,underlying,hs',ht,Conv.unsafePointer,run_seenAt h2,hsz,h0,hv]
theorem sdatA_sound{ts:Array TypeId}{ty:TypeId}{x r:AV}{v:Value}(hx:Rv E w x v)(hr:sdatA x=some r):∃ q,(Builtin.unsafeSliceData_ ts ty #[v]).run P w=.ok q w/\Rv E w r q:=by
 unfold sdatA at hr
 split at hr<;>try (simp only[reduceCtorEq] at hr;done)
 ·simp only[Qa] at hr;subst hr
  have hx:v=.slice none 0 0:=hx
  subst hx
  exact⟨_,Lib.run_unsafeSliceData_nil w ts ty 0 0,rfl⟩
 ·rename_i id off n sz cap lo
  cases hn:n.beq 0
  ·simp only[hn,Qq,Qa] at hr;subst hr
   obtain⟨b,c,e,m,hb,rfl,h1,_⟩:=hx
   have hc:c≠0:=by
    rintro rfl
    have:n=0:=by omega
    subst this;simp at hn
   exact⟨.pointer (some ⟨b,off,none⟩),Lib.run_unsafeSliceData_row w ts ty _ n c hc,b,hb,rfl⟩
  ·simp[hn] at hr
theorem Sat.forget{w':World}(h:Sat E st w){id b:Nat}{o:AO}(hg:st.get id=some o)(hl:o.live=true)(hb:E.β id=some b)(hoth:∀ k,k≠b->w'.heap[k]?=w.heap[k]?)(hsize:w'.heap.size=w.heap.size)
  (hshape:∀ s,w.shape? b=some s->w'.shape? b=some s) (hos:w'.os=w.os) (htape:w'.tape=w.tape) (hout:w'.output=w.output):Sat E (st.del id) w'/\Ext E w E w':=by
 have hx:Ext E w E w':=⟨⟨fun _ _ h=>h,fun _ h=>h,fun k hk=>hoth k (by rintro rfl;exact h.lv id o _ hg hl hb hk),by omega,fun k s hs=>by
  by_cases hk:k=b
  ·subst hk;exact hshape s hs
  ·rw[YA (hoth k hk)];exact hs,hos,htape,hout,fun _ _=>rfl⟩,fun _ h=>h,fun _ _ h=>h⟩
 have key:∀ i o,(st.del id).get i=some o->i≠id/\st.get i=some o:=fun i o h1=>by
  rw[St.get_del] at h1
  by_cases hi:i=id
  ·rw[Qm hi] at h1;cases h1
  ·rw[Qe hi] at h1;exact⟨hi,h1⟩
 refine⟨⟨fun i c hc=>?_,fun c hc=>?_,fun i o1 c h1 h2=>?_,fun i i' o1 o2 c h1 h2=>h.sep i i' o1 o2 c (key _ _ h1).2 (key _ _ h2).2,fun i o1 c h1=>h.lv i o1 c (key _ _ h1).2,h.rs,fun c q hc=>?_,JW.mono h.bt hx.toExt0 rfl⟩,hx⟩
 ·have:=h.dom i c hc;rw[hsize];exact this
 ·have:=h.fz c hc;omega
 ·obtain⟨hi,h1⟩:=key _ _ h1
  have h3:=h.obj i o1 c h1 h2
  refine Wv.mono hx (hoth c ?_) h3
  rintro rfl
  cases o1 with
  | fro cs=>exact h.lv id o c hg hl hb h3.1
  | fmap cs=>exact h.lv id o c hg hl hb h3.1
  | row cs=>exact hi (h.sep i id _ _ _ h1 hg rfl hl h2 hb)
  | map es=>exact hi (h.sep i id _ _ _ h1 hg rfl hl h2 hb)
  | loop s=>exact hi (h.sep i id _ _ _ h1 hg rfl hl h2 hb)
  | iter m ks=>exact hi (h.sep i id _ _ _ h1 hg rfl hl h2 hb)
 ·obtain⟨h1,h2⟩:=h.dz c q hc
  refine⟨?_,h2⟩
  rw[hoth c]
  ·exact h1
  ·rintro rfl
   have h3:=h.obj id o c hg hb
   cases o with
   | fro cs=>cases hl
   | fmap cs=>cases hl
   | row cs=>obtain⟨⟨_,_,_,h4,_⟩,_⟩:=h3;rw[h1] at h4;injection h4 with h4;subst h4;exact h2.2
   | map es=>obtain⟨_,_,h4,_⟩:=h3;rw[h1] at h4;injection h4 with h4;subst h4;exact h2.2
   | loop s=>obtain⟨_,h4,_⟩:=h3;rw[h1] at h4;injection h4 with h4;subst h4;exact h2.2
   | iter m ks=>obtain⟨_,_,_,_,_,_,_,h4,_⟩:=h3;rw[h1] at h4;injection h4 with h4;subst h4;exact h2.2
theorem ST:∀(ys:List AV) (l:List Nat) (a:Addr) (acc:ByteArray),V3 E w a 0 ys->Uc ys=some l->∃ b:ByteArray,(loadBytes a acc ys.length).run P w=.ok b w/\b.data.toList.map (·.toNat)=acc.data.toList.map (·.toNat)++l
 | [],l,a,acc,_,h=>by
  simp only[Uc,Qa] at h;subst h
  exact⟨acc,by simp[loadBytes],by simp⟩
 | y::ys,l,a,acc,⟨⟨x,h1,h2⟩,h3⟩,h=>by
  simp only[Uc,Qh,Qf] at h
  obtain⟨b,hb,l',hl,rfl⟩:=h
  unfold byteA at hb
  split at hb<;>try (simp only[reduceCtorEq] at hb;done)
  rename_i c
  cases hc:(c+1).ble 256
  ·simp[hc] at hb
  ·simp only[hc,Qi,Qa] at hb;subst hb
   have hx:x=.int .u8 (c:Int):=h2
   subst hx
   have hc:=Qk hc
   have ha0:a.add 0=a:=by unfold Addr.add;simp
   rw[ha0] at h1
   have hmem:V3 E w (a.add 1) 0 ys:=V3.of_get fun j d hd=>by
    obtain⟨v,h4,h5⟩:=h3.get j hd
    exact⟨v,by rw[add_add];rw[show 1+(0+j)=0+1+j by omega];exact h4,h5⟩
   obtain⟨bs,h4,h5⟩:=ST ys l' (a.add 1) (acc.push (UInt8.ofNat c)) hmem hl
   refine⟨bs,?_,?_⟩
   ·simp only[QC,loadBytes,Sem.run_bind]
    have hload:(load a).run P w=.ok (.int .u8 (c:Int)) w:=by simp[load,Sem.run,h1]
    rw[hload]
    simp only[Result.andThen]
    simpa [Nat.toUInt8] using h4
   ·rw[h5]
    have:(acc.push (UInt8.ofNat c)).data.toList=acc.data.toList++[UInt8.ofNat c]:=by cases acc;simp[ByteArray.push]
    rw[this]
    simp[Ze (show c < 256 by omega)]
theorem T2(ts:Array TypeId)(ty:TypeId)(p:Option Addr)(vn:Value):Builtin.unsafeString_ ts ty #[.pointer p,vn]=(do
  let n <- asInt vn
  let some pt:=ts[0]? | stuck "unsafe.String: no argument types"
  if n < 0 then runtimePanic (.error "unsafe.String: len out of range")
  if n > IntKind.i64.max then unsupported (.unsafePointer "String: a length above the largest int")
  match p with
  | none=>
   if n=0 then pure (.string .empty)
   else runtimePanic (.error "unsafe.String: ptr is nil and len is not zero")
  | some a=>
   if n=0 then pure (.string .empty)
   else if <- variablesAt a (<- elemOf pt) n.toNat then do
    let s <- loadBytes a .empty n.toNat
    freeze a n.toNat
    pure (.string s)
   else unsupported (.unsafePointer "String: not so many bytes at ptr")):=by
 cases p<;>rfl
theorem ustrA_sound{ts:Array TypeId}{pt ty u:TypeId}{x n r:AV}{vx vn:Value}{st':St}{i:TypeInfo}(ht0:ts[0]?=some pt)(hpt:P.underlying pt=some (.pointer u))(hi:P.info? u=some i)(h1:i.size=1)
  (hs:Sat E st w) (hx:Rv E w x vx) (hn:Rv E w n vn) (hr:ustrA u st x n=some (r,st')):∃ q w' E',(Builtin.unsafeString_ ts ty #[vx,vn]).run P w=.ok q w'/\Ext E w E' w'/\Sat E' st' w'/\Rv E' w' r q:=by
 unfold ustrA at hr
 split at hr<;>try (simp only[reduceCtorEq] at hr;done)
 ·rename_i k
  simp only[Qa,Q2] at hr
  obtain⟨rfl,rfl⟩:=hr
  have hx:vx=.pointer none:=hx
  have hn:vn=.int k (Int.ofNat 0):=hn
  subst hx;subst hn
  refine⟨.string .empty,w,E,?_,Ext.refl _ _,hs,.empty,rfl,rfl⟩
  rw[T2]
  have hmax:IntKind.i64.max=9223372036854775807:=rfl
  simp[ht0,asInt,asIntOf,hmax]
 ·rename_i id off k n
  split at hr<;>try (simp only[reduceCtorEq] at hr;done)
  rename_i cs t hg hbt
  cases hc:(t.beq u&&(off+n).ble cs.length&&!n.beq 0&&n.ble 9223372036854775807)
  ·simp[hc] at hr
  ·simp only[hc,Qi,Qf,Q2] at hr
   obtain⟨l,hl,rfl,rfl⟩:=hr
   simp only[Qd,Xy] at hc
   have e1:=Qj hc.1.1.1
   have e2:=Qk hc.1.1.2
   have e3:n≠0:=fun e=>by have:=hc.1.2;rw[e] at this;simp at this
   have e4:=Qk hc.2
   subst e1
   obtain⟨b,hb,rfl⟩:=hx
   have hn:vn=.int k (n:Int):=hn
   subst hn
   obtain⟨c,e,f,q1,q2,q3⟩:=row_shape hs hb hg
   obtain⟨b',m,h4,h5⟩:=hs.bt id _ hbt
   rw[hb] at h4;injection h4 with h4;subst h4
   rw[q2] at h5;injection h5 with h5;injection h5 with h5 h6;subst h5
   have hcells:P.cellsOf e=1:=by simp[Program.cellsOf,hi,h1]
   have hv:=TQ (P:=P) (off:=off) (n:=n) q2 hcells (by omega) (Nat.mod_one _) (by simp;omega)
   have hobj:=(hs.obj id _ b hg hb).2
   have hmem:V3 E w ⟨b,off,none⟩ 0 ((cs.drop off).take n):=by
    have e0:(⟨b,off,none⟩:Addr)=(⟨b,0,none⟩:Addr).add off:=by rw[Wb];simp
    rw[e0];exact(hobj.at off).take n
   obtain⟨bs,k1,k2⟩:=ST (P:=P) _ l _ .empty hmem hl
   have hlen:((cs.drop off).take n).length=n:=by simp;omega
   rw[hlen] at k1
   have hlt:=(Qv.1 q1).1
   have hfz:(w.freeze ⟨b,off,none⟩ n).heap[b]?=some (.cells c e (match f with | (lo,hi)=>if lo==hi then (off,off+n) else (min lo off,max hi (off+n)))):=by
    unfold World.freeze
    rw[Qe e3]
    simp only[Zr,Xj,q1,Ql]
   have hoth:∀ j,j≠b->(w.freeze ⟨b,off,none⟩ n).heap[j]?=w.heap[j]?:=fun j hj=>by
    unfold World.freeze
    rw[Qe e3]
    simp only[Zr]
    rw[Qe (Ne.symm hj)]
   have hsz:(w.freeze ⟨b,off,none⟩ n).heap.size=w.heap.size:=by unfold World.freeze;rw[Qe e3];simp
   have hwo:(w.freeze ⟨b,off,none⟩ n).os=w.os/\(w.freeze ⟨b,off,none⟩ n).tape=w.tape/\(w.freeze ⟨b,off,none⟩ n).output=w.output:=by unfold World.freeze;rw[Qe e3];exact⟨rfl,rfl,rfl⟩
   obtain⟨r1,r2⟩:=hs.forget (w':=w.freeze ⟨b,off,none⟩ n) hg rfl hb hoth hsz (fun s h=>by
    rw[q2] at h;injection h with h;subst h
    unfold World.shape?;rw[hfz]) hwo.1 hwo.2.1 hwo.2.2
   refine⟨.string bs,w.freeze ⟨b,off,none⟩ n,E,?_,r2,r1,bs,rfl,by simpa using k2⟩
   have hel:(elemOf pt).run P w=.ok e w:=by simp[elemOf,underlying,hpt]
   have hn0:¬((n:Int) < 0):=by omega
   have hmax:IntKind.i64.max=9223372036854775807:=rfl
   have hn1:¬((9223372036854775807:Int) < (n:Int)):=by omega
   have hn2:¬((n:Int)=0):=by omega
   rw[T2]
   simp[ht0,asInt,asIntOf,hmax,hn0,hn1,e3,hel,hv,k1,freeze,Sem.run]
theorem appendA_bt{bytes sz n:Nat}{x r:AV}{ys:List AV}{st':St}(h:VX bytes sz st x n ys=some (r,st')):st'.bt=st.bt:=by
 unfold VX at h
 cases hn:n.beq 0
 ·simp only[hn,Qq] at h
  split at h<;>try (simp only[reduceCtorEq] at h;done)
  ·simp only[cond_eq_ite,Xs,Qa,Q2] at h
   rw[<-h.2.2];rfl
  ·simp only[cond_eq_ite,Xs,Qa,Q2] at h
   rw[<-h.2.2];rfl
  ·split at h<;>try (simp only[reduceCtorEq] at h;done)
   simp only[cond_eq_ite,Xs] at h
   replace h:=h.2
   split at h
   ·simp only[Xs,Qa,Q2] at h
    rw[<-h.2.2];rfl
   ·simp only[Qa,Q2] at h
    rw[<-h.2];rfl
   ·simp only[Xs,Qa,Q2] at h
    rw[<-h.2.2];rfl
 ·simp only[hn,Qi] at h
  split at h<;>simp only[Qa,Q2,reduceCtorEq] at h<;>rw[<-h.2]
theorem tagA_sound{q:Value}{E':Env}{w':World}{e:TypeId}{x r:AV}{vx:Value}{st':St}{tg:Option Nat}(hs:Sat E' st' w')(hbt:st'.bt=st.bt)(hs0:Sat E st w)(hx:Rv E w x vx)(hr:Rv E' w' r q)(ht:TagR E' w' e w vx r)(hte:∀ t,tg=some t->t=e):Sat E' (tagA tg x r st') w':=by
 unfold tagA
 split
 ·rename_i t id off n sz cap lo
  have:=hte t rfl
  subst this
  obtain⟨b,c,e',m,hb,_,_,_,h3,_⟩:=hr
  obtain⟨t',m',h4,h5⟩:=ht id off n sz cap lo rfl b hb
  split
  ·have hx:vx=.slice none 0 0:=hx
   rcases h5 with rfl|⟨a,n0,c0,m0,h5,_⟩
   ·exact hs.tag hb h4
   ·rw[hx] at h5;cases h5
  ·rename_i id0 _ _ _ _ _
   split
   ·rename_i t0 ht0
    cases hc:Nat.beq t0 t
    ·exact hs
    ·have:=Qj hc
     subst this
     simp only[Qi]
     rcases h5 with rfl|⟨a,n0,c0,m0,h5,h6⟩
     ·exact hs.tag hb h4
     ·obtain⟨b0,c1,e1,m1,hb0,hv,_⟩:=hx
      rw[hv] at h5
      injection h5 with h5 _ _
      injection h5 with h5
      subst h5
      rw[hbt] at ht0
      obtain⟨b2,m2,h7,h8⟩:=hs0.bt id0 _ ht0
      rw[hb0] at h7;injection h7 with h7;subst h7
      simp only at h6
      rw[h6] at h8;injection h8 with h8;injection h8 with h8 _
      subst h8
      exact hs.tag hb h4
   ·exact hs
  ·exact hs
 ·exact hs
end
end Go.AM
namespace Go.AM
section
variable {P:Program} {E:Env} {w:World} {st:St}
theorem Sat.freeze(h:Sat E st w){id b:Nat}{es:List (AV × AV)}(hg:st.get id=some (.map es))(hb:E.β id=some b):Sat (E.fzb b) (st.put id (.fmap es)) w/\Ext E w (E.fzb b) w:=by
 have hx:Ext E w (E.fzb b) w:=⟨⟨fun _ _ h=>h,fun _ h=>Or.inr h,fun _ _=>rfl,Qw _,fun _ _ h=>h,rfl,rfl,rfl,fun _ _=>rfl⟩,fun _ h=>h,fun _ _ h=>h⟩
 have ho:=h.obj id _ b hg hb
 have key:∀ i o,(st.put id (.fmap es)).get i=some o->(i=id/\o=.fmap es)\/(i≠id/\st.get i=some o):=fun i o h1=>by
  rw[St.get_put] at h1
  by_cases hi:i=id
  ·rw[Qm hi] at h1;injection h1 with h1;exact .inl ⟨hi,h1.symm⟩
  ·rw[Qe hi] at h1;exact .inr ⟨hi,h1⟩
 refine⟨⟨h.dom,fun c hc=>?_,fun i o c h1 h2=>?_,fun i i' o o' c h1 h2 l1 l2 b1 b2=>?_,fun i o c h1 l1 b1 hf=>?_,h.rs,fun c o hc=>?_,JW.mono h.bt hx.toExt0 rfl⟩,hx⟩
 ·rcases hc with rfl | hc
  ·exact(h.dom id _ hb).2
  ·exact h.fz c hc
 ·rcases key i o h1 with⟨rfl,rfl⟩|⟨hi,h3⟩
  ·have h2:E.β i=some c:=h2
   rw[hb] at h2;injection h2 with h2;subst h2
   obtain⟨l,c,g1,g2⟩:=Wv.mono hx rfl ho
   exact⟨.inl rfl,l,c,g1,g2⟩
  ·exact Wv.mono hx rfl (h.obj i o c h3 h2)
 ·rcases key i o h1 with⟨rfl,rfl⟩|⟨hi,h3⟩
  ·cases l1
  ·rcases key i' o' h2 with⟨rfl,rfl⟩|⟨hi',h4⟩
   ·cases l2
   ·exact h.sep i i' o o' c h3 h4 l1 l2 b1 b2
 ·rcases key i o h1 with⟨rfl,rfl⟩|⟨hi,h3⟩
  ·cases l1
  ·rcases hf with rfl | hf
   ·exact hi (h.sep i id o _ _ h3 hg l1 rfl b1 hb)
   ·exact h.lv i o c h3 l1 b1 hf
 ·obtain⟨g1,g2,g3⟩:=h.dz c o hc
  refine⟨g1,fun hf=>?_,g3⟩
  rcases hf with rfl | hf
  ·obtain⟨l,k,g4,_⟩:=ho
   rw[g1] at g4;injection g4 with g4;subst g4;exact g3
  ·exact g2 hf
theorem rngA_sound{t kt et:TypeId}{x v:AV}{vx:Value}{st':St}(ht:P.underlying t=some (.map kt et))(hs:Sat E st w)(hx:Rv E w x vx)(hr:rngA st x=some (v,st')):
  ∃ u w' E',(Instr.range t vx).run P w=.ok u w'/\Ext E w E' w'/\Sat E' st' w'/\Rv E' w' v u:=by
 have fin:∀{E1:Env} {st1:St} {id b:Nat} {es:List (AV × AV)},Ext E w E1 w->Sat E1 st1 w->st1.get id=some (.fmap es)->E1.β id=some b->st1.next=st.next ->
   ∃ u w' E',(Instr.range t (.map (some b))).run P w=.ok u w'/\Ext E w E' w'/\Sat E' (st1.new (.iter id [])) w'/\Rv E' w' (.ptr st.next 0) u:=fun {E1 st1 id b es} hx1 hs1 hg hb hn=>by
  obtain⟨hf,l,clock,h1,_,h3⟩:=hs1.obj id _ b hg hb
  obtain⟨h4,h5⟩:=hs1.alloc (.mapIter (some b) clock #[] clock) (.iter id []) fun E2 hx'=>⟨b,l,clock,clock,hx'.β _ _ hb,hx'.Fz _ hf,by rw[hx'.mem _ hf];exact h1,Vz w _,Qw _,h3.1⟩
  exact⟨_,_,_,run_range_map w t kt et b l clock ht h1,hx1.trans h5,h4,w.heap.size,by rw[<-hn];simp[Env.link],rfl⟩
 unfold rngA at hr
 cases x<;>simp only[reduceCtorEq] at hr
 obtain⟨b,hb,rfl⟩:=hx
 rename_i id
 split at hr
 ·rename_i es hg
  simp only[Qa,Q2] at hr
  obtain⟨rfl,rfl⟩:=hr
  obtain⟨h1,h2⟩:=hs.freeze hg hb
  exact fin (es:=es) h2 h1 (by simp) hb rfl
 ·rename_i es hg
  simp only[Qa,Q2] at hr
  obtain⟨rfl,rfl⟩:=hr
  exact fin (Ext.refl E w) hs hg hb rfl
 ·cases hr
theorem run_next_at(w:World)(ty:TypeId)(b bm since c0:Nat)(seen:Array Nat)(es:Array MapEntry)(clock:Nat)(hi:w.heap[b]?=some (.mapIter (some bm) since seen c0))(hb:w.heap[bm]?=some (.map es clock))(hold:∀ x∈es.toList,x.born < since)(hsc:since<=c0):
  ((leftOf es seen).size=0/\(Instr.next (.pointer (some ⟨b,0,none⟩)) false ty).run P w=.ok (.tuple #[.bool false]) w) ∨
  ∃ e∈(leftOf es seen).toList,∃ w1:World,(w1=w\/w1=w.drew)/\(Instr.next (.pointer (some ⟨b,0,none⟩)) false ty).run P w=.ok (.tuple #[.bool true,e.key,e.val]) (w1.putObj b (.mapIter (some bm) since (seen.push e.born) clock)):=by
 simp only[Instr.next,getObj,Sem.run_bind,Sem.run,hi,hb,Result.andThen,next_test_false seen es since c0 hold hsc,Q1,Xz]
 unfold leftOf
 have hmem:∀ x∈(Array.filter (fun e=>!seen.contains e.born) es).toList,x.born < since:=fun x hx=>hold x (by simp at hx ⊢;exact hx.1)
 generalize Array.filter (fun e=>!seen.contains e.born) es=L at hmem ⊢
 have e1:L.filter (fun x=>decide (x.born < since))=L:=Array.filter_eq_self.2 (fun x hx=>by simpa using hmem x (by simpa using hx))
 have e2:L.filter (fun x=>decide (x.born>=since))=#[]:=by
  rw[Array.filter_eq_empty_iff]
  intro x hx
  have:=hmem x (by simpa using hx)
  simp
  omega
 simp only[e1,e2,Array.append_empty]
 by_cases h0:L.size=0
 ·left
  have:L=#[]:=Array.eq_empty_of_size_eq_zero h0
  subst this
  refine⟨rfl,?_⟩
  simp[choose,Sem.run,Question.forced]
 ·right
  have hne:L.isEmpty=false:=by simp[Array.isEmpty,h0]
  simp only[hne,Q1,Xz,Array.empty_append,Array.size_map]
  have hch:∃ (j:Nat) (w1:World),j < L.size/\(w1=w\/w1=w.drew)/\(choose (Question.mapNext L.size)).run P w=.ok j w1:=by
   by_cases hf:L.size<=1
   ·exact⟨0,w,by omega,.inl rfl,by simp[choose,Sem.run,Question.forced,hf]⟩
   ·exact⟨_,w.drew,Nat.mod_lt _ (by omega),.inr rfl,by
     simp only[choose,Sem.run,Question.forced,QF,hf,Xz,Question.cut]
     rfl⟩
  obtain⟨j,w1,hj,hal,hrun⟩:=hch
  refine⟨L[j],by simp,w1,hal,?_⟩
  have hi1:w1.heap[b]?=some (.mapIter (some bm) since seen c0):=by rcases hal with rfl | rfl<;>exact hi
  have hset:∀ o':Obj,(setObj b o').run P w1=.ok () (w1.putObj b o'):=fun o'=>by
   simp only[setObj,Sem.run,hi1];rfl
  simp only[hrun,Array.getElem?_map,QM hj,Ql,Sem.run_bind,hset,Result.andThen]
  rfl
theorem run_entry_at(w:World)(b bm since:Nat)(seen:Array Nat)(es:Array MapEntry)(clock:Nat)(e:MapEntry)(hi:w.heap[b]?=some (.mapIter (some bm) since (seen.push e.born) clock))(hb:w.heap[bm]?=some (.map es clock))(he:e∈es.toList)(hn:(es.toList.map (·.born)).Nodup):
  (Instr.entry (.pointer (some ⟨b,0,none⟩))).run P w=.ok (.tuple #[e.key,e.val]) w:=by
 have hf:es.find? (·.born==e.born)=some e:=by rw[<-Array.find?_toList];exact find_born e es.toList hn he
 simp only[Instr.entry,getObj,Sem.run_bind,Sem.run,hi,hb,Result.andThen,Array.back?_push,bne_self_eq_false,Q1,Xz,hf]
 rfl
theorem RvEs.get:∀{es:List (AV × AV)} {l:List MapEntry} {i:Nat} {k v:AV},RvEs E w es l->es[i]?=some (k,v)->∃ e,l[i]?=some e/\Rv E w k e.key/\Rv E w v e.val
 | [],_,i,_,_,_,h=>by simp at h
 | (_,_)::es,_,0,k,v,⟨x,xs,rfl,h1,h2,_⟩,h=>by
  simp only[Q0,Qa,Q2] at h
  obtain⟨rfl,rfl⟩:=h
  exact⟨x,by simp,h1,h2⟩
 | (_,_)::es,_,i+1,k,v,⟨x,xs,rfl,_,_,h3⟩,h=>by
  simp only[QE] at h ⊢
  exact RvEs.get h3 h
theorem entA_sound{x v:AV}{vx:Value}(hs:Sat E st w)(hx:Rv E w x vx)(hr:entA st x=some v):
  ∃ u,(Instr.entry vx).run P w=.ok u w/\Rv E w v u:=by
 unfold entA at hr
 split at hr<;>try (simp only[reduceCtorEq] at hr;done)
 rename_i id
 obtain⟨b,hb,rfl⟩:=hx
 split at hr<;>try (simp only[reduceCtorEq] at hr;done)
 rename_i m ks hg
 split at hr<;>try (simp only[reduceCtorEq] at hr;done)
 rename_i i hk
 split at hr<;>try (simp only[reduceCtorEq] at hr;done)
 rename_i es hm
 simp only[Qf] at hr
 obtain⟨⟨k,v'⟩,he,rfl⟩:=hr
 obtain⟨bm,l,clock,since,h1,h2,h3,h4,_⟩:=hs.obj id _ b hg hb
 obtain⟨_,l',clock',h5,h6,h7⟩:=hs.obj m _ bm hm h1
 rw[h3] at h5;injection h5 with h5;injection h5 with h5 h5';subst h5;subst h5'
 obtain⟨e,q1,q2,q3⟩:=RvEs.get h6 he
 obtain⟨ks',rfl⟩:∃ ks',ks=ks'++[i]:=by
  rw[List.getLast?_eq_some_iff] at hk;exact hk
 have hl:(l.getD i default)=e:=by
  rw[QA,<-X7,q1];rfl
 have h8:w.heap[b]?=some (.mapIter (some bm) since ((ks'.map fun i=>(l.getD i default).born).toArray.push e.born) clock):=by
  rw[h4];simp only[QQ,Q4,QZ,hl]
  congr 2
  simp
 exact⟨_,run_entry_at w b bm since _ l clock e h8 h3 (Qr q1) h7.2,⟨#[e.key,e.val],rfl,e.key,[e.val],rfl,q2,e.val,[],rfl,q3,rfl⟩⟩
theorem clearA_sound{ts:Array TypeId}{t ty e:TypeId}{i:TypeInfo}{z:Value}{zs:List AV}{x:AV}{vx:Value}{st':St}(ht0:ts[0]?=some t)(ht:P.underlying t=some (.slice e))(hi:P.info? e=some i)(hz:i.zero=some z)
  (hzs:∀ E w,RvL E w zs z.cells.toList) (hs:Sat E st w) (hx:Rv E w x vx) (hr:clearA i.size zs st x=some st'):
  ∃ w',(Builtin.clear_ ts ty #[vx]).run P w=.ok (.tuple #[]) w'/\Ext E w E w'/\Sat E st' w':=by
 unfold clearA at hr
 split at hr<;>try (simp only[reduceCtorEq] at hr;done)
 ·have hx:vx=.slice none 0 0:=hx
  subst hx
  simp only[Qa] at hr;subst hr
  exact⟨w,by simp[Builtin.clear_,ht0,underlying,ht],Ext.refl _ _,hs⟩
 ·rename_i id off n s cap lo
  obtain⟨b,c,e',mm,h0,rfl,h1,h2,h3,h4⟩:=hx
  split at hr
  ·simp only[Qa] at hr;subst hr
   exact⟨w,by simp[Builtin.clear_,ht0,underlying,ht],Ext.refl _ _,hs⟩
  ·split at hr<;>try (simp only[reduceCtorEq] at hr;done)
   rename_i cs ho
   rw[cond_eq_ite] at hr
   split at hr
   case isFalse=>cases hr
   case isTrue hcond=>
    simp only[Qa] at hr;subst hr
    simp only[Qd] at hcond
    have c1:=Qj hcond.1.1.2
    have c2:=Qk hcond.1.2
    have k3:RvL E w (Yl zs n) (Builtin.zeroCells z.cells n).toList:=by
     have:=UM (hzs E w) n
     exact this
    obtain⟨w',r1,r2,r3⟩:=write_row (P:=P) (off:=off) hs ho h0 k3 (by rw[J0,c1];exact c2) (k3.one hcond.2)
    refine⟨w',?_,r3,r2⟩
    simp[Builtin.clear_,ht0,underlying,ht,Wc hi hz,r1]
theorem SO{d:Nat}{xs ys:Array Value}:∀(fs:List Field) (i:Nat) (cs ds:List AV) (r:Bool),intFs P i fs=true->cs.length=fs.length->Ub cs ds=some r->RvL E w cs (xs.toList.drop i)->RvL E w ds (ys.toList.drop i) ->
  (Op.eqFields (d+1) xs ys fs).run P w=.ok r w
 | [],i,cs,ds,r,_,hl,hr,_,_=>by
  cases cs with
  | cons _ _=>simp at hl
  | nil=>
   cases ds with
   | cons _ _=>simp[Ub] at hr
   | nil=>simp only[Ub,Qa] at hr;subst hr;rfl
 | f::fs,i,cs,ds,r,hf,hl,hr,hx,hy=>by
  cases cs with
  | nil=>simp at hl
  | cons c cs=>
   cases ds with
   | nil=>cases c<;>simp[Ub] at hr
   | cons e ds=>
    cases c<;>try (simp[Ub] at hr;done)
    cases e<;>try (simp[Ub] at hr;done)
    rename_i k a k' b
    simp only[Ub,cond_eq_ite,QF] at hr
    split at hr
    case isFalse=>cases hr
    case isTrue hkk=>
    subst hkk
    simp only[Qf] at hr
    obtain⟨q,hq,rfl⟩:=hr
    simp only[intFs,Qd,Xy,beq_eq_false_iff_ne,ne_eq] at hf
    obtain⟨⟨⟨h1,h2⟩,h3⟩,h4⟩:=hf
    have h2:=Qj h2
    split at h3<;>try (cases h3;done)
    rename_i k0 hu
    obtain⟨x,xs',hxd,hx1,hx2⟩:=hx
    obtain⟨y,ys',hyd,hy1,hy2⟩:=hy
    have hx1:x=.int k a:=hx1
    have hy1:y=.int k b:=hy1
    subst hx1;subst hy1
    have ex:xs[f.offset]?=some (.int k a):=by
     rw[h2,<-X7]
     have:=Xn (·[0]?) hxd
     simpa using this
    have ey:ys[f.offset]?=some (.int k b):=by
     rw[h2,<-X7]
     have:=Xn (·[0]?) hyd
     simpa using this
    have px:(part f.type xs f.offset).run P w=.ok (.int k a) w:=by simp[part,isAgg,run_underlying hu,ex]
    have py:(part f.type ys f.offset).run P w=.ok (.int k b) w:=by simp[part,isAgg,run_underlying hu,ey]
    have dx:xs.toList.drop (i+1)=xs':=by
     have:=Xn List.tail hxd
     simpa [List.tail_drop] using this
    have dy:ys.toList.drop (i+1)=ys':=by
     have:=Xn List.tail hyd
     simpa [List.tail_drop] using this
    have ih:=SO (d:=d) fs (i+1) cs ds q h4 (by simpa using hl) hq (by rw[dx];exact hx2) (by rw[dy];exact hy2)
    have hk:=run_equalIn_int (P:=P) w d f.type k k0 a b hu
    unfold Op.eqFields
    rw[Qm h1]
    simp only[Sem.run_bind,px,py,hk,Result.andThen_ok]
    by_cases hab:a=b
    ·subst hab;simpa using ih
    ·have:(a==b)=false:=by simpa using hab
     simp[this,hab]
theorem eqagA_sound{t:TypeId}{fs:Array Field}{neg:Bool}{ox oy:Operand}{x y r:AV}{vx vy:Value}(ht:P.underlying t=some (.struct fs))(hf:intFs P 0 fs.toList=true)(hp:P.stoodInHeld t=false)(hm:P.eqGuardType P.depth t=false)
  (hx:Rv E w x vx) (hy:Rv E w y vy) (hr:eqagA fs.size neg x y=some r):
  ∃ u,(do eqGuard (bif neg then .neq else .eql) t ox oy vx vy;binOp (bif neg then .neq else .eql) t vx vy:Sem Value).run P w=.ok u w/\Rv E w r u:=by
 unfold eqagA at hr
 split at hr<;>try (simp only[reduceCtorEq] at hr;done)
 rename_i cs ds
 obtain⟨xs,rfl,hx⟩:=hx
 obtain⟨ys,rfl,hy⟩:=hy
 rw[cond_eq_ite] at hr
 split at hr
 case isFalse=>cases hr
 case isTrue hl=>
  have hl:=Qj hl
  simp only[Qf] at hr
  obtain⟨q,hq,rfl⟩:=hr
  have hfo:P.fieldsOf t=fs:=by simp[Program.fieldsOf,ht]
  have h1:=SO (P:=P) (d:=9998) (xs:=xs) (ys:=ys) fs.toList 0 cs ds q hf (by simpa using hl) hq (by simpa using hx) (by simpa using hy)
  have h2:(Op.equalIn 10000 t (.agg xs) (.agg ys)).run P w=.ok q w:=by
   rw[show (10000:Nat)=9999+1 from rfl,run_equalIn_agg w 9999 t xs ys (by rw[hfo];exact ht) hp,hfo]
   exact h1
  cases neg
  ·refine⟨.bool q,?_,rfl⟩
   simp only[Qq,Sem.run_bind,run_eqGuard_agg w .eql t ox oy xs ys hm,Result.andThen_ok,run_eql_struct,h2]
  ·refine⟨.bool (!q),?_,rfl⟩
   simp only[Qi,Sem.run_bind,run_eqGuard_agg w .neq t ox oy xs ys hm,Result.andThen_ok,run_neq_struct,h2]
end
end Go.AM
namespace Go.AM
theorem Fr.get_set(fr:Fr)(n m:Nat)(o:Option AV):(fr.set n o).get m=if m=n then o else fr.get m:=Tr.get_set ..
theorem Fr.get_nil(n:Nat):Fr.nil.get n=none:=Tr.get_nil n
@[simp] theorem Fr.set_ds (fr:Fr) (n:Nat) (o:Option AV):(fr.set n o).ds=fr.ds:=rfl
section
variable {E:Env} {w:World}
mutual
theorem Tu:∀(f:Nat) (v:Value) (x:AV),cv f v=some x->Rv E w x v
 | 0,_,_,h=>by simp[cv] at h
 | f+1,v,x,h=>by
  unfold cv at h
  split at h<;>simp only[Qa,Qf,reduceCtorEq] at h
  ·subst h;rfl
  ·subst h;rfl
  ·subst h;exact⟨_,rfl,rfl⟩
  ·subst h;rfl
  ·subst h;rfl
  ·subst h;rfl
  ·subst h;rfl
  ·subst h;rfl
  ·obtain⟨y,h,rfl⟩:=h;exact⟨_,rfl,Tu f _ _ h⟩
  ·obtain⟨y,h,rfl⟩:=h;exact⟨_,rfl,KG f _ _ h⟩
  ·obtain⟨y,h,rfl⟩:=h;exact⟨_,rfl,KG f _ _ h⟩
theorem KG:∀(f:Nat) (vs:List Value) (xs:List AV),cvL f vs=some xs->RvL E w xs vs
 | 0,_,_,h=>by simp[cvL] at h
 | f+1,[],xs,h=>by simp[cvL] at h;subst h;rfl
 | f+1,v::vs,xs,h=>by
  simp only[cvL,Qh,Qf] at h
  obtain⟨x,h1,ys,h2,rfl⟩:=h
  exact⟨v,vs,rfl,Tu f v x h1,KG f vs ys h2⟩
end
def RvF(E:Env)(w:World)(fr:Fr)(a:Act):Prop:=∀ n,Rv E w ((fr.get n).getD .undef) (a.tmps.getD n undef)
variable {fr:Fr} {a:Act}
theorem Vl{o:Operand}{x:X}(hf:RvF E w fr a)(h:cx o=some x):Rv E w (ev fr x) (a.eval o):=by
 cases o<;>simp only[cx,Qa,Qf,reduceCtorEq] at h
 ·subst h;exact hf _
 ·obtain⟨y,h,rfl⟩:=h;exact Tu _ _ _ h
 ·subst h;exact⟨#[],#[],rfl,rfl,rfl⟩
theorem JF:∀{os:List Operand} {xs:List X},RvF E w fr a->cxs os=some xs->RvL E w (xs.map (ev fr)) (os.map a.eval)
 | [],xs,_,h=>by simp[cxs] at h;subst h;rfl
 | o::os,xs,hf,h=>by
  simp only[cxs,Qh,Qf] at h
  obtain⟨x,h1,ys,h2,rfl⟩:=h
  exact⟨_,_,rfl,Vl hf h1,JF hf h2⟩
theorem KH{o:Option Operand}{x:Option X}(hf:RvF E w fr a)(h:cxo o=some x):RvO E w (x.map (ev fr)) (o.map a.eval):=by
 cases o with
 | none=>simp[cxo] at h;subst h;rfl
 | some o=>
  simp only[cxo,Qf] at h
  obtain⟨y,h,rfl⟩:=h
  exact⟨_,rfl,Vl hf h⟩
theorem JH{place:Nat->Option (Nat × Nat)}:∀{ps:List (Nat × Operand)} {xs:List (Nat × Nat × X)},RvF E w fr a->Tk place ps=some xs ->
  RvParts E w (WT fr xs) (ps.map fun p=>(p.1,a.eval p.2)) place
 | [],xs,_,h=>by simp[Tk] at h;subst h;rfl
 | (i,o)::ps,xs,hf,h=>by
  simp only[Tk,Qh,Qf] at h
  obtain⟨p,h0,x,h1,ys,h2,rfl⟩:=h
  exact⟨i,a.eval o,_,rfl,h0,Vl hf h1,JH hf h2⟩
theorem Yu{i:TypeInfo}{zs:List AV}(h:KP i=some zs):∃ z,i.zero=some z/\∀ E w,RvL E w zs z.cells.toList:=by
 simp only[KP,Qh] at h
 obtain⟨z,h1,h2⟩:=h
 exact⟨z,h1,fun E w=>KG _ _ _ h2⟩
def VP(E:Env)(w:World)(r:OpR)(res:Result Next):Prop:=
 match r with
 | .val v st=>∃ u w' E',(res=.ok (.value u) w'\/(res=.ok .skip w'/\u=undef))/\Ext E w E' w'/\Sat E' st w'/\Rv E' w' v u
 | .pan v st=>∃ u w' E',res=.halt (.panic u) w'/\Ext E w E' w'/\Sat E' st w'/\Rv E' w' v u
 | .stuck=>True
theorem VP.of{st:St}{r:Option AV}{s:Sem Value}{P:Program}(hs:Sat E st w)(h:∀ v,r=some v->∃ u,s.run P w=.ok u w/\Rv E w v u):
  VP E w (OpR.of st r) ((do pure (.value (<- s)):Sem Next).run P w):=by
 cases r with
 | none=>trivial
 | some v=>
  obtain⟨u,h1,h2⟩:=h v rfl
  exact⟨u,w,E,.inl (by simp[h1]),Ext.refl _ _,hs,h2⟩
theorem VP.of2{r:Option (AV × St)}{s:Sem Value}{P:Program}(h:∀ v st,r=some (v,st)->∃ u w' E',s.run P w=.ok u w'/\Ext E w E' w'/\Sat E' st w'/\Rv E' w' v u):
  VP E w (OpR.of2 r) ((do pure (.value (<- s)):Sem Next).run P w):=by
 cases r with
 | none=>trivial
 | some q=>
  obtain⟨v,st⟩:=q
  obtain⟨u,w',E',h1,h2,h3,h4⟩:=h v st rfl
  exact⟨u,w',E',.inl (by simp[h1]),h2,h3,h4⟩
theorem VP.ofSt{r:Option St}{s:Sem Unit}{P:Program}(h:∀ st,r=some st->∃ w',s.run P w=.ok () w'/\Sat E st w'/\Ext E w E w'):
  VP E w (OpR.ofSt r) ((do s;pure .skip:Sem Next).run P w):=by
 cases r with
 | none=>trivial
 | some st=>
  obtain⟨w',h1,h2,h3⟩:=h st rfl
  exact⟨undef,w',E,.inr ⟨by simp[h1],rfl⟩,h3,h2,rfl⟩
end
end Go.AM
namespace Go.AM
theorem intBeq_eq{a b:Int}(h:TO a b=true):a=b:=by
 cases a<;>cases b<;>simp only[TO,Q1] at h
 ·rw[Qj h]
 ·rw[Qj h]
theorem onBeq_eq{a b:Option Nat}(h:onBeq a b=true):a=b:=by
 cases a<;>cases b<;>simp only[onBeq,Q1] at h
 ·rfl
 ·rw[Qj h]
theorem fnBeq_eq{a b:Fn}(h:fnBeq a b=true):a=b:=by
 cases a<;>cases b<;>simp only[fnBeq,Q1] at h
 rw[Qj h]
theorem bBeq_eq{a b:Bool}(h:(bif a then b else !b)=true):a=b:=by cases a<;>cases b<;>simp_all
theorem natsEq_eq:∀{a b:List Nat},WQ a b=true->a=b
 | [],[],_=>rfl
 | [],_::_,h=>by simp[WQ] at h
 | _::_,[],h=>by simp[WQ] at h
 | x::a,y::b,h=>by
  simp only[WQ,Qd] at h
  rw[Qj h.1,natsEq_eq h.2]
mutual
theorem JJ:∀(a b:AV),V8 a b=true->a=b
 | .undef,b,h=>by cases b<;>simp only[V8,Q1] at h;rfl
 | .bool x,b,h=>by cases b<;>simp only[V8,Q1] at h;rw[bBeq_eq h]
 | .int k x,b,h=>by
  cases b<;>simp only[V8,Q1,Qd,QF] at h
  rw[h.1,intBeq_eq h.2]
 | .str x,b,h=>by cases b<;>simp only[V8,Q1] at h;rw[natsEq_eq h]
 | .nilptr,b,h=>by cases b<;>simp only[V8,Q1] at h;rfl
 | .ptr x y,b,h=>by
  cases b<;>simp only[V8,Q1,Qd] at h
  rw[Qj h.1,Qj h.2]
 | .fptr x y,b,h=>by
  cases b<;>simp only[V8,Q1,Qd] at h
  rw[Qj h.1,WL x _ h.2]
 | .nilsl,b,h=>by cases b<;>simp only[V8,Q1] at h;rfl
 | .lst n x e,b,h=>by
  cases b<;>simp only[V8,Q1,Qd] at h
  rw[Qj h.1.1,bBeq_eq h.1.2,WL x _ h.2]
 | .own _ _ _ _ _ _,b,h=>by
  cases b<;>simp only[V8,Q1,Qd] at h
  rw[Qj h.1.1.1.1.1,Qj h.1.1.1.1.2,Qj h.1.1.1.2,Qj h.1.1.2,onBeq_eq h.1.2,Qj h.2]
 | .nilmap,b,h=>by cases b<;>simp only[V8,Q1] at h;rfl
 | .map _,b,h=>by cases b<;>simp only[V8,Q1] at h;rw[Qj h]
 | .func f x y,b,h=>by
  cases b<;>simp only[V8,Q1,Qd] at h
  rw[fnBeq_eq h.1.1,WL x _ h.1.2,WL y _ h.2]
 | .nilfn,b,h=>by cases b<;>simp only[V8,Q1] at h;rfl
 | .niface,b,h=>by cases b<;>simp only[V8,Q1] at h;rfl
 | .iface t x,b,h=>by
  cases b<;>simp only[V8,Q1,Qd] at h
  rw[Qj h.1,JJ x _ h.2]
 | .agg x,b,h=>by cases b<;>simp only[V8,Q1] at h;rw[WL x _ h]
 | .tuple x,b,h=>by cases b<;>simp only[V8,Q1] at h;rw[WL x _ h]
 | .yld x,b,h=>by cases b<;>simp only[V8,Q1] at h;rw[Qj h]
 | .top,b,h=>by cases b<;>simp only[V8,Q1] at h;rfl
theorem WL:∀(a b:List AV),VG a b=true->a=b
 | [],b,h=>by cases b<;>simp only[VG,Q1] at h;rfl
 | x::xs,b,h=>by
  cases b<;>simp only[VG,Q1,Qd] at h
  rw[JJ x _ h.1,WL xs _ h.2]
end
end Go.AM
namespace Go.AM
section
variable {E:Env} {w:World} {P:Program} {fr:Fr} {a:Act} {st:St}
theorem keyStr_desc{d:TypeDesc}{str:Bool}(h:keyStr d=some str):Uj str d:=by
 cases d<;>simp[keyStr] at h<;>subst h
 ·exact .inr ⟨rfl,_,rfl⟩
 ·exact .inl ⟨rfl,rfl⟩
theorem panic_sound{x:AV}{v:Value}(hs:Sat E st w)(hx:Rv E w x v):
  VP E w (panicR st x) ((do pure (.value (<- Instr.panic v)):Sem Next).run P w):=by
 cases x<;>try exact trivial
 have h0:=hx
 obtain⟨y,rfl,hy⟩:=hx
 exact⟨_,w,E,by simp[Instr.panic],Ext.refl _ _,hs,h0⟩
theorem cbin_sound{op:BinOp}{t u:TypeId}{x y:Operand}{m:MOp}{o:Oper}(ho:o.op=.binOp op t x y u)(hf:RvF E w fr a)(hs:Sat E st w)(hc:cbin P op t x y=some m):
  VP E w (aop fr st m) ((execOp a.eval o).run P w):=by
 simp only[cbin,Qh] at hc
 obtain⟨d,hd,x',hx,y',hy,hc⟩:=hc
 have e1:execOp a.eval o=(do pure (.value (<- (do eqGuard op t x y (a.eval x) (a.eval y);binOp op t (a.eval x) (a.eval y):Sem Value))):Sem Next):=by simp only[execOp,ho]
 rw[e1]
 cases hn:Yy d with
 | none=>
  simp only[hn] at hc
  split at hc
  ·rename_i fs
   rw[cond_eq_ite] at hc
   split at hc
   case isFalse=>cases hc
   case isTrue hcond=>
    simp only[Qa] at hc;subst hc
    simp only[Qd,Xy] at hcond
    refine VP.of hs fun v hv=>?_
    have hop:op=(bif isNeq op then BinOp.neq else .eql):=by
     cases op<;>first | rfl | (have:=hcond.1.1.1;simp[isEq] at this;done)
    have:=eqagA_sound (ox:=x) (oy:=y) hd hcond.1.1.2 hcond.1.2 hcond.2 (Vl hf hx) (Vl hf hy) hv
    rw[<-hop] at this
    exact this
  simp only[Qa] at hc;subst hc
  refine VP.of hs fun v hv=>?_
  have hv':binA op (ev fr x') (ev fr y')=some v/\((∃ b,ev fr x'=.bool b)->isBool d=true):=by
   unfold Vr at hv
   split at hv
   ·cases hb:isBool d
    ·simp[hb] at hv
    ·rename_i he;simp only[hb,Qi] at hv;exact⟨hv,fun _=>rfl⟩
   ·rename_i hne;exact⟨hv,fun⟨b,hb⟩=>absurd hb (hne b)⟩
  exact binA_sound (Vl hf hx) (Vl hf hy) hv'.1 fun hb=>by
   have:=hv'.2 hb
   cases d<;>simp[isBool] at this
   exact hd
 | some c=>
  simp only[hn] at hc
  cases hcond:(isEq op&&(!(c.beq 4)||Td x||Td y))
  ·simp[hcond] at hc
  ·simp only[hcond,Qi,Qa] at hc;subst hc
   simp only[Qd] at hcond
   have hop:op=.eql\/op=.neq:=by
    cases op<;>first | exact .inl rfl | exact .inr rfl | (have:=hcond.1;simp[isEq] at this;done)
   refine VP.of hs fun v hv=>?_
   cases hq:eqNilA c op (ev fr x') (ev fr y') with
   | none=>
    rw[hq] at hv
    simp only at hv
    cases hpz:ptrSized P d
    ·simp[hpz] at hv
    ·simp only[hpz,Qi] at hv
     refine eqPtrA_sound hd hn hop (fun q hdq=>?_) (Vl hf hx) (Vl hf hy) hv
     subst hdq
     unfold ptrSized at hpz
     simp only at hpz
     split at hpz
     ·rename_i i hi
      exact⟨i,hi,fun h=>by rw[h] at hpz;simp at hpz⟩
     ·cases hpz
   | some v'=>
   rw[hq] at hv
   simp only[Qa] at hv
   subst hv
   refine eqNilA_sound hd hn ?_ ?_ (Vl hf hx) (Vl hf hy) hq
   ·cases op<;>first | exact .inl rfl | exact .inr rfl | (have:=hcond.1;simp[isEq] at this;done)
   ·intro h4;subst h4
    have:=hcond.2
    simp at this
    rcases this with h | h
    ·left;cases x<;>simp[Td] at h;exact⟨_,rfl⟩
    ·right;cases y<;>simp[Td] at h;exact⟨_,rfl⟩
theorem cbuild_sound{t:TypeId}{ps:Array (Nat × Operand)}{m:MOp}{o:Oper}(ho:o.op=.build t ps)(hf:RvF E w fr a)(hs:Sat E st w)(hc:cbuild P t ps=some m):
  VP E w (aop fr st m) ((execOp a.eval o).run P w):=by
 simp only[cbuild,Qh] at hc
 obtain⟨i,hi,zs,hz,hc⟩:=hc
 obtain⟨z,hz0,hzs⟩:=Yu hz
 have e1:execOp a.eval o=(do pure (.value (<- Instr.build t (ps.map fun (i,x)=>(i,a.eval x)))):Sem Next):=by simp only[execOp,ho]
 rw[e1]
 have hps:(ps.map fun (i,x)=>(i,a.eval x)).toList=ps.toList.map fun p=>(p.1,a.eval p.2):=by simp
 cases hd:P.underlying t with
 | none=>simp[hd] at hc
 | some d=>
  cases d<;>try (simp only[hd,reduceCtorEq] at hc;done)
  case array n e=>
   simp only[hd,Qh,Qf] at hc
   obtain⟨ie,hie,xs,hxs,rfl⟩:=hc
   refine VP.of hs fun v hv=>?_
   simp only[Qf] at hv
   obtain⟨r,hr,rfl⟩:=hv
   obtain⟨out,h1,h2⟩:=Ki (WT fr xs) (ps.map fun (i,x)=>(i,a.eval x)).toList zs r z.cells (by rw[hps];exact JH hf hxs) (hzs E w) hr
   exact⟨.agg out,run_build (P:=P) w t _ out (by simp only[Program.built,hi,hd,hz0,hie];exact h1),out,rfl,h2⟩
  case struct fs=>
   simp only[hd,Qh,Qf] at hc
   obtain⟨places,hpl,xs,hxs,rfl⟩:=hc
   refine VP.of hs fun v hv=>?_
   simp only[Qf] at hv
   obtain⟨r,hr,rfl⟩:=hv
   obtain⟨out,h1,h2⟩:=Ki (WT fr xs) (ps.map fun (i,x)=>(i,a.eval x)).toList zs r z.cells (by rw[hps];exact JH hf hxs) (hzs E w) hr
   exact⟨.agg out,run_build (P:=P) w t _ out (by simp only[Program.built,hi,hd,hz0,hpl];exact h1),out,rfl,h2⟩
theorem cbslice_sound{fz:Bool}{t:TypeId}{n:Nat}{ps:Array (Nat × Operand)}{m:MOp}{o:Oper}(ho:o.op=.buildSlice t n ps)(hf:RvF E w fr a)(hs:Sat E st w)(hc:cbslice P fz t n ps=some m):
  VP E w (aop fr st m) ((execOp a.eval o).run P w):=by
 unfold cbslice at hc
 cases hd:P.underlying t with
 | none=>simp[hd] at hc
 | some d=>
  cases d<;>simp only[hd,reduceCtorEq] at hc
  rename_i e
  simp only[Qh] at hc
  obtain⟨i,hi,z,hz,zs,hzs,hc⟩:=hc
  cases hb:(n*i.size).ble 16777216
  ·simp[hb] at hc
  ·simp only[hb,Qi,Qf] at hc
   obtain⟨xs,hxs,rfl⟩:=hc
   have e1:execOp a.eval o=(do pure (.value (<- Instr.buildSlice t n (ps.map fun (i,x)=>(i,a.eval x)))):Sem Next):=by simp only[execOp,ho]
   rw[e1]
   have hps:(ps.map fun (i,x)=>(i,a.eval x)).toList=ps.toList.map fun p=>(p.1,a.eval p.2):=by simp
   cases fz with
   | true=>
    simp only[Qi,aop]
    cases hr:VN zs (WT fr xs) with
    | none=>trivial
    | some r=>
     cases hlr:r.length.beq (n*i.size) with
     | false=>simp only[Qg,hlr,Qq];trivial
     | true=>
      simp only[Qg,hlr,Qi]
      obtain⟨w',E',h1,h2,h3,h4⟩:=bsliceO_sound (E:=E) (w:=w) (st:=st) hd hi hz (Qk hb) (fun E w=>KG _ _ _ hzs) (ps:=WT fr xs) (l:=ps.map fun (i,x)=>(i,a.eval x))
       (by rw[hps];exact JH hf hxs) hr (Qj hlr) hs
      exact⟨_,w',E',.inl (by simp[h1]),h2,h3,h4⟩
   | false=>
   simp only[Qq,aop]
   cases hr:VN zs (WT fr xs) with
   | none=>trivial
   | some r=>
    obtain⟨w',E',h1,h2,h3,h4⟩:=bslice_sound (E:=E) (w:=w) (st:=st) hd hi hz (Qk hb) (fun E w=>KG _ _ _ hzs) (ps:=WT fr xs) (l:=ps.map fun (i,x)=>(i,a.eval x))
     (by rw[hps];exact JH hf hxs) hr hs
    exact⟨_,w',E',.inl (by simp[h1]),h2,h3,h4⟩
theorem cbuiltin_sound{b:Builtin}{ts:Array TypeId}{args:Array Operand}{m:MOp}{o:Oper}(ho:o.op=.call { callee:=.builtin b,args,argTypes:=ts })(hf:RvF E w fr a)(hs:Sat E st w)
  (hc:cbuiltin P b ts args.toList=some m):VP E w (aop fr st m) ((execOp a.eval o).run P w):=by
 have e1:∀ s:Sem Value,(∀ cs,builtin b ts o.type cs (args.map a.eval)=(do pure (.value (<- s)):Sem Next))->execOp a.eval o=(do pure (.value (<- s)):Sem Next):=fun s hs=>by
  simp only[execOp,ho,resolve,invoke]
  simp only[pure_bind]
  exact hs _
 have hargs:∀ l,args.toList=l->args.map a.eval=(l.map a.eval).toArray:=fun l hl=>by
  apply XN;simp[hl]
 cases hl0:args.toList with
 | nil=>simp[hl0,cbuiltin] at hc
 | cons x xs=>
 rw[hl0] at hc
 cases b<;>simp only[cbuiltin] at hc<;>try (simp only[reduceCtorEq] at hc;done)
 case append=>
  cases xs with
  | nil=>simp at hc
  | cons y ys=>
  cases ys with
  | cons _ _=>simp at hc
  | nil=>
  have hl:=hl0
  simp only[cappend,Qh] at hc
  obtain⟨t,ht0,u,hu0,hc⟩:=hc
  cases hd:P.underlying t with
  | none=>simp[hd] at hc
  | some d=>
   cases d<;>try (simp only[hd,reduceCtorEq] at hc;done)
   rename_i e
   simp only[hd,Qh] at hc
   obtain⟨i,hi,z,hz,hc⟩:=hc
   split at hc
   ·rename_i ki hu
    simp only[Qh,Qf] at hc
    obtain⟨zs,hzs,x',hx,y',hy,rfl⟩:=hc
    obtain⟨z',hz',hzs'⟩:=Yu hzs
    rw[hz] at hz';injection hz' with hz';subst hz'
    rw[e1 (Builtin.append_ ts o.type (args.map a.eval)) fun cs=>rfl,hargs _ hl]
    exact VP.of2 fun v st' hv=>appendzA_sound (ty:=o.type) ht0 hd hi hz hu0 hu hzs' hs (Vl hf hx) (Vl hf hy) hv
   cases hcond:(z.cells.size.beq i.size&&sliceStr P u)
   ·simp[hcond] at hc
   ·simp only[hcond,Qi,Qh,Qf] at hc
    obtain⟨x',hx,y',hy,rfl⟩:=hc
    simp only[Qd] at hcond
    have hzs:=Qj hcond.1
    obtain⟨du,hu,hni⟩:∃ du,P.underlying u=some du/\Kt du:=by
     have:=hcond.2
     cases hu:P.underlying u with
     | none=>simp[sliceStr,hu] at this
     | some du=>cases du<;>simp[sliceStr,hu] at this<;>first | exact⟨_,rfl,.inl ⟨_,rfl⟩⟩ | exact⟨_,rfl,.inr rfl⟩
    rw[e1 (Builtin.append_ ts o.type (args.map a.eval)) fun cs=>rfl,hargs _ hl]
    simp only[aop]
    cases hcont:Wd i.size st (ev fr y') with
    | none=>trivial
    | some p=>
     obtain⟨n,ys⟩:=p
     simp only[]
     cases happ:VX i.bytes i.size st (ev fr x') n ys with
     | none=>trivial
     | some q=>
      obtain⟨v,st'⟩:=q
      obtain⟨vs,h1,h2,h3,h4⟩:=S8 (P:=P) hs (Vl hf hy) hcont
      obtain⟨q,w',E',k1,k2,k3,k4,k5⟩:=appendA_sound (ty:=o.type) ht0 hd hi hz hu0 hu hni hzs hs (Vl hf hx) h1 h2 h3 h4 happ
      exact⟨q,w',E',.inl (by simpa using Xn (fun r=>Result.andThen r fun v w=>Result.ok (Next.value v) w) k1),k2,tagA_sound k3 (appendA_bt happ) hs (Vl hf hx) k4 k5 (fun t ht=>by
       cases h8:isU8 P e
       ·simp[h8] at ht
       ·simp only[h8,Qi,Qa] at ht;exact ht.symm),k4⟩
 case copy=>
  cases xs with
  | nil=>simp at hc
  | cons y ys=>
  cases ys with
  | cons _ _=>simp at hc
  | nil=>
  have hl:=hl0
  simp only[Qh] at hc
  obtain⟨t,ht0,hc⟩:=hc
  cases hd:P.underlying t with
  | none=>simp[hd] at hc
  | some d=>
   cases d<;>try (simp only[hd,reduceCtorEq] at hc;done)
   simp only[hd,Qh,Qf] at hc
   obtain⟨i,hi,x',hx,y',hy,rfl⟩:=hc
   rw[e1 (Builtin.copy_ ts o.type (args.map a.eval)) fun cs=>rfl,hargs _ hl]
   exact VP.of2 fun v st' hv=>copyA_sound (ty:=o.type) ht0 hd hi hs (Vl hf hx) (Vl hf hy) hv
 case unsafeSliceData=>
  cases xs with
  | cons _ _=>simp at hc
  | nil=>
  have hl:=hl0
  simp only[Qf] at hc
  obtain⟨x',hx,rfl⟩:=hc
  rw[e1 (Builtin.unsafeSliceData_ ts o.type (args.map a.eval)) fun cs=>rfl,hargs _ hl]
  exact VP.of hs fun v hv=>sdatA_sound (Vl hf hx) hv
 case unsafeString=>
  cases xs with
  | nil=>simp at hc
  | cons y ys=>
  cases ys with
  | cons _ _=>simp at hc
  | nil=>
  have hl:=hl0
  simp only[Qh] at hc
  obtain⟨pt,ht0,hc⟩:=hc
  split at hc<;>try (simp only[reduceCtorEq] at hc;done)
  rename_i u hpt
  simp only[Qh] at hc
  obtain⟨i,hi,hc⟩:=hc
  cases h1:i.size.beq 1
  ·simp[h1] at hc
  ·simp only[h1,Qi,Qh,Qf] at hc
   obtain⟨x',hx,y',hy,rfl⟩:=hc
   rw[e1 (Builtin.unsafeString_ ts o.type (args.map a.eval)) fun cs=>rfl,hargs _ hl]
   exact VP.of2 fun v st' hv=>ustrA_sound (ty:=o.type) ht0 hpt hi (Qj h1) hs (Vl hf hx) (Vl hf hy) hv
 case cap=>
  cases xs with
  | cons _ _=>simp at hc
  | nil=>
  have hl:=hl0
  simp only[Qh] at hc
  obtain⟨t,ht0,hc⟩:=hc
  cases hd:P.underlying t with
  | none=>simp[hd] at hc
  | some d=>
   cases d<;>try (simp only[hd,reduceCtorEq] at hc;done)
   simp only[hd,Qf] at hc
   obtain⟨x',hx,rfl⟩:=hc
   rw[e1 (Builtin.cap_ ts o.type (args.map a.eval)) fun cs=>rfl,hargs _ hl]
   exact VP.of hs fun v hv=>capA_sound ht0 hd (Vl hf hx) hv
 case len=>
  cases xs with
  | cons _ _=>simp at hc
  | nil=>
  have hl:=hl0
  simp only[Qh,Qf] at hc
  obtain⟨t,ht0,d,hd,c,hk,x',hx,rfl⟩:=hc
  rw[e1 (Builtin.len_ ts o.type (args.map a.eval)) fun cs=>rfl,hargs _ hl]
  refine VP.of hs fun v hv=>?_
  cases hfit:VD c (ev fr x')
  ·simp[hfit] at hv
  ·simp only[hfit,Qi] at hv
   have hcl:lenOk (ev fr x') d:=by
    cases d<;>simp[lenKind] at hk<;>subst hk<;>cases hx':ev fr x'<;>simp[hx',VD] at hfit<;>simp[lenOk]
   exact lenA_sound ht0 hd hcl hs (Vl hf hx) hv
 case clear=>
  cases xs with
  | cons _ _=>simp at hc
  | nil=>
  have hl:=hl0
  simp only[Qh] at hc
  obtain⟨t,ht0,hc⟩:=hc
  cases hd:P.underlying t with
  | none=>simp[hd] at hc
  | some d=>
   cases d<;>simp only[hd,reduceCtorEq] at hc
   simp only[Qh,Qf] at hc
   obtain⟨i,hi,zs,hzs,x',hx,rfl⟩:=hc
   obtain⟨z,hz,hzs'⟩:=Yu hzs
   rw[e1 (Builtin.clear_ ts o.type (args.map a.eval)) fun cs=>rfl,hargs _ hl]
   refine VP.of2 fun v st' hv=>?_
   simp only[Qf,Q2] at hv
   obtain⟨s,hv,rfl,rfl⟩:=hv
   obtain⟨w',h1,h2,h3⟩:=clearA_sound (ty:=o.type) ht0 hd hi hz hzs' hs (Vl hf hx) hv
   exact⟨_,w',E,h1,h2,h3,rfl⟩
 case max=>
  have hl:=hl0
  simp only[Qh,Qf] at hc
  obtain⟨x',hx,xs',hxs,rfl⟩:=hc
  rw[e1 (Builtin.max_ ts o.type (args.map a.eval)) fun cs=>rfl,hargs _ hl]
  refine VP.of hs fun v hv=>?_
  obtain⟨q,h1,h2⟩:=Sw (P:=P) (f:=maxA) (g:=Builtin.max2) (fun x y r v u h1 h2 h3=>maxA_sound h1 h2 h3) _ _ v _ _ (Vl hf hx) (JF hf hxs) hv
  exact⟨q,by simpa [Builtin.max_] using h1,h2⟩
 case min=>
  have hl:=hl0
  simp only[Qh,Qf] at hc
  obtain⟨x',hx,xs',hxs,rfl⟩:=hc
  rw[e1 (Builtin.min_ ts o.type (args.map a.eval)) fun cs=>rfl,hargs _ hl]
  refine VP.of hs fun v hv=>?_
  obtain⟨q,h1,h2⟩:=Sw (P:=P) (f:=minA) (g:=Builtin.min2) (fun x y r v u h1 h2 h3=>minA_sound h1 h2 h3) _ _ v _ _ (Vl hf hx) (JF hf hxs) hv
  exact⟨q,by simpa [Builtin.min_] using h1,h2⟩
 case panic=>
  cases xs with
  | cons _ _=>simp at hc
  | nil=>
  have hl:=hl0
  simp only[Qf] at hc
  obtain⟨x',hx,rfl⟩:=hc
  rw[e1 (Instr.panic (a.eval x)) fun cs=>by rw[hargs _ hl];rfl]
  exact panic_sound hs (Vl hf hx)
theorem allocT_sound{t:TypeId}{i:TypeInfo}{z:Value}{zs:List AV}(hi:P.info? t=some i)(hz:i.zero=some z)(hzs:∀ E w,RvL E w zs z.cells.toList)(hs:Sat E st w):
  ∃ w' E',(Instr.alloc t true (.tuple #[])).run P w=.ok (.pointer (some ⟨w.heap.size,0,none⟩)) w'/\Ext E w E' w'/\Sat E' ((st.new (.row zs)).tag st.next t) w' ∧
   Rv E' w' (.ptr st.next 0) (.pointer (some ⟨w.heap.size,0,none⟩))/\True:=by
 obtain⟨h1,h2⟩:=hs.alloc (.cells z.cells t) (.row zs) fun E' hx'=>⟨⟨z.cells,t,(0,0),Vz w _,by rw[(hzs E w).length];simp,.inl rfl⟩,
  V3.new (vs:=z.cells) (hzs _ _) (Vz w _)⟩
 exact⟨_,_,by simp[Instr.alloc,newVar,newRow,Wc hi hz],h2,h1.tag (b:=w.heap.size) (by simp[Env.link]) (Yn w z.cells t (0,0)),⟨w.heap.size,by simp[Env.link],rfl⟩,trivial⟩
theorem cop1_sound{fz:Bool}{m:MOp}{o:Oper}(hf:RvF E w fr a)(hs:Sat E st w)(hc:cop1 P fz o=some m):
  VP E w (aop fr st m) ((execOp a.eval o).run P w):=by
 unfold cop1 at hc
 split at hc<;>rename_i ho<;>try (simp only[reduceCtorEq] at hc;done)
 ·
  simp only[Qf] at hc
  obtain⟨x',hx,rfl⟩:=hc
  exact⟨_,w,E,.inl (by simp[execOp,ho]),Ext.refl _ _,hs,Vl hf hx⟩
 ·simp only[Qf] at hc
  obtain⟨x',hx,rfl⟩:=hc
  exact⟨_,w,E,.inl (by simp[execOp,ho]),Ext.refl _ _,hs,Vl hf hx⟩
 ·
  simp only[Qh,Qf] at hc
  obtain⟨c',hc',a',ha,b',hb,rfl⟩:=hc
  have h1:=Vl hf hc'
  simp only[aop]
  cases hcv:ev fr c'<;>try exact trivial
  rw[hcv] at h1
  rename_i cb
  have h1:a.eval _=.bool cb:=h1
  refine⟨_,w,E,.inl (by simp[execOp,ho,h1,asBool];rfl),Ext.refl _ _,hs,?_⟩
  cases cb
  ·exact Vl hf hb
  ·exact Vl hf ha
 ·
  simp only[Qh,Qf] at hc
  obtain⟨i,hi,zs,hz,rfl⟩:=hc
  obtain⟨z,hz0,hzs⟩:=Yu hz
  rename_i ta
  cases fz with
  | false=>
   obtain⟨w',E',h1,h2,h3,h4⟩:=alloc_sound (E:=E) (w:=w) hi hz0 hzs hs
   exact⟨_,w',E',.inl (by simp[execOp,ho,h1]),h2,h3,h4⟩
  | true=>
   obtain⟨w',E',h1,h2,h3,h4,h5⟩:=allocT_sound (E:=E) (w:=w) hi hz0 hzs hs
   exact⟨_,w',E',.inl (by simp[execOp,ho,h1]),h2,h3,h4⟩
 ·
  simp only[Qf] at hc
  obtain⟨x',hx,rfl⟩:=hc
  rename_i elem x0
  cases fz
  ·obtain⟨w',E',h1,h2,h3,h4⟩:=box_sound (P:=P) (e:=elem) hs (Vl hf hx)
   exact⟨_,w',E',.inl (by simp[execOp,ho,h1]),h2,h3,h4⟩
  ·obtain⟨w',E',h1,h2,h3,h4⟩:=box_fz_sound (P:=P) (e:=elem) hs (Vl hf hx)
   exact⟨_,w',E',.inl (by simp[execOp,ho,h1]),h2,h3,h4⟩
 ·exact cbuild_sound ho hf hs hc
 ·exact cbslice_sound ho hf hs hc
 ·
  simp only[Qh,Qf] at hc
  obtain⟨d,hd,i,hi,x',hx,rfl⟩:=hc
  simp only[execOp,ho]
  exact VP.of hs fun v hv=>loadA_sound hd hi rfl hs (Vl hf hx) hv
 ·
  simp only[Qh,Qf] at hc
  obtain⟨i,hi,a',ha,x',hx,rfl⟩:=hc
  simp only[execOp,ho]
  exact VP.ofSt fun st' hv=>storeA_sound hi rfl hs (Vl hf ha) (Vl hf hx) hv
 ·
  simp only[Qf] at hc
  obtain⟨x',hx,rfl⟩:=hc
  simp only[aop]
  cases hr:Jd (ev fr x') with
  | none=>exact trivial
  | some r=>
   obtain⟨h1,h2⟩:=nilchkA_sound (P:=P) ho rfl (Vl hf hx) hr
   exact⟨_,w,E,.inl h1,Ext.refl _ _,hs,h2⟩
 ·exact cbin_sound ho hf hs hc
 ·
  simp only[Qf] at hc
  obtain⟨x',hx,rfl⟩:=hc
  simp only[execOp,ho]
  exact VP.of hs fun v hv=>unA_sound (Vl hf hx) hv
 ·
  simp only[Qh] at hc
  obtain⟨ds,hds,hc⟩:=hc
  have hu8:∀ e,isU8 P e=true->P.underlying e=some (.int .u8):=fun e he=>by
   unfold isU8 at he
   split at he
   ·assumption
   ·simp at he
  unfold cconv at hc
  split at hc<;>try (simp only[reduceCtorEq] at hc;done)
  ·rename_i k hd
   simp only[Qf] at hc
   obtain⟨x',hx,rfl⟩:=hc
   simp only[execOp,ho]
   exact VP.of hs fun v hv=>convA_sound hds hd (Vl hf hx) hv
  ·rename_i e hd
   split at hc<;>try (simp only[reduceCtorEq] at hc;done)
   cases h8:isU8 P e&&!e.beq Uf
   ·simp[h8] at hc
   ·simp only[h8,Qi,Qf] at hc
    obtain⟨x',hx,rfl⟩:=hc
    simp only[execOp,ho]
    rw[Qd] at h8
    have hne:e≠Uf:=fun h=>by subst h;simp at h8
    exact VP.of2 fun v st' hv=>s2bA_sound hds hd (hu8 e h8.1) hne hs (Vl hf hx) hv
  ·rename_i hd
   split at hc<;>try (simp only[reduceCtorEq] at hc;done)
   rename_i e
   cases h8:isU8 P e
   ·simp[h8] at hc
   ·simp only[h8,Qi,Qf] at hc
    obtain⟨x',hx,rfl⟩:=hc
    simp only[execOp,ho]
    exact VP.of hs fun v hv=>b2sA_sound hds hd (hu8 e h8) hs (Vl hf hx) hv
  ·rename_i hd
   split at hc<;>try (simp only[reduceCtorEq] at hc;done)
   simp only[Qh] at hc
   obtain⟨i,hi,hc⟩:=hc
   cases h0:i.size.beq 0
   ·simp only[h0,Qq,Qf] at hc
    obtain⟨x',hx,rfl⟩:=hc
    simp only[execOp,ho]
    exact VP.of hs fun v hv=>ptouA_sound hds hd hi (fun h=>by rw[h] at h0;simp at h0) hs (Vl hf hx) hv
   ·simp[h0] at hc
  ·rename_i u hd
   split at hc<;>try (simp only[reduceCtorEq] at hc;done)
   simp only[Qh] at hc
   obtain⟨i,hi,hc⟩:=hc
   cases h0:i.size.beq 0
   ·simp only[h0,Qq,Qf] at hc
    obtain⟨x',hx,rfl⟩:=hc
    simp only[execOp,ho]
    exact VP.of hs fun v hv=>utopA_sound hds hd hi (fun h=>by rw[h] at h0;simp at h0) hs (Vl hf hx) hv
   ·simp[h0] at hc
 ·
  simp only[Qh] at hc
  obtain⟨d,hd,hc⟩:=hc
  cases hni:Y3 d
  ·simp[hni] at hc
  ·simp only[hni,Qi,Qf] at hc
   obtain⟨x',hx,rfl⟩:=hc
   obtain⟨h1,h2⟩:=makeIface_sound (P:=P) hd hni (Vl hf hx)
   exact⟨_,w,E,.inl (by simp[execOp,ho,h1]),Ext.refl _ _,hs,h2⟩
 ·
  simp only[Qh,Qf] at hc
  obtain⟨xs',hxs,ys',hys,rfl⟩:=hc
  rename_i f0 xs0 ys0
  refine⟨.func (.func f0) (xs0.map a.eval) (ys0.map a.eval),w,E,.inl (by simp[execOp,ho,Instr.makeFunc]),Ext.refl _ _,hs,_,_,rfl,?_,?_⟩
  ·have:=JF hf hxs;simpa using this
  ·have:=JF hf hys;simpa using this
 ·
  split at hc<;>try (simp only[reduceCtorEq] at hc;done)
  rename_i hd
  simp only[Qa] at hc;subst hc
  obtain⟨w',E',h1,h2,h3,h4⟩:=makeMap_sound (r:=none) hd (by simp) hs
  exact⟨_,w',E',.inl (by simp[execOp,ho,h1]),h2,h3,h4⟩
 ·
  split at hc<;>try (simp only[reduceCtorEq] at hc;done)
  rename_i hd
  simp only[Qf] at hc
  obtain⟨x',hx,rfl⟩:=hc
  simp only[execOp,ho]
  exact VP.of2 fun v st' hv=>by
   obtain⟨u,w',E',h1,h2⟩:=rngA_sound hd hs (Vl hf hx) hv
   exact⟨u,w',E',h1,h2⟩
 ·
  simp only[Qf] at hc
  obtain⟨x',hx,rfl⟩:=hc
  exact trivial
 ·
  simp only[Qf] at hc
  obtain⟨x',hx,rfl⟩:=hc
  simp only[execOp,ho]
  exact VP.of hs fun v hv=>entA_sound hs (Vl hf hx) hv
 ·
  split at hc<;>try (simp only[reduceCtorEq] at hc;done)
  rename_i hd
  simp only[Qh,Qf] at hc
  obtain⟨i,hi,zs,hzs,l',hl,c',hc',rfl⟩:=hc
  obtain⟨z,hz,hzs'⟩:=Yu hzs
  simp only[execOp,ho]
  exact VP.of2 fun v st' hv=>msliceA_sound hd hi hz hzs' hs (Vl hf hl) (Vl hf hc') hv
 ·
  simp only[Qh] at hc
  obtain⟨x',hx,lo',hlo,hi',hhi,mx',hmx,hc⟩:=hc
  split at hc<;>try (simp only[reduceCtorEq] at hc;done)
  ·rename_i hd
   simp only[Qf] at hc
   obtain⟨i,hi,rfl⟩:=hc
   simp only[execOp,ho]
   exact VP.of hs fun v hv=>sliceA_sound hd hi (Vl hf hx) (KH hf hlo) (KH hf hhi) (KH hf hmx) hv
  ·rename_i hd
   split at hc<;>try (simp only[reduceCtorEq] at hc;done)
   simp only[Qa] at hc;subst hc
   have hm:=KH hf hmx
   simp only[execOp,ho]
   refine VP.of hs fun v hv=>?_
   simp only[Option.map_none,RvO] at hm
   rw[hm]
   exact sliceSA_sound hd (Vl hf hx) (KH hf hlo) (KH hf hhi) hv
 ·
  split at hc<;>try (simp only[reduceCtorEq] at hc;done)
  rename_i fs hd
  simp only[Qh] at hc
  obtain⟨fd,hfd,i,hi,hc⟩:=hc
  cases hz:i.size.beq 0
  ·simp only[hz,Qq,Qf] at hc
   obtain⟨x',hx,rfl⟩:=hc
   simp only[execOp,ho]
   exact VP.of hs fun v hv=>fieldAt_sound hd hfd hi (by rintro h;rw[h] at hz;simp at hz) (Vl hf hx) hv
  ·simp[hz] at hc
 ·
  split at hc<;>try (simp only[reduceCtorEq] at hc;done)
  rename_i fs hd
  simp only[Qh,Qf] at hc
  obtain⟨fd,hfd,i,hi,d,hd2,x',hx,rfl⟩:=hc
  simp only[execOp,ho]
  exact VP.of hs fun v hv=>fieldA_sound hd hfd hd2 hi (Vl hf hx) hv
 ·
  simp only[Qh] at hc
  obtain⟨x',hx,i',hi',hc⟩:=hc
  simp only[execOp,ho]
  split at hc<;>try (simp only[reduceCtorEq] at hc;done)
  ·rename_i hd
   simp only[Qf] at hc
   obtain⟨i,hi,rfl⟩:=hc
   exact VP.of hs fun v hv=>iaddrA_sound hd hi (Vl hf hx) (Vl hf hi') hv
  ·rename_i hd
   simp only[Qf] at hc
   obtain⟨i,hi,rfl⟩:=hc
   exact VP.of hs fun v hv=>aaddrA_sound hd hi (Vl hf hx) (Vl hf hi') hv
 ·
  simp only[Qh] at hc
  obtain⟨x',hx,i',hi',hc⟩:=hc
  simp only[execOp,ho]
  split at hc<;>try (simp only[reduceCtorEq] at hc;done)
  ·rename_i hd
   simp only[Qa] at hc;subst hc
   exact VP.of hs fun v hv=>sindexA_sound hd (Vl hf hx) (Vl hf hi') hv
  ·rename_i hd
   simp only[Qh,Qf] at hc
   obtain⟨i,hi,d,hd2,rfl⟩:=hc
   exact VP.of hs fun v hv=>aindexA_sound hd hd2 hi (Vl hf hx) (Vl hf hi') hv
 ·
  split at hc<;>try (simp only[reduceCtorEq] at hc;done)
  rename_i hd
  simp only[Qh,Qf] at hc
  obtain⟨d,hk,str,hstr,i,hi,z,hz,zero,hzero,m',hm,k',hk',rfl⟩:=hc
  simp only[execOp,ho]
  exact VP.of hs fun v hv=>lookupA_sound hd hk (keyStr_desc hstr) hi hz (Tu _ _ _ hzero) hs (Vl hf hm) (Vl hf hk') hv
 ·
  split at hc<;>try (simp only[reduceCtorEq] at hc;done)
  rename_i hd
  simp only[Qh,Qf] at hc
  obtain⟨d,hk,str,hstr,m',hm,k',hk',v',hv',rfl⟩:=hc
  simp only[execOp,ho]
  exact VP.ofSt fun st' hv=>mapupA_sound hd hk (keyStr_desc hstr) hs (Vl hf hm) (Vl hf hk') (Vl hf hv') hv
 ·
  simp only[Qh] at hc
  obtain⟨d,hd,hc⟩:=hc
  cases hni:Y3 d
  ·simp[hni] at hc
  ·simp only[hni,Qi,Qh,Qf] at hc
   obtain⟨i,hi,z,hz,zero,hzero,x',hx,rfl⟩:=hc
   simp only[execOp,ho]
   exact VP.of hs fun v hv=>tassertA_sound hd hni hi hz (Tu _ _ _ hzero) (Vl hf hx) hv
 ·
  simp only[Qf] at hc
  obtain⟨x',hx,rfl⟩:=hc
  simp only[execOp,ho]
  exact VP.of hs fun v hv=>extractA_sound (Vl hf hx) hv
 ·
  simp only[Qf] at hc
  obtain⟨x',hx,rfl⟩:=hc
  simp only[execOp,ho]
  exact panic_sound hs (Vl hf hx)
 ·exact cbuiltin_sound ho hf hs hc
theorem cop_call{fz:Bool}{o:Oper}{f:X}{xs:List X}(hc:cop P fz o=some (.call f xs)):
  ∃ fo args ts,o.op=.call { callee:=.value fo,args,argTypes:=ts }/\cx fo=some f/\cxs args.toList=some xs:=by
 unfold cop at hc
 cases hcc:U3 o with
 | none=>
  simp only[hcc,Qh] at hc
  obtain⟨m,_,hc⟩:=hc
  cases hm:m.isCall
  ·simp only[hm,QL] at hc
   cases hm2:m.special
   ·simp only[hm2,Qq,Qa] at hc;subst hc;simp[MOp.isCall] at hm
   ·simp[hm2] at hc
  ·simp[hm] at hc
 | some m=>
  simp only[hcc,Qa] at hc;subst hc
  unfold U3 at hcc
  split at hcc<;>try (simp only[reduceCtorEq] at hcc;done)
  rename_i fo args ts ho
  simp only[Qh,Qf] at hcc
  obtain⟨f',h1,xs',h2,h3⟩:=hcc
  injection h3 with h3 h4
  subst h3;subst h4
  exact⟨fo,args,ts,ho,h1,h2⟩
theorem cop_special{fz:Bool}{o:Oper}{m:MOp}(hc:cop P fz o=some m):m.special=false:=by
 unfold cop at hc
 cases hcc:U3 o with
 | none=>
  simp only[hcc,Qh] at hc
  obtain⟨m',_,hc⟩:=hc
  cases hm:m'.special
  ·cases hm2:m'.isCall
   ·simp only[hm,hm2,Bool.or_self,Qq,Qa] at hc;subst hc;exact hm
   ·simp[hm2] at hc
  ·simp[hm] at hc
 | some m'=>
  simp only[hcc,Qa] at hc;subst hc
  unfold U3 at hcc
  split at hcc<;>try (simp only[reduceCtorEq] at hcc;done)
  simp only[Qh,Qf] at hcc
  obtain⟨f',h1,xs',h2,rfl⟩:=hcc
  rfl
theorem cop_sound{fz:Bool}{m:MOp}{o:Oper}(hf:RvF E w fr a)(hs:Sat E st w)(hc:cop P fz o=some m)(hnc:m.isCall=false):
  VP E w (aop fr st m) ((execOp a.eval o).run P w):=by
 unfold cop at hc
 cases hcc:U3 o with
 | none=>
  simp only[hcc,Qh] at hc
  obtain⟨m',h1,hc⟩:=hc
  simp only[cond_eq_ite,Option.ite_none_left_eq_some,Qa] at hc
  obtain⟨_,rfl⟩:=hc
  exact cop1_sound hf hs h1
 | some m'=>
  simp only[hcc,Qa] at hc;subst hc
  unfold U3 at hcc
  split at hcc<;>try (simp only[reduceCtorEq] at hcc;done)
  simp only[Qh,Qf] at hcc
  obtain⟨f',h1,xs',h2,rfl⟩:=hcc
  simp[MOp.isCall] at hnc
end
end Go.AM
