import Derived.Test.YtejdliehekjicaaGreatAwOp11
import Derived.Laws.IdiomRangeMap
import Derived.RangeFuncNested
import Derived.Laws.StructEq
import Derived.Laws.Tables
import Derived.RangeFuncRecord
import Derived.LoopNIn
import Derived.OrdersIn
set_option linter.unusedSimpArgs false
namespace Go.AM
section
variable {P:Program} {E:Env} {w:World} {st:St}
theorem Sat.freeze(h:Sat E st w){id b:Nat}{es:List (AV × AV)}(hg:st.get id=some (.map es))(hb:E.β id=some b):Sat (E.fzb b) (st.put id (.fmap es)) w/\Ext E w (E.fzb b) w:=by
 have hx:Ext E w (E.fzb b) w:=⟨⟨fun _ _ h=>h,fun _ h=>Or.inr h,fun _ _=>rfl,Qw _,fun _ _ h=>h,rfl,rfl,rfl,fun _ _=>rfl⟩,fun _ h=>h,fun _ _ h=>h⟩
 have ho:=h.obj id _ b hg hb
 have key:∀ i o,(st.put id (.fmap es)).get i=some o->(i=id/\o=.fmap es)\/(i≠id/\st.get i=some o):=fun i o h1=>by
  rw[St.get_put] at h1
  by_cases hi:i=id
  ·rw[Qm hi] at h1;injection h1 with h1;exact .inl ⟨hi,h1.symm⟩
  ·rw[Qe hi] at h1;exact .inr ⟨hi,h1⟩
 refine⟨⟨h.dom,fun c hc=>?_,fun i o c h1 h2=>?_,fun i i' o o' c h1 h2 l1 l2 b1 b2=>?_,fun i o c h1 l1 b1 hf=>?_,h.rs,fun c o hc=>?_,JW.mono h.bt hx.toExt0 rfl⟩,hx⟩
 ·rcases hc with rfl | hc
  ·exact(h.dom id _ hb).2
  ·exact h.fz c hc
 ·rcases key i o h1 with⟨rfl,rfl⟩|⟨hi,h3⟩
  ·have h2:E.β i=some c:=h2
   rw[hb] at h2;injection h2 with h2;subst h2
   obtain⟨l,c,g1,g2⟩:=Wv.mono hx rfl ho
   exact⟨.inl rfl,l,c,g1,g2⟩
  ·exact Wv.mono hx rfl (h.obj i o c h3 h2)
 ·rcases key i o h1 with⟨rfl,rfl⟩|⟨hi,h3⟩
  ·cases l1
  ·rcases key i' o' h2 with⟨rfl,rfl⟩|⟨cj,h4⟩
   ·cases l2
   ·exact h.sep i i' o o' c h3 h4 l1 l2 b1 b2
 ·rcases key i o h1 with⟨rfl,rfl⟩|⟨hi,h3⟩
  ·cases l1
  ·rcases hf with rfl | hf
   ·exact hi (h.sep i id o _ _ h3 hg l1 rfl b1 hb)
   ·exact h.lv i o c h3 l1 b1 hf
 ·obtain⟨g1,g2,g3⟩:=h.dz c o hc
  refine⟨g1,fun hf=>?_,g3⟩
  rcases hf with rfl | hf
  ·obtain⟨l,k,g4,_⟩:=ho
   rw[g1] at g4;injection g4 with g4;subst g4;exact g3
  ·exact g2 hf
theorem rngA_sound{t kt et:TypeId}{x v:AV}{vx:Value}{af:St}(ht:P.underlying t=some (.map kt et))(hs:Sat E st w)(hx:Rv E w x vx)(hr:rngA st x=some (v,af)):
  ∃ u w' E',(Instr.range t vx).run P w=.ok u w'/\Ext E w E' w'/\Sat E' af w'/\Rv E' w' v u:=by
 have fin:∀{E1:Env} {ai:St} {id b:Nat} {es:List (AV × AV)},Ext E w E1 w->Sat E1 ai w->ai.get id=some (.fmap es)->E1.β id=some b->ai.next=st.next ->
   ∃ u w' E',(Instr.range t (.map (some b))).run P w=.ok u w'/\Ext E w E' w'/\Sat E' (ai.new (.iter id [])) w'/\Rv E' w' (.ptr st.next 0) u:=fun {E1 ai id b es} aL cr hg hb hn=>by
  obtain⟨hf,l,clock,h1,_,h3⟩:=cr.obj id _ b hg hb
  obtain⟨h4,h5⟩:=cr.alloc (.mapIter (some b) clock #[] clock) (.iter id []) fun E2 aK=>⟨b,l,clock,clock,aK.β _ _ hb,aK.Fz _ hf,by rw[aK.mem _ hf];exact h1,Vz w _,Qw _,h3.1⟩
  exact⟨_,_,_,run_range_map w t kt et b l clock ht h1,aL.trans h5,h4,w.heap.size,by rw[<-hn];simp[Env.link],rfl⟩
 unfold rngA at hr
 cases x<;>simp only[reduceCtorEq] at hr
 obtain⟨b,hb,rfl⟩:=hx
 rename_i id
 split at hr
 ·rename_i es hg
  simp only[Qa,Q2] at hr
  obtain⟨rfl,rfl⟩:=hr
  obtain⟨h1,h2⟩:=hs.freeze hg hb
  exact fin (es:=es) h2 h1 (by simp) hb rfl
 ·rename_i es hg
  simp only[Qa,Q2] at hr
  obtain⟨rfl,rfl⟩:=hr
  exact fin (Ext.refl E w) hs hg hb rfl
 ·cases hr
theorem run_next_at(w:World)(ty:TypeId)(b bm since c0:Nat)(seen:Array Nat)(es:Array MapEntry)(clock:Nat)(hi:w.heap[b]?=some (.mapIter (some bm) since seen c0))(hb:w.heap[bm]?=some (.map es clock))(cK:∀ x∈es.toList,x.born < since)(gW:since<=c0):
  ((leftOf es seen).size=0/\(Instr.next (.pointer (some ⟨b,0,none⟩)) false ty).run P w=.ok (.tuple #[.bool false]) w) ∨
  ∃ e∈(leftOf es seen).toList,∃ w1:World,(w1=w\/w1=w.drew)/\(Instr.next (.pointer (some ⟨b,0,none⟩)) false ty).run P w=.ok (.tuple #[.bool true,e.key,e.val]) (w1.putObj b (.mapIter (some bm) since (seen.push e.born) clock)):=by
 simp only[Instr.next,getObj,Sem.run_bind,Sem.run,hi,hb,Result.andThen,next_test_false seen es since c0 cK gW,Q1,Xz]
 unfold leftOf
 have aH:∀ x∈(Array.filter (fun e=>!seen.contains e.born) es).toList,x.born < since:=fun x hx=>cK x (by simp at hx ⊢;exact hx.1)
 generalize Array.filter (fun e=>!seen.contains e.born) es=L at aH ⊢
 have e1:L.filter (fun x=>decide (x.born < since))=L:=Array.filter_eq_self.2 (fun x hx=>by simpa using aH x (by simpa using hx))
 have e2:L.filter (fun x=>decide (x.born>=since))=#[]:=by
  rw[Array.filter_eq_empty_iff]
  intro x hx
  have:=aH x (by simpa using hx)
  simp
  omega
 simp only[e1,e2,Array.append_empty]
 by_cases h0:L.size=0
 ·left
  have:L=#[]:=Array.eq_empty_of_size_eq_zero h0
  subst this
  refine⟨rfl,?_⟩
  simp[choose,Sem.run,Question.forced]
 ·right
  have az:L.isEmpty=false:=by simp[Array.isEmpty,h0]
  simp only[az,Q1,Xz,Array.empty_append,Array.size_map]
  have xW:∃ (j:Nat) (w1:World),j < L.size/\(w1=w\/w1=w.drew)/\(choose (Question.mapNext L.size)).run P w=.ok j w1:=by
   by_cases hf:L.size<=1
   ·exact⟨0,w,by omega,.inl rfl,by simp[choose,Sem.run,Question.forced,hf]⟩
   ·exact⟨_,w.drew,Nat.mod_lt _ (by omega),.inr rfl,by
     simp only[choose,Sem.run,Question.forced,QF,hf,Xz,Question.cut]
     rfl⟩
  obtain⟨j,w1,hj,cm,aV⟩:=xW
  refine⟨L[j],by simp,w1,cm,?_⟩
  have xX:w1.heap[b]?=some (.mapIter (some bm) since seen c0):=by rcases cm with rfl | rfl<;>exact hi
  have kq:∀ o':Obj,(setObj b o').run P w1=.ok () (w1.putObj b o'):=fun o'=>by
   simp only[setObj,Sem.run,xX];rfl
  simp only[aV,Array.getElem?_map,QM hj,Ql,Sem.run_bind,kq,Result.andThen]
  rfl
theorem run_entry_at(w:World)(b bm since:Nat)(seen:Array Nat)(es:Array MapEntry)(clock:Nat)(e:MapEntry)(hi:w.heap[b]?=some (.mapIter (some bm) since (seen.push e.born) clock))(hb:w.heap[bm]?=some (.map es clock))(he:e∈es.toList)(hn:(es.toList.map (·.born)).Nodup):
  (Instr.entry (.pointer (some ⟨b,0,none⟩))).run P w=.ok (.tuple #[e.key,e.val]) w:=by
 have hf:es.find? (·.born==e.born)=some e:=by rw[<-Array.find?_toList];exact find_born e es.toList hn he
 simp only[Instr.entry,getObj,Sem.run_bind,Sem.run,hi,hb,Result.andThen,Array.back?_push,bne_self_eq_false,Q1,Xz,hf]
 rfl
theorem RvEs.get:∀{es:List (AV × AV)} {l:List MapEntry} {i:Nat} {k v:AV},RvEs E w es l->es[i]?=some (k,v)->∃ e,l[i]?=some e/\Rv E w k e.key/\Rv E w v e.val
 | [],_,i,_,_,_,h=>by simp at h
 | (_,_)::es,_,0,k,v,⟨x,xs,rfl,h1,h2,_⟩,h=>by
  simp only[Q0,Qa,Q2] at h
  obtain⟨rfl,rfl⟩:=h
  exact⟨x,by simp,h1,h2⟩
 | (_,_)::es,_,i+1,k,v,⟨x,xs,rfl,_,_,h3⟩,h=>by
  simp only[QE] at h ⊢
  exact RvEs.get h3 h
theorem entA_sound{x v:AV}{vx:Value}(hs:Sat E st w)(hx:Rv E w x vx)(hr:entA st x=some v):
  ∃ u,(Instr.entry vx).run P w=.ok u w/\Rv E w v u:=by
 unfold entA at hr
 split at hr<;>try (simp only[reduceCtorEq] at hr;done)
 rename_i id
 obtain⟨b,hb,rfl⟩:=hx
 split at hr<;>try (simp only[reduceCtorEq] at hr;done)
 rename_i m ks hg
 split at hr<;>try (simp only[reduceCtorEq] at hr;done)
 rename_i i hk
 split at hr<;>try (simp only[reduceCtorEq] at hr;done)
 rename_i es hm
 simp only[Qf] at hr
 obtain⟨⟨k,v'⟩,he,rfl⟩:=hr
 obtain⟨bm,l,clock,since,h1,h2,h3,h4,_⟩:=hs.obj id _ b hg hb
 obtain⟨_,l',clock',h5,h6,h7⟩:=hs.obj m _ bm hm h1
 rw[h3] at h5;injection h5 with h5;injection h5 with h5 rn;subst h5;subst rn
 obtain⟨e,q1,q2,q3⟩:=RvEs.get h6 he
 obtain⟨lH,rfl⟩:∃ lH,ks=lH++[i]:=by
  rw[List.getLast?_eq_some_iff] at hk;exact hk
 have hl:(l.getD i default)=e:=by
  rw[QA,<-X7,q1];rfl
 have h8:w.heap[b]?=some (.mapIter (some bm) since ((lH.map fun i=>(l.getD i default).born).toArray.push e.born) clock):=by
  rw[h4];simp only[QQ,Q4,QZ,hl]
  congr 2
  simp
 exact⟨_,run_entry_at w b bm since _ l clock e h8 h3 (Qr q1) h7.2,⟨#[e.key,e.val],rfl,e.key,[e.val],rfl,q2,e.val,[],rfl,q3,rfl⟩⟩
theorem clearA_sound{ts:Array TypeId}{t ty e:TypeId}{i:TypeInfo}{z:Value}{zs:List AV}{x:AV}{vx:Value}{af:St}(be:ts[0]?=some t)(ht:P.underlying t=some (.slice e))(hi:P.info? e=some i)(hz:i.zero=some z)
  (aT:∀ E w,R2 E w zs z.cells.toList) (hs:Sat E st w) (hx:Rv E w x vx) (hr:Ps i.size zs st x=some af):
  ∃ w',(Builtin.clear_ ts ty #[vx]).run P w=.ok (.tuple #[]) w'/\Ext E w E w'/\Sat E af w':=by
 unfold Ps at hr
 split at hr<;>try (simp only[reduceCtorEq] at hr;done)
 ·have hx:vx=.slice none 0 0:=hx
  subst hx
  simp only[Qa] at hr;subst hr
  exact⟨w,by simp[Builtin.clear_,be,underlying,ht],Ext.refl _ _,hs⟩
 ·rename_i id off n s cap lo
  obtain⟨b,c,e',mm,h0,rfl,h1,h2,h3,h4⟩:=hx
  split at hr
  ·simp only[Qa] at hr;subst hr
   exact⟨w,by simp[Builtin.clear_,be,underlying,ht],Ext.refl _ _,hs⟩
  ·split at hr<;>try (simp only[reduceCtorEq] at hr;done)
   rename_i cs ho
   rw[cond_eq_ite] at hr
   split at hr
   case isFalse=>cases hr
   case isTrue aj=>
    simp only[Qa] at hr;subst hr
    simp only[Qd] at aj
    have c1:=Qj aj.1.1.2
    have c2:=Qk aj.1.2
    have k3:R2 E w (Yl zs n) (Builtin.zeroCells z.cells n).toList:=by
     have:=UM (aT E w) n
     exact this
    obtain⟨w',r1,r2,r3⟩:=write_row (P:=P) (off:=off) hs ho h0 k3 (by rw[J0,c1];exact c2) (k3.one aj.2)
    refine⟨w',?_,r3,r2⟩
    simp[Builtin.clear_,be,underlying,ht,Wc hi hz,r1]
theorem SO{d:Nat}{xs ys:Array Value}:∀(fs:List Field) (i:Nat) (cs ds:List AV) (r:Bool),intFs P i fs=true->cs.length=fs.length->Ub cs ds=some r->R2 E w cs (xs.toList.drop i)->R2 E w ds (ys.toList.drop i) ->
  (Op.eqFields (d+1) xs ys fs).run P w=.ok r w
 | [],i,cs,ds,r,_,hl,hr,_,_=>by
  cases cs with
  | cons _ _=>simp at hl
  | nil=>
   cases ds with
   | cons _ _=>simp[Ub] at hr
   | nil=>simp only[Ub,Qa] at hr;subst hr;rfl
 | f::fs,i,cs,ds,r,hf,hl,hr,hx,hy=>by
  cases cs with
  | nil=>simp at hl
  | cons c cs=>
   cases ds with
   | nil=>cases c<;>simp[Ub] at hr
   | cons e ds=>
    cases c<;>try (simp[Ub] at hr;done)
    cases e<;>try (simp[Ub] at hr;done)
    rename_i k a k' b
    simp only[Ub,cond_eq_ite,QF] at hr
    split at hr
    case isFalse=>cases hr
    case isTrue xY=>
    subst xY
    simp only[Qf] at hr
    obtain⟨q,hq,rfl⟩:=hr
    simp only[intFs,Qd,Xy,beq_eq_false_iff_ne,ne_eq] at hf
    obtain⟨⟨⟨h1,h2⟩,h3⟩,h4⟩:=hf
    have h2:=Qj h2
    split at h3<;>try (cases h3;done)
    rename_i k0 hu
    obtain⟨x,ep,lI,aL,bY⟩:=hx
    obtain⟨y,ww,oF,bd,eX⟩:=hy
    have aL:x=.int k a:=aL
    have bd:y=.int k b:=bd
    subst aL;subst bd
    have ex:xs[f.offset]?=some (.int k a):=by
     rw[h2,<-X7]
     have:=Xn (·[0]?) lI
     simpa using this
    have ey:ys[f.offset]?=some (.int k b):=by
     rw[h2,<-X7]
     have:=Xn (·[0]?) oF
     simpa using this
    have px:(part f.type xs f.offset).run P w=.ok (.int k a) w:=by simp[part,isAgg,run_underlying hu,ex]
    have py:(part f.type ys f.offset).run P w=.ok (.int k b) w:=by simp[part,isAgg,run_underlying hu,ey]
    have dx:xs.toList.drop (i+1)=ep:=by
     have:=Xn List.tail lI
     simpa [List.tail_drop] using this
    have dy:ys.toList.drop (i+1)=ww:=by
     have:=Xn List.tail oF
     simpa [List.tail_drop] using this
    have ih:=SO (d:=d) fs (i+1) cs ds q h4 (by simpa using hl) hq (by rw[dx];exact bY) (by rw[dy];exact eX)
    have hk:=run_equalIn_int (P:=P) w d f.type k k0 a b hu
    unfold Op.eqFields
    rw[Qm h1]
    simp only[Sem.run_bind,px,py,hk,Result.andThen_ok]
    by_cases ek:a=b
    ·subst ek;simpa using ih
    ·have:(a==b)=false:=by simpa using ek
     simp[this,ek]
theorem eqagA_sound{t:TypeId}{fs:Array Field}{neg:Bool}{ox oy:Operand}{x y r:AV}{vx vy:Value}(ht:P.underlying t=some (.struct fs))(hf:intFs P 0 fs.toList=true)(hp:P.stoodInHeld t=false)(hm:P.eqGuardType P.depth t=false)
  (hx:Rv E w x vx) (hy:Rv E w y vy) (hr:eqagA fs.size neg x y=some r):
  ∃ u,(do eqGuard (bif neg then .neq else .eql) t ox oy vx vy;binOp (bif neg then .neq else .eql) t vx vy:Sem Value).run P w=.ok u w/\Rv E w r u:=by
 unfold eqagA at hr
 split at hr<;>try (simp only[reduceCtorEq] at hr;done)
 rename_i cs ds
 obtain⟨xs,rfl,hx⟩:=hx
 obtain⟨ys,rfl,hy⟩:=hy
 rw[cond_eq_ite] at hr
 split at hr
 case isFalse=>cases hr
 case isTrue hl=>
  have hl:=Qj hl
  simp only[Qf] at hr
  obtain⟨q,hq,rfl⟩:=hr
  have eC:P.fieldsOf t=fs:=by simp[Program.fieldsOf,ht]
  have h1:=SO (P:=P) (d:=9998) (xs:=xs) (ys:=ys) fs.toList 0 cs ds q hf (by simpa using hl) hq (by simpa using hx) (by simpa using hy)
  have h2:(Op.equalIn 10000 t (.agg xs) (.agg ys)).run P w=.ok q w:=by
   rw[show (10000:Nat)=9999+1 from rfl,run_equalIn_agg w 9999 t xs ys (by rw[eC];exact ht) hp,eC]
   exact h1
  cases neg
  ·refine⟨.bool q,?_,rfl⟩
   simp only[Qq,Sem.run_bind,run_eqGuard_agg w .eql t ox oy xs ys hm,Result.andThen_ok,run_eql_struct,h2]
  ·refine⟨.bool (!q),?_,rfl⟩
   simp only[Qi,Sem.run_bind,run_eqGuard_agg w .neq t ox oy xs ys hm,Result.andThen_ok,run_neq_struct,h2]
end
end Go.AM
namespace Go.AM
theorem Fr.get_set(fr:Fr)(n m:Nat)(o:Option AV):(fr.set n o).get m=if m=n then o else fr.get m:=Tr.get_set ..
theorem Fr.get_nil(n:Nat):Fr.nil.get n=none:=Tr.get_nil n
@[simp] theorem Fr.set_ds (fr:Fr) (n:Nat) (o:Option AV):(fr.set n o).ds=fr.ds:=rfl
section
variable {E:Env} {w:World}
mutual
theorem Tu:∀(f:Nat) (v:Value) (x:AV),cv f v=some x->Rv E w x v
 | 0,_,_,h=>by simp[cv] at h
 | f+1,v,x,h=>by
  unfold cv at h
  split at h<;>simp only[Qa,Qf,reduceCtorEq] at h
  ·subst h;rfl
  ·subst h;rfl
  ·subst h;exact⟨_,rfl,rfl⟩
  ·subst h;rfl
  ·subst h;rfl
  ·subst h;rfl
  ·subst h;rfl
  ·subst h;rfl
  ·obtain⟨y,h,rfl⟩:=h;exact⟨_,rfl,Tu f _ _ h⟩
  ·obtain⟨y,h,rfl⟩:=h;exact⟨_,rfl,KG f _ _ h⟩
  ·obtain⟨y,h,rfl⟩:=h;exact⟨_,rfl,KG f _ _ h⟩
theorem KG:∀(f:Nat) (vs:List Value) (xs:List AV),cvL f vs=some xs->R2 E w xs vs
 | 0,_,_,h=>by simp[cvL] at h
 | f+1,[],xs,h=>by simp[cvL] at h;subst h;rfl
 | f+1,v::vs,xs,h=>by
  simp only[cvL,Qh,Qf] at h
  obtain⟨x,h1,ys,h2,rfl⟩:=h
  exact⟨v,vs,rfl,Tu f v x h1,KG f vs ys h2⟩
end
def RvF(E:Env)(w:World)(fr:Fr)(a:Act):Prop:=∀ n,Rv E w ((fr.get n).getD .undef) (a.tmps.getD n undef)
variable {fr:Fr} {a:Act}
theorem Vl{o:Operand}{x:X}(hf:RvF E w fr a)(h:cx o=some x):Rv E w (ev fr x) (a.eval o):=by
 cases o<;>simp only[cx,Qa,Qf,reduceCtorEq] at h
 ·subst h;exact hf _
 ·obtain⟨y,h,rfl⟩:=h;exact Tu _ _ _ h
 ·subst h;exact⟨#[],#[],rfl,rfl,rfl⟩
theorem JF:∀{os:List Operand} {xs:List X},RvF E w fr a->cxs os=some xs->R2 E w (xs.map (ev fr)) (os.map a.eval)
 | [],xs,_,h=>by simp[cxs] at h;subst h;rfl
 | o::os,xs,hf,h=>by
  simp only[cxs,Qh,Qf] at h
  obtain⟨x,h1,ys,h2,rfl⟩:=h
  exact⟨_,_,rfl,Vl hf h1,JF hf h2⟩
theorem KH{o:Option Operand}{x:Option X}(hf:RvF E w fr a)(h:cxo o=some x):RvO E w (x.map (ev fr)) (o.map a.eval):=by
 cases o with
 | none=>simp[cxo] at h;subst h;rfl
 | some o=>
  simp only[cxo,Qf] at h
  obtain⟨y,h,rfl⟩:=h
  exact⟨_,rfl,Vl hf h⟩
theorem JH{place:Nat->Option (Nat × Nat)}:∀{ps:List (Nat × Operand)} {xs:List (Nat × Nat × X)},RvF E w fr a->Tk place ps=some xs ->
  RvParts E w (WT fr xs) (ps.map fun p=>(p.1,a.eval p.2)) place
 | [],xs,_,h=>by simp[Tk] at h;subst h;rfl
 | (i,o)::ps,xs,hf,h=>by
  simp only[Tk,Qh,Qf] at h
  obtain⟨p,h0,x,h1,ys,h2,rfl⟩:=h
  exact⟨i,a.eval o,_,rfl,h0,Vl hf h1,JH hf h2⟩
theorem Yu{i:TypeInfo}{zs:List AV}(h:KP i=some zs):∃ z,i.zero=some z/\∀ E w,R2 E w zs z.cells.toList:=by
 simp only[KP,Qh] at h
 obtain⟨z,h1,h2⟩:=h
 exact⟨z,h1,fun E w=>KG _ _ _ h2⟩
def VP(E:Env)(w:World)(r:R4)(res:Result Next):Prop:=
 match r with
 | .val v st=>∃ u w' E',(res=.ok (.value u) w'\/(res=.ok .skip w'/\u=undef))/\Ext E w E' w'/\Sat E' st w'/\Rv E' w' v u
 | .pan v st=>∃ u w' E',res=.halt (.panic u) w'/\Ext E w E' w'/\Sat E' st w'/\Rv E' w' v u
 | .stuck=>True
theorem VP.of{st:St}{r:Option AV}{s:Sem Value}{P:Program}(hs:Sat E st w)(h:∀ v,r=some v->∃ u,s.run P w=.ok u w/\Rv E w v u):
  VP E w (R4.of st r) ((do pure (.value (<- s)):Sem Next).run P w):=by
 cases r with
 | none=>trivial
 | some v=>
  obtain⟨u,h1,h2⟩:=h v rfl
  exact⟨u,w,E,.inl (by simp[h1]),Ext.refl _ _,hs,h2⟩
theorem VP.of2{r:Option (AV × St)}{s:Sem Value}{P:Program}(h:∀ v st,r=some (v,st)->∃ u w' E',s.run P w=.ok u w'/\Ext E w E' w'/\Sat E' st w'/\Rv E' w' v u):
  VP E w (R4.of2 r) ((do pure (.value (<- s)):Sem Next).run P w):=by
 cases r with
 | none=>trivial
 | some q=>
  obtain⟨v,st⟩:=q
  obtain⟨u,w',E',h1,h2,h3,h4⟩:=h v st rfl
  exact⟨u,w',E',.inl (by simp[h1]),h2,h3,h4⟩
theorem VP.ofSt{r:Option St}{s:Sem Unit}{P:Program}(h:∀ st,r=some st->∃ w',s.run P w=.ok () w'/\Sat E st w'/\Ext E w E w'):
  VP E w (R4.ofSt r) ((do s;pure .skip:Sem Next).run P w):=by
 cases r with
 | none=>trivial
 | some st=>
  obtain⟨w',h1,h2,h3⟩:=h st rfl
  exact⟨undef,w',E,.inr ⟨by simp[h1],rfl⟩,h3,h2,rfl⟩
end
end Go.AM
namespace Go.AM
theorem intBeq_eq{a b:Int}(h:TO a b=true):a=b:=by
 cases a<;>cases b<;>simp only[TO,Q1] at h
 ·rw[Qj h]
 ·rw[Qj h]
theorem onBeq_eq{a b:Option Nat}(h:onBeq a b=true):a=b:=by
 cases a<;>cases b<;>simp only[onBeq,Q1] at h
 ·rfl
 ·rw[Qj h]
theorem fnBeq_eq{a b:Fn}(h:fnBeq a b=true):a=b:=by
 cases a<;>cases b<;>simp only[fnBeq,Q1] at h
 rw[Qj h]
theorem bBeq_eq{a b:Bool}(h:(bif a then b else !b)=true):a=b:=by cases a<;>cases b<;>simp_all
theorem natsEq_eq:∀{a b:List Nat},WQ a b=true->a=b
 | [],[],_=>rfl
 | [],_::_,h=>by simp[WQ] at h
 | _::_,[],h=>by simp[WQ] at h
 | x::a,y::b,h=>by
  simp only[WQ,Qd] at h
  rw[Qj h.1,natsEq_eq h.2]
mutual
theorem JJ:∀(a b:AV),V8 a b=true->a=b
 | .undef,b,h=>by cases b<;>simp only[V8,Q1] at h;rfl
 | .bool x,b,h=>by cases b<;>simp only[V8,Q1] at h;rw[bBeq_eq h]
 | .int k x,b,h=>by
  cases b<;>simp only[V8,Q1,Qd,QF] at h
  rw[h.1,intBeq_eq h.2]
 | .str x,b,h=>by cases b<;>simp only[V8,Q1] at h;rw[natsEq_eq h]
 | .nilptr,b,h=>by cases b<;>simp only[V8,Q1] at h;rfl
 | .ptr x y,b,h=>by
  cases b<;>simp only[V8,Q1,Qd] at h
  rw[Qj h.1,Qj h.2]
 | .fptr x y,b,h=>by
  cases b<;>simp only[V8,Q1,Qd] at h
  rw[Qj h.1,WL x _ h.2]
 | .nilsl,b,h=>by cases b<;>simp only[V8,Q1] at h;rfl
 | .lst n x e,b,h=>by
  cases b<;>simp only[V8,Q1,Qd] at h
  rw[Qj h.1.1,bBeq_eq h.1.2,WL x _ h.2]
 | .own _ _ _ _ _ _,b,h=>by
  cases b<;>simp only[V8,Q1,Qd] at h
  rw[Qj h.1.1.1.1.1,Qj h.1.1.1.1.2,Qj h.1.1.1.2,Qj h.1.1.2,onBeq_eq h.1.2,Qj h.2]
 | .nilmap,b,h=>by cases b<;>simp only[V8,Q1] at h;rfl
 | .map _,b,h=>by cases b<;>simp only[V8,Q1] at h;rw[Qj h]
 | .func f x y,b,h=>by
  cases b<;>simp only[V8,Q1,Qd] at h
  rw[fnBeq_eq h.1.1,WL x _ h.1.2,WL y _ h.2]
 | .nilfn,b,h=>by cases b<;>simp only[V8,Q1] at h;rfl
 | .niface,b,h=>by cases b<;>simp only[V8,Q1] at h;rfl
 | .iface t x,b,h=>by
  cases b<;>simp only[V8,Q1,Qd] at h
  rw[Qj h.1,JJ x _ h.2]
 | .agg x,b,h=>by cases b<;>simp only[V8,Q1] at h;rw[WL x _ h]
 | .tuple x,b,h=>by cases b<;>simp only[V8,Q1] at h;rw[WL x _ h]
 | .yld x,b,h=>by cases b<;>simp only[V8,Q1] at h;rw[Qj h]
 | .top,b,h=>by cases b<;>simp only[V8,Q1] at h;rfl
theorem WL:∀(a b:List AV),VG a b=true->a=b
 | [],b,h=>by cases b<;>simp only[VG,Q1] at h;rfl
 | x::xs,b,h=>by
  cases b<;>simp only[VG,Q1,Qd] at h
  rw[JJ x _ h.1,WL xs _ h.2]
end
end Go.AM
namespace Go.AM
section
variable {E:Env} {w:World} {P:Program} {fr:Fr} {a:Act} {st:St}
theorem keyStr_desc{d:TypeDesc}{str:Bool}(h:keyStr d=some str):Uj str d:=by
 cases d<;>simp[keyStr] at h<;>subst h
 ·exact .inr ⟨rfl,_,rfl⟩
 ·exact .inl ⟨rfl,rfl⟩
theorem panic_sound{x:AV}{v:Value}(hs:Sat E st w)(hx:Rv E w x v):
  VP E w (panicR st x) ((do pure (.value (<- Instr.panic v)):Sem Next).run P w):=by
 cases x<;>try exact trivial
 have h0:=hx
 obtain⟨y,rfl,hy⟩:=hx
 exact⟨_,w,E,by simp[Instr.panic],Ext.refl _ _,hs,h0⟩
theorem cbin_sound{op:BinOp}{t u:TypeId}{x y:Operand}{m:Rz}{o:Oper}(ho:o.op=.binOp op t x y u)(hf:RvF E w fr a)(hs:Sat E st w)(hc:cbin P op t x y=some m):
  VP E w (R8 fr st m) ((execOp a.eval o).run P w):=by
 simp only[cbin,Qh] at hc
 obtain⟨d,hd,x',hx,y',hy,hc⟩:=hc
 have e1:execOp a.eval o=(do pure (.value (<- (do eqGuard op t x y (a.eval x) (a.eval y);binOp op t (a.eval x) (a.eval y):Sem Value))):Sem Next):=by simp only[execOp,ho]
 rw[e1]
 cases hn:Yy d with
 | none=>
  simp only[hn] at hc
  split at hc
  ·rename_i fs
   rw[cond_eq_ite] at hc
   split at hc
   case isFalse=>cases hc
   case isTrue aj=>
    simp only[Qa] at hc;subst hc
    simp only[Qd,Xy] at aj
    refine VP.of hs fun v hv=>?_
    have cy:op=(bif isNeq op then BinOp.neq else .eql):=by
     cases op<;>first | rfl | (have:=aj.1.1.1;simp[isEq] at this;done)
    have:=eqagA_sound (ox:=x) (oy:=y) hd aj.1.1.2 aj.1.2 aj.2 (Vl hf hx) (Vl hf hy) hv
    rw[<-cy] at this
    exact this
  simp only[Qa] at hc;subst hc
  refine VP.of hs fun v hv=>?_
  have gq:binA op (ev fr x') (ev fr y')=some v/\((∃ b,ev fr x'=.bool b)->isBool d=true):=by
   unfold Vr at hv
   split at hv
   ·cases hb:isBool d
    ·simp[hb] at hv
    ·rename_i he;simp only[hb,Qi] at hv;exact⟨hv,fun _=>rfl⟩
   ·rename_i az;exact⟨hv,fun⟨b,hb⟩=>absurd hb (az b)⟩
  exact binA_sound (Vl hf hx) (Vl hf hy) gq.1 fun hb=>by
   have:=gq.2 hb
   cases d<;>simp[isBool] at this
   exact hd
 | some c=>
  simp only[hn] at hc
  cases aj:(isEq op&&(!(c.beq 4)||Td x||Td y))
  ·simp[aj] at hc
  ·simp only[aj,Qi,Qa] at hc;subst hc
   simp only[Qd] at aj
   have cy:op=.eql\/op=.neq:=by
    cases op<;>first | exact .inl rfl | exact .inr rfl | (have:=aj.1;simp[isEq] at this;done)
   refine VP.of hs fun v hv=>?_
   cases hq:Rg c op (ev fr x') (ev fr y') with
   | none=>
    rw[hq] at hv
    simp only at hv
    cases lJ:ptrSized P d
    ·simp[lJ] at hv
    ·simp only[lJ,Qi] at hv
     refine eqPtrA_sound hd hn cy (fun q xZ=>?_) (Vl hf hx) (Vl hf hy) hv
     subst xZ
     unfold ptrSized at lJ
     simp only at lJ
     split at lJ
     ·rename_i i hi
      exact⟨i,hi,fun h=>by rw[h] at lJ;simp at lJ⟩
     ·cases lJ
   | some v'=>
   rw[hq] at hv
   simp only[Qa] at hv
   subst hv
   refine eqNilA_sound hd hn ?_ ?_ (Vl hf hx) (Vl hf hy) hq
   ·cases op<;>first | exact .inl rfl | exact .inr rfl | (have:=aj.1;simp[isEq] at this;done)
   ·intro h4;subst h4
    have:=aj.2
    simp at this
    rcases this with h | h
    ·left;cases x<;>simp[Td] at h;exact⟨_,rfl⟩
    ·right;cases y<;>simp[Td] at h;exact⟨_,rfl⟩
theorem cbuild_sound{t:TypeId}{ps:Array (Nat × Operand)}{m:Rz}{o:Oper}(ho:o.op=.build t ps)(hf:RvF E w fr a)(hs:Sat E st w)(hc:cbuild P t ps=some m):
  VP E w (R8 fr st m) ((execOp a.eval o).run P w):=by
 simp only[cbuild,Qh] at hc
 obtain⟨i,hi,zs,hz,hc⟩:=hc
 obtain⟨z,gX,aT⟩:=Yu hz
 have e1:execOp a.eval o=(do pure (.value (<- Instr.build t (ps.map fun (i,x)=>(i,a.eval x)))):Sem Next):=by simp only[execOp,ho]
 rw[e1]
 have eY:(ps.map fun (i,x)=>(i,a.eval x)).toList=ps.toList.map fun p=>(p.1,a.eval p.2):=by simp
 cases hd:P.underlying t with
 | none=>simp[hd] at hc
 | some d=>
  cases d<;>try (simp only[hd,reduceCtorEq] at hc;done)
  case array n e=>
   simp only[hd,Qh,Qf] at hc
   obtain⟨ie,pq,xs,bn,rfl⟩:=hc
   refine VP.of hs fun v hv=>?_
   simp only[Qf] at hv
   obtain⟨r,hr,rfl⟩:=hv
   obtain⟨out,h1,h2⟩:=Ki (WT fr xs) (ps.map fun (i,x)=>(i,a.eval x)).toList zs r z.cells (by rw[eY];exact JH hf bn) (aT E w) hr
   exact⟨.agg out,run_build (P:=P) w t _ out (by simp only[Program.built,hi,hd,gX,pq];exact h1),out,rfl,h2⟩
  case struct fs=>
   simp only[hd,Qh,Qf] at hc
   obtain⟨places,bC,xs,bn,rfl⟩:=hc
   refine VP.of hs fun v hv=>?_
   simp only[Qf] at hv
   obtain⟨r,hr,rfl⟩:=hv
   obtain⟨out,h1,h2⟩:=Ki (WT fr xs) (ps.map fun (i,x)=>(i,a.eval x)).toList zs r z.cells (by rw[eY];exact JH hf bn) (aT E w) hr
   exact⟨.agg out,run_build (P:=P) w t _ out (by simp only[Program.built,hi,hd,gX,bC];exact h1),out,rfl,h2⟩
theorem cbslice_sound{fz:Bool}{t:TypeId}{n:Nat}{ps:Array (Nat × Operand)}{m:Rz}{o:Oper}(ho:o.op=.buildSlice t n ps)(hf:RvF E w fr a)(hs:Sat E st w)(hc:cbslice P fz t n ps=some m):
  VP E w (R8 fr st m) ((execOp a.eval o).run P w):=by
 unfold cbslice at hc
 cases hd:P.underlying t with
 | none=>simp[hd] at hc
 | some d=>
  cases d<;>simp only[hd,reduceCtorEq] at hc
  rename_i e
  simp only[Qh] at hc
  obtain⟨i,hi,z,hz,zs,aT,hc⟩:=hc
  cases hb:(n*i.size).ble 16777216
  ·simp[hb] at hc
  ·simp only[hb,Qi,Qf] at hc
   obtain⟨xs,bn,rfl⟩:=hc
   have e1:execOp a.eval o=(do pure (.value (<- Instr.buildSlice t n (ps.map fun (i,x)=>(i,a.eval x)))):Sem Next):=by simp only[execOp,ho]
   rw[e1]
   have eY:(ps.map fun (i,x)=>(i,a.eval x)).toList=ps.toList.map fun p=>(p.1,a.eval p.2):=by simp
   cases fz with
   | true=>
    simp only[Qi,R8]
    cases hr:VN zs (WT fr xs) with
    | none=>trivial
    | some r=>
     cases kj:r.length.beq (n*i.size) with
     | false=>simp only[Qg,kj,Qq];trivial
     | true=>
      simp only[Qg,kj,Qi]
      obtain⟨w',E',h1,h2,h3,h4⟩:=bsliceO_sound (E:=E) (w:=w) (st:=st) hd hi hz (Qk hb) (fun E w=>KG _ _ _ aT) (ps:=WT fr xs) (l:=ps.map fun (i,x)=>(i,a.eval x))
       (by rw[eY];exact JH hf bn) hr (Qj kj) hs
      exact⟨_,w',E',.inl (by simp[h1]),h2,h3,h4⟩
   | false=>
   simp only[Qq,R8]
   cases hr:VN zs (WT fr xs) with
   | none=>trivial
   | some r=>
    obtain⟨w',E',h1,h2,h3,h4⟩:=bslice_sound (E:=E) (w:=w) (st:=st) hd hi hz (Qk hb) (fun E w=>KG _ _ _ aT) (ps:=WT fr xs) (l:=ps.map fun (i,x)=>(i,a.eval x))
     (by rw[eY];exact JH hf bn) hr hs
    exact⟨_,w',E',.inl (by simp[h1]),h2,h3,h4⟩
theorem cbuiltin_sound{b:Builtin}{ts:Array TypeId}{args:Array Operand}{m:Rz}{o:Oper}(ho:o.op=.call { callee:=.builtin b,args,argTypes:=ts })(hf:RvF E w fr a)(hs:Sat E st w)
  (hc:cbuiltin P b ts args.toList=some m):VP E w (R8 fr st m) ((execOp a.eval o).run P w):=by
 have e1:∀ s:Sem Value,(∀ cs,builtin b ts o.type cs (args.map a.eval)=(do pure (.value (<- s)):Sem Next))->execOp a.eval o=(do pure (.value (<- s)):Sem Next):=fun s hs=>by
  simp only[execOp,ho,resolve,invoke]
  simp only[pure_bind]
  exact hs _
 have ba:∀ l,args.toList=l->args.map a.eval=(l.map a.eval).toArray:=fun l hl=>by
  apply XN;simp[hl]
 cases d3:args.toList with
 | nil=>simp[d3,cbuiltin] at hc
 | cons x xs=>
 rw[d3] at hc
 cases b<;>simp only[cbuiltin] at hc<;>try (simp only[reduceCtorEq] at hc;done)
 case append=>
  cases xs with
  | nil=>simp at hc
  | cons y ys=>
  cases ys with
  | cons _ _=>simp at hc
  | nil=>
  have hl:=d3
  simp only[cappend,Qh] at hc
  obtain⟨t,be,u,bT,hc⟩:=hc
  cases hd:P.underlying t with
  | none=>simp[hd] at hc
  | some d=>
   cases d<;>try (simp only[hd,reduceCtorEq] at hc;done)
   rename_i e
   simp only[hd,Qh] at hc
   obtain⟨i,hi,z,hz,hc⟩:=hc
   split at hc
   ·rename_i ki hu
    simp only[Qh,Qf] at hc
    obtain⟨zs,aT,x',hx,y',hy,rfl⟩:=hc
    obtain⟨z',bh,iU⟩:=Yu aT
    rw[hz] at bh;injection bh with bh;subst bh
    rw[e1 (Builtin.append_ ts o.type (args.map a.eval)) fun cs=>rfl,ba _ hl]
    exact VP.of2 fun v af hv=>appendzA_sound (ty:=o.type) be hd hi hz bT hu iU hs (Vl hf hx) (Vl hf hy) hv
   cases aj:(z.cells.size.beq i.size&&sliceStr P u)
   ·simp[aj] at hc
   ·simp only[aj,Qi,Qh,Qf] at hc
    obtain⟨x',hx,y',hy,rfl⟩:=hc
    simp only[Qd] at aj
    have aT:=Qj aj.1
    obtain⟨du,hu,eO⟩:∃ du,P.underlying u=some du/\Kt du:=by
     have:=aj.2
     cases hu:P.underlying u with
     | none=>simp[sliceStr,hu] at this
     | some du=>cases du<;>simp[sliceStr,hu] at this<;>first | exact⟨_,rfl,.inl ⟨_,rfl⟩⟩ | exact⟨_,rfl,.inr rfl⟩
    rw[e1 (Builtin.append_ ts o.type (args.map a.eval)) fun cs=>rfl,ba _ hl]
    simp only[R8]
    cases iS:Wd i.size st (ev fr y') with
    | none=>trivial
    | some p=>
     obtain⟨n,ys⟩:=p
     simp only[]
     cases cM:VX i.bytes i.size st (ev fr x') n ys with
     | none=>trivial
     | some q=>
      obtain⟨v,af⟩:=q
      obtain⟨vs,h1,h2,h3,h4⟩:=S8 (P:=P) hs (Vl hf hy) iS
      obtain⟨q,w',E',k1,k2,k3,k4,k5⟩:=appendA_sound (ty:=o.type) be hd hi hz bT hu eO aT hs (Vl hf hx) h1 h2 h3 h4 cM
      exact⟨q,w',E',.inl (by simpa using Xn (fun r=>Result.andThen r fun v w=>Result.ok (Next.value v) w) k1),k2,tagA_sound k3 (appendA_bt cM) hs (Vl hf hx) k4 k5 (fun t ht=>by
       cases h8:isU8 P e
       ·simp[h8] at ht
       ·simp only[h8,Qi,Qa] at ht;exact ht.symm),k4⟩
 case copy=>
  cases xs with
  | nil=>simp at hc
  | cons y ys=>
  cases ys with
  | cons _ _=>simp at hc
  | nil=>
  have hl:=d3
  simp only[Qh] at hc
  obtain⟨t,be,hc⟩:=hc
  cases hd:P.underlying t with
  | none=>simp[hd] at hc
  | some d=>
   cases d<;>try (simp only[hd,reduceCtorEq] at hc;done)
   simp only[hd,Qh,Qf] at hc
   obtain⟨i,hi,x',hx,y',hy,rfl⟩:=hc
   rw[e1 (Builtin.copy_ ts o.type (args.map a.eval)) fun cs=>rfl,ba _ hl]
   exact VP.of2 fun v af hv=>copyA_sound (ty:=o.type) be hd hi hs (Vl hf hx) (Vl hf hy) hv
 case unsafeSliceData=>
  cases xs with
  | cons _ _=>simp at hc
  | nil=>
  have hl:=d3
  simp only[Qf] at hc
  obtain⟨x',hx,rfl⟩:=hc
  rw[e1 (Builtin.unsafeSliceData_ ts o.type (args.map a.eval)) fun cs=>rfl,ba _ hl]
  exact VP.of hs fun v hv=>sdatA_sound (Vl hf hx) hv
 case unsafeString=>
  cases xs with
  | nil=>simp at hc
  | cons y ys=>
  cases ys with
  | cons _ _=>simp at hc
  | nil=>
  have hl:=d3
  simp only[Qh] at hc
  obtain⟨pt,be,hc⟩:=hc
  split at hc<;>try (simp only[reduceCtorEq] at hc;done)
  rename_i u mE
  simp only[Qh] at hc
  obtain⟨i,hi,hc⟩:=hc
  cases h1:i.size.beq 1
  ·simp[h1] at hc
  ·simp only[h1,Qi,Qh,Qf] at hc
   obtain⟨x',hx,y',hy,rfl⟩:=hc
   rw[e1 (Builtin.unsafeString_ ts o.type (args.map a.eval)) fun cs=>rfl,ba _ hl]
   exact VP.of2 fun v af hv=>ustrA_sound (ty:=o.type) be mE hi (Qj h1) hs (Vl hf hx) (Vl hf hy) hv
 case cap=>
  cases xs with
  | cons _ _=>simp at hc
  | nil=>
  have hl:=d3
  simp only[Qh] at hc
  obtain⟨t,be,hc⟩:=hc
  cases hd:P.underlying t with
  | none=>simp[hd] at hc
  | some d=>
   cases d<;>try (simp only[hd,reduceCtorEq] at hc;done)
   simp only[hd,Qf] at hc
   obtain⟨x',hx,rfl⟩:=hc
   rw[e1 (Builtin.cap_ ts o.type (args.map a.eval)) fun cs=>rfl,ba _ hl]
   exact VP.of hs fun v hv=>capA_sound be hd (Vl hf hx) hv
 case len=>
  cases xs with
  | cons _ _=>simp at hc
  | nil=>
  have hl:=d3
  simp only[Qh,Qf] at hc
  obtain⟨t,be,d,hd,c,hk,x',hx,rfl⟩:=hc
  rw[e1 (Builtin.len_ ts o.type (args.map a.eval)) fun cs=>rfl,ba _ hl]
  refine VP.of hs fun v hv=>?_
  cases aE:VD c (ev fr x')
  ·simp[aE] at hv
  ·simp only[aE,Qi] at hv
   have bB:lenOk (ev fr x') d:=by
    cases d<;>simp[lenKind] at hk<;>subst hk<;>cases aK:ev fr x'<;>simp[aK,VD] at aE<;>simp[lenOk]
   exact lenA_sound be hd bB hs (Vl hf hx) hv
 case clear=>
  cases xs with
  | cons _ _=>simp at hc
  | nil=>
  have hl:=d3
  simp only[Qh] at hc
  obtain⟨t,be,hc⟩:=hc
  cases hd:P.underlying t with
  | none=>simp[hd] at hc
  | some d=>
   cases d<;>simp only[hd,reduceCtorEq] at hc
   simp only[Qh,Qf] at hc
   obtain⟨i,hi,zs,aT,x',hx,rfl⟩:=hc
   obtain⟨z,hz,iU⟩:=Yu aT
   rw[e1 (Builtin.clear_ ts o.type (args.map a.eval)) fun cs=>rfl,ba _ hl]
   refine VP.of2 fun v af hv=>?_
   simp only[Qf,Q2] at hv
   obtain⟨s,hv,rfl,rfl⟩:=hv
   obtain⟨w',h1,h2,h3⟩:=clearA_sound (ty:=o.type) be hd hi hz iU hs (Vl hf hx) hv
   exact⟨_,w',E,h1,h2,h3,rfl⟩
 case max=>
  have hl:=d3
  simp only[Qh,Qf] at hc
  obtain⟨x',hx,ep,bn,rfl⟩:=hc
  rw[e1 (Builtin.max_ ts o.type (args.map a.eval)) fun cs=>rfl,ba _ hl]
  refine VP.of hs fun v hv=>?_
  obtain⟨q,h1,h2⟩:=Sw (P:=P) (f:=maxA) (g:=Builtin.max2) (fun x y r v u h1 h2 h3=>maxA_sound h1 h2 h3) _ _ v _ _ (Vl hf hx) (JF hf bn) hv
  exact⟨q,by simpa [Builtin.max_] using h1,h2⟩
 case min=>
  have hl:=d3
  simp only[Qh,Qf] at hc
  obtain⟨x',hx,ep,bn,rfl⟩:=hc
  rw[e1 (Builtin.min_ ts o.type (args.map a.eval)) fun cs=>rfl,ba _ hl]
  refine VP.of hs fun v hv=>?_
  obtain⟨q,h1,h2⟩:=Sw (P:=P) (f:=minA) (g:=Builtin.min2) (fun x y r v u h1 h2 h3=>minA_sound h1 h2 h3) _ _ v _ _ (Vl hf hx) (JF hf bn) hv
  exact⟨q,by simpa [Builtin.min_] using h1,h2⟩
 case panic=>
  cases xs with
  | cons _ _=>simp at hc
  | nil=>
  have hl:=d3
  simp only[Qf] at hc
  obtain⟨x',hx,rfl⟩:=hc
  rw[e1 (Instr.panic (a.eval x)) fun cs=>by rw[ba _ hl];rfl]
  exact panic_sound hs (Vl hf hx)
theorem allocT_sound{t:TypeId}{i:TypeInfo}{z:Value}{zs:List AV}(hi:P.info? t=some i)(hz:i.zero=some z)(aT:∀ E w,R2 E w zs z.cells.toList)(hs:Sat E st w):
  ∃ w' E',(Instr.alloc t true (.tuple #[])).run P w=.ok (.pointer (some ⟨w.heap.size,0,none⟩)) w'/\Ext E w E' w'/\Sat E' ((st.new (.row zs)).tag st.next t) w' ∧
   Rv E' w' (.ptr st.next 0) (.pointer (some ⟨w.heap.size,0,none⟩))/\True:=by
 obtain⟨h1,h2⟩:=hs.alloc (.cells z.cells t) (.row zs) fun E' aK=>⟨⟨z.cells,t,(0,0),Vz w _,by rw[(aT E w).length];simp,.inl rfl⟩,
  V3.new (vs:=z.cells) (aT _ _) (Vz w _)⟩
 exact⟨_,_,by simp[Instr.alloc,newVar,newRow,Wc hi hz],h2,h1.tag (b:=w.heap.size) (by simp[Env.link]) (Yn w z.cells t (0,0)),⟨w.heap.size,by simp[Env.link],rfl⟩,trivial⟩
theorem cop1_sound{fz:Bool}{m:Rz}{o:Oper}(hf:RvF E w fr a)(hs:Sat E st w)(hc:cop1 P fz o=some m):
  VP E w (R8 fr st m) ((execOp a.eval o).run P w):=by
 unfold cop1 at hc
 split at hc<;>rename_i ho<;>try (simp only[reduceCtorEq] at hc;done)
 ·
  simp only[Qf] at hc
  obtain⟨x',hx,rfl⟩:=hc
  exact⟨_,w,E,.inl (by simp[execOp,ho]),Ext.refl _ _,hs,Vl hf hx⟩
 ·simp only[Qf] at hc
  obtain⟨x',hx,rfl⟩:=hc
  exact⟨_,w,E,.inl (by simp[execOp,ho]),Ext.refl _ _,hs,Vl hf hx⟩
 ·
  simp only[Qh,Qf] at hc
  obtain⟨c',cz,a',ha,b',hb,rfl⟩:=hc
  have h1:=Vl hf cz
  simp only[R8]
  cases gu:ev fr c'<;>try exact trivial
  rw[gu] at h1
  rename_i cb
  have h1:a.eval _=.bool cb:=h1
  refine⟨_,w,E,.inl (by simp[execOp,ho,h1,asBool];rfl),Ext.refl _ _,hs,?_⟩
  cases cb
  ·exact Vl hf hb
  ·exact Vl hf ha
 ·
  simp only[Qh,Qf] at hc
  obtain⟨i,hi,zs,hz,rfl⟩:=hc
  obtain⟨z,gX,aT⟩:=Yu hz
  rename_i ta
  cases fz with
  | false=>
   obtain⟨w',E',h1,h2,h3,h4⟩:=alloc_sound (E:=E) (w:=w) hi gX aT hs
   exact⟨_,w',E',.inl (by simp[execOp,ho,h1]),h2,h3,h4⟩
  | true=>
   obtain⟨w',E',h1,h2,h3,h4,h5⟩:=allocT_sound (E:=E) (w:=w) hi gX aT hs
   exact⟨_,w',E',.inl (by simp[execOp,ho,h1]),h2,h3,h4⟩
 ·
  simp only[Qf] at hc
  obtain⟨x',hx,rfl⟩:=hc
  rename_i elem x0
  cases fz
  ·obtain⟨w',E',h1,h2,h3,h4⟩:=box_sound (P:=P) (e:=elem) hs (Vl hf hx)
   exact⟨_,w',E',.inl (by simp[execOp,ho,h1]),h2,h3,h4⟩
  ·obtain⟨w',E',h1,h2,h3,h4⟩:=box_fz_sound (P:=P) (e:=elem) hs (Vl hf hx)
   exact⟨_,w',E',.inl (by simp[execOp,ho,h1]),h2,h3,h4⟩
 ·exact cbuild_sound ho hf hs hc
 ·exact cbslice_sound ho hf hs hc
 ·
  simp only[Qh,Qf] at hc
  obtain⟨d,hd,i,hi,x',hx,rfl⟩:=hc
  simp only[execOp,ho]
  exact VP.of hs fun v hv=>loadA_sound hd hi rfl hs (Vl hf hx) hv
 ·
  simp only[Qh,Qf] at hc
  obtain⟨i,hi,a',ha,x',hx,rfl⟩:=hc
  simp only[execOp,ho]
  exact VP.ofSt fun af hv=>storeA_sound hi rfl hs (Vl hf ha) (Vl hf hx) hv
 ·
  simp only[Qf] at hc
  obtain⟨x',hx,rfl⟩:=hc
  simp only[R8]
  cases hr:Jd (ev fr x') with
  | none=>exact trivial
  | some r=>
   obtain⟨h1,h2⟩:=nilchkA_sound (P:=P) ho rfl (Vl hf hx) hr
   exact⟨_,w,E,.inl h1,Ext.refl _ _,hs,h2⟩
 ·exact cbin_sound ho hf hs hc
 ·
  simp only[Qf] at hc
  obtain⟨x',hx,rfl⟩:=hc
  simp only[execOp,ho]
  exact VP.of hs fun v hv=>unA_sound (Vl hf hx) hv
 ·
  simp only[Qh] at hc
  obtain⟨ds,dR,hc⟩:=hc
  have wx:∀ e,isU8 P e=true->P.underlying e=some (.int .u8):=fun e he=>by
   unfold isU8 at he
   split at he
   ·assumption
   ·simp at he
  unfold cconv at hc
  split at hc<;>try (simp only[reduceCtorEq] at hc;done)
  ·rename_i k hd
   simp only[Qf] at hc
   obtain⟨x',hx,rfl⟩:=hc
   simp only[execOp,ho]
   exact VP.of hs fun v hv=>convA_sound dR hd (Vl hf hx) hv
  ·rename_i e hd
   split at hc<;>try (simp only[reduceCtorEq] at hc;done)
   cases h8:isU8 P e&&(!e.beq Uf&&!e.beq Pe)
   ·simp[h8] at hc
   ·simp only[h8,Qi,Qf] at hc
    obtain⟨x',hx,rfl⟩:=hc
    simp only[execOp,ho]
    rw[Qd] at h8
    have az:e≠Uf/\e≠Pe:=⟨fun h=>by subst h;simp at h8,fun h=>by subst h;simp at h8⟩
    exact VP.of2 fun v af hv=>s2bA_sound dR hd (wx e h8.1) az hs (Vl hf hx) hv
  ·rename_i hd
   split at hc<;>try (simp only[reduceCtorEq] at hc;done)
   rename_i e
   cases h8:isU8 P e
   ·simp[h8] at hc
   ·simp only[h8,Qi,Qf] at hc
    obtain⟨x',hx,rfl⟩:=hc
    simp only[execOp,ho]
    exact VP.of hs fun v hv=>b2sA_sound dR hd (wx e h8) hs (Vl hf hx) hv
  ·rename_i hd
   split at hc<;>try (simp only[reduceCtorEq] at hc;done)
   simp only[Qh] at hc
   obtain⟨i,hi,hc⟩:=hc
   cases h0:i.size.beq 0
   ·simp only[h0,Qq,Qf] at hc
    obtain⟨x',hx,rfl⟩:=hc
    simp only[execOp,ho]
    exact VP.of hs fun v hv=>ptouA_sound dR hd hi (fun h=>by rw[h] at h0;simp at h0) hs (Vl hf hx) hv
   ·simp[h0] at hc
  ·rename_i u hd
   split at hc<;>try (simp only[reduceCtorEq] at hc;done)
   simp only[Qh] at hc
   obtain⟨i,hi,hc⟩:=hc
   cases h0:i.size.beq 0
   ·simp only[h0,Qq,Qf] at hc
    obtain⟨x',hx,rfl⟩:=hc
    simp only[execOp,ho]
    exact VP.of hs fun v hv=>utopA_sound dR hd hi (fun h=>by rw[h] at h0;simp at h0) hs (Vl hf hx) hv
   ·simp[h0] at hc
 ·
  simp only[Qh] at hc
  obtain⟨d,hd,hc⟩:=hc
  cases eO:Y3 d
  ·simp[eO] at hc
  ·simp only[eO,Qi,Qf] at hc
   obtain⟨x',hx,rfl⟩:=hc
   obtain⟨h1,h2⟩:=makeIface_sound (P:=P) hd eO (Vl hf hx)
   exact⟨_,w,E,.inl (by simp[execOp,ho,h1]),Ext.refl _ _,hs,h2⟩
 ·
  simp only[Qh,Qf] at hc
  obtain⟨ep,bn,ww,yd,rfl⟩:=hc
  rename_i f0 ye yf
  refine⟨.func (.func f0) (ye.map a.eval) (yf.map a.eval),w,E,.inl (by simp[execOp,ho,Instr.makeFunc]),Ext.refl _ _,hs,_,_,rfl,?_,?_⟩
  ·have:=JF hf bn;simpa using this
  ·have:=JF hf yd;simpa using this
 ·
  split at hc<;>try (simp only[reduceCtorEq] at hc;done)
  rename_i hd
  simp only[Qa] at hc;subst hc
  obtain⟨w',E',h1,h2,h3,h4⟩:=makeMap_sound (r:=none) hd (by simp) hs
  exact⟨_,w',E',.inl (by simp[execOp,ho,h1]),h2,h3,h4⟩
 ·
  split at hc<;>try (simp only[reduceCtorEq] at hc;done)
  rename_i hd
  simp only[Qf] at hc
  obtain⟨x',hx,rfl⟩:=hc
  simp only[execOp,ho]
  exact VP.of2 fun v af hv=>by
   obtain⟨u,w',E',h1,h2⟩:=rngA_sound hd hs (Vl hf hx) hv
   exact⟨u,w',E',h1,h2⟩
 ·
  simp only[Qf] at hc
  obtain⟨x',hx,rfl⟩:=hc
  exact trivial
 ·
  simp only[Qf] at hc
  obtain⟨x',hx,rfl⟩:=hc
  simp only[execOp,ho]
  exact VP.of hs fun v hv=>entA_sound hs (Vl hf hx) hv
 ·
  split at hc<;>try (simp only[reduceCtorEq] at hc;done)
  rename_i hd
  simp only[Qh,Qf] at hc
  obtain⟨i,hi,zs,aT,l',hl,c',cz,rfl⟩:=hc
  obtain⟨z,hz,iU⟩:=Yu aT
  simp only[execOp,ho]
  exact VP.of2 fun v af hv=>msliceA_sound hd hi hz iU hs (Vl hf hl) (Vl hf cz) hv
 ·
  simp only[Qh] at hc
  obtain⟨x',hx,gm,fw,cj,wy,B8,lK,hc⟩:=hc
  split at hc<;>try (simp only[reduceCtorEq] at hc;done)
  ·rename_i hd
   simp only[Qf] at hc
   obtain⟨i,hi,rfl⟩:=hc
   simp only[execOp,ho]
   exact VP.of hs fun v hv=>sliceA_sound hd hi (Vl hf hx) (KH hf fw) (KH hf wy) (KH hf lK) hv
  ·rename_i hd
   split at hc<;>try (simp only[reduceCtorEq] at hc;done)
   simp only[Qa] at hc;subst hc
   have hm:=KH hf lK
   simp only[execOp,ho]
   refine VP.of hs fun v hv=>?_
   simp only[Option.map_none,RvO] at hm
   rw[hm]
   exact sliceSA_sound hd (Vl hf hx) (KH hf fw) (KH hf wy) hv
 ·
  split at hc<;>try (simp only[reduceCtorEq] at hc;done)
  rename_i fs hd
  simp only[Qh] at hc
  obtain⟨fd,mG,i,hi,hc⟩:=hc
  cases hz:i.size.beq 0
  ·simp only[hz,Qq,Qf] at hc
   obtain⟨x',hx,rfl⟩:=hc
   simp only[execOp,ho]
   exact VP.of hs fun v hv=>fieldAt_sound hd mG hi (by rintro h;rw[h] at hz;simp at hz) (Vl hf hx) hv
  ·simp[hz] at hc
 ·
  split at hc<;>try (simp only[reduceCtorEq] at hc;done)
  rename_i fs hd
  simp only[Qh,Qf] at hc
  obtain⟨fd,mG,i,hi,d,jO,x',hx,rfl⟩:=hc
  simp only[execOp,ho]
  exact VP.of hs fun v hv=>fieldA_sound hd mG jO hi (Vl hf hx) hv
 ·
  simp only[Qh] at hc
  obtain⟨x',hx,i',cj,hc⟩:=hc
  simp only[execOp,ho]
  split at hc<;>try (simp only[reduceCtorEq] at hc;done)
  ·rename_i hd
   simp only[Qf] at hc
   obtain⟨i,hi,rfl⟩:=hc
   exact VP.of hs fun v hv=>iaddrA_sound hd hi (Vl hf hx) (Vl hf cj) hv
  ·rename_i hd
   simp only[Qf] at hc
   obtain⟨i,hi,rfl⟩:=hc
   exact VP.of hs fun v hv=>aaddrA_sound hd hi (Vl hf hx) (Vl hf cj) hv
 ·
  simp only[Qh] at hc
  obtain⟨x',hx,i',cj,hc⟩:=hc
  simp only[execOp,ho]
  split at hc<;>try (simp only[reduceCtorEq] at hc;done)
  ·rename_i hd
   simp only[Qa] at hc;subst hc
   exact VP.of hs fun v hv=>sindexA_sound hd (Vl hf hx) (Vl hf cj) hv
  ·rename_i hd
   simp only[Qh,Qf] at hc
   obtain⟨i,hi,d,jO,rfl⟩:=hc
   exact VP.of hs fun v hv=>aindexA_sound hd jO hi (Vl hf hx) (Vl hf cj) hv
 ·
  split at hc<;>try (simp only[reduceCtorEq] at hc;done)
  rename_i hd
  simp only[Qh,Qf] at hc
  obtain⟨d,hk,str,dA,i,hi,z,hz,zero,bE,m',hm,k',cf,rfl⟩:=hc
  simp only[execOp,ho]
  exact VP.of hs fun v hv=>lookupA_sound hd hk (keyStr_desc dA) hi hz (Tu _ _ _ bE) hs (Vl hf hm) (Vl hf cf) hv
 ·
  split at hc<;>try (simp only[reduceCtorEq] at hc;done)
  rename_i hd
  simp only[Qh,Qf] at hc
  obtain⟨d,hk,str,dA,m',hm,k',cf,v',gq,rfl⟩:=hc
  simp only[execOp,ho]
  exact VP.ofSt fun af hv=>mapupA_sound hd hk (keyStr_desc dA) hs (Vl hf hm) (Vl hf cf) (Vl hf gq) hv
 ·
  simp only[Qh] at hc
  obtain⟨d,hd,hc⟩:=hc
  cases eO:Y3 d
  ·simp[eO] at hc
  ·simp only[eO,Qi,Qh,Qf] at hc
   obtain⟨i,hi,z,hz,zero,bE,x',hx,rfl⟩:=hc
   simp only[execOp,ho]
   exact VP.of hs fun v hv=>tassertA_sound hd eO hi hz (Tu _ _ _ bE) (Vl hf hx) hv
 ·
  simp only[Qf] at hc
  obtain⟨x',hx,rfl⟩:=hc
  simp only[execOp,ho]
  exact VP.of hs fun v hv=>extractA_sound (Vl hf hx) hv
 ·
  simp only[Qf] at hc
  obtain⟨x',hx,rfl⟩:=hc
  simp only[execOp,ho]
  exact panic_sound hs (Vl hf hx)
 ·exact cbuiltin_sound ho hf hs hc
theorem cop_call{fz:Bool}{o:Oper}{f:X}{xs:List X}(hc:cop P fz o=some (.call f xs)):
  ∃ fo args ts,o.op=.call { callee:=.value fo,args,argTypes:=ts }/\cx fo=some f/\cxs args.toList=some xs:=by
 unfold cop at hc
 cases cV:U3 o with
 | none=>
  simp only[cV,Qh] at hc
  obtain⟨m,_,hc⟩:=hc
  cases hm:m.isCall
  ·simp only[hm,QL] at hc
   cases gY:m.special
   ·simp only[gY,Qq,Qa] at hc;subst hc;simp[Rz.isCall] at hm
   ·simp[gY] at hc
  ·simp[hm] at hc
 | some m=>
  simp only[cV,Qa] at hc;subst hc
  unfold U3 at cV
  split at cV<;>try (simp only[reduceCtorEq] at cV;done)
  rename_i fo args ts ho
  simp only[Qh,Qf] at cV
  obtain⟨f',h1,ep,h2,h3⟩:=cV
  injection h3 with h3 h4
  subst h3;subst h4
  exact⟨fo,args,ts,ho,h1,h2⟩
theorem cop_special{fz:Bool}{o:Oper}{m:Rz}(hc:cop P fz o=some m):m.special=false:=by
 unfold cop at hc
 cases cV:U3 o with
 | none=>
  simp only[cV,Qh] at hc
  obtain⟨m',_,hc⟩:=hc
  cases hm:m'.special
  ·cases gY:m'.isCall
   ·simp only[hm,gY,Bool.or_self,Qq,Qa] at hc;subst hc;exact hm
   ·simp[gY] at hc
  ·simp[hm] at hc
 | some m'=>
  simp only[cV,Qa] at hc;subst hc
  unfold U3 at cV
  split at cV<;>try (simp only[reduceCtorEq] at cV;done)
  simp only[Qh,Qf] at cV
  obtain⟨f',h1,ep,h2,rfl⟩:=cV
  rfl
theorem cop_sound{fz:Bool}{m:Rz}{o:Oper}(hf:RvF E w fr a)(hs:Sat E st w)(hc:cop P fz o=some m)(sK:m.isCall=false):
  VP E w (R8 fr st m) ((execOp a.eval o).run P w):=by
 unfold cop at hc
 cases cV:U3 o with
 | none=>
  simp only[cV,Qh] at hc
  obtain⟨m',h1,hc⟩:=hc
  simp only[cond_eq_ite,Option.ite_none_left_eq_some,Qa] at hc
  obtain⟨_,rfl⟩:=hc
  exact cop1_sound hf hs h1
 | some m'=>
  simp only[cV,Qa] at hc;subst hc
  unfold U3 at cV
  split at cV<;>try (simp only[reduceCtorEq] at cV;done)
  simp only[Qh,Qf] at cV
  obtain⟨f',h1,ep,h2,rfl⟩:=cV
  simp[Rz.isCall] at sK
end
end Go.AM
namespace Go.AM
@[simp] theorem Fr.put_ds (fr:Fr) (d:Option Nat) (v:AV):(Fr.put fr d v).ds=fr.ds:=by cases d<;>rfl
def Pa(b0:Option Nat):Fence:={ Fence.wide with round:=b0 }
def Yh(P:Program)(f:Nat):Prop:=∀ args w,(callFunc f args).run P w=.ok (.enter f args) w
def Ya(P:Program)(f:Nat)(vs:Array Value)(w:World)(R:Ending->World->Prop):Prop:=
 (Yh P f/\Calls P f vs w R)\/∃ v w',(callFunc f vs).run P w=.ok (.value v) w'/\R (.returned v) w'
def YCall(P:Program)(b:Nat)(vs:Array Value)(w:World)(R:Ending->World->Prop):Prop:=
 ∃ f tmps assign body,(Instr.yield b vs).run P w=.ok (.round b f tmps assign body) w/\RoundIn Fence.wide 0 P b f tmps assign body w R
def YO(E:Env)(w:World)(v:AV)(af:St):Ending->World->Prop:=fun e w'=>∃ u E',e=.returned u/\Ext E w E' w'/\Sat E' af w'/\Rv E' w' v u
def PanR(E:Env)(w:World)(v:AV)(af:St):Ending->World->Prop:=fun e w'=>∃ u E',e=.panicked [{ v:=u,recovered:=false }]/\Ext E w E' w'/\Sat E' af w'/\Rv E' w' v u
def FnOk(P:Program)(g:Nat->List AV->St->FR)(E:Env)(w:World):Prop:=∀(f:Nat) (args:List AV) (st:St) (vs:Array Value),R2 E w args vs.toList->Sat E st w ->
 (∀ v af,g f args st=.ret v af->Ya P f vs w (YO E w v af))/\(∀ v af,g f args st=.pan v af->Ya P f vs w (PanR E w v af))
def YldOk(P:Program)(y:Nat->List AV->St->FR)(E:Env)(w:World):Prop:=∀(id b:Nat) (args:List AV) (st:St) (vs:Array Value),E.β id=some b->R2 E w args vs.toList->Sat E st w ->
 ∀ v af,y id args st=.ret v af->YCall P b vs w (YO E w v af)
structure U6(P:Program)(Γ:Cg)(E:Env)(w:World):Prop where
 fn:∀ E' w',Ext E w E' w'->FnOk P Γ.fn E' w'
 yld:∀ E' w',Ext E w E' w'->YldOk P Γ.yld E' w'
theorem U6.mono{P:Program}{Γ:Cg}{E E':Env}{w w':World}(h:U6 P Γ E w)(hx:Ext E w E' w'):U6 P Γ E' w':=
 ⟨fun _ _ h2=>h.fn _ _ (hx.trans h2),fun _ _ h2=>h.yld _ _ (hx.trans h2)⟩
def RvD(P:Program)(E:Env)(w:World)(B:Nat):Nat->List DA->List Deferred->Prop
 | _,[],l=>l=[]
 | U,.call n args::ds,l=>∃ d l' vs,l=d::l'/\(∃ fv cap,d.target=.fn fv cap)/\(∀ w,(invoke d.target d.args).run P w=(callFunc n vs).run P w)/\R2 E w args vs.toList/\RvD P E w B U ds l'
 | U,.coll::ds,l=>∃ d l' D,l=d::l'/\d.target=.collected D/\B<=D/\D < U/\E.Dz D=some (.deferred (some []))/\RvD P E w B D ds l'
theorem RvD.mono{P:Program}{E E':Env}{w w':World}{B:Nat}(hx:Ext E w E' w'):∀{ds:List DA} {l:List Deferred} {U U':Nat},U<=U'->RvD P E w B U ds l->RvD P E' w' B U' ds l
 | [],_,_,_,_,h=>h
 | .call n args::ds,_,_,_,hU,⟨d,l',vs,h1,h2,h3,h4,h5⟩=>⟨d,l',vs,h1,h2,h3,R2.mono hx _ _ h4,RvD.mono hx hU h5⟩
 | .coll::ds,_,_,_,hU,⟨d,l',D,h1,h2,h3,h4,h5,h6⟩=>⟨d,l',D,h1,h2,h3,by omega,hx.Dz _ _ h5,RvD.mono hx (Qw _) h6⟩
structure RT(P:Program)(E:Env)(w:World)(N B:Nat)(fr:Fr)(a:Act):Prop where
 f:RvF E w fr a
 n:a.tmps.size=N
 d:RvD P E w B w.heap.size fr.ds a.defers
 b:B<=w.heap.size
structure RvP(P:Program)(E:Env)(w:World)(B:Nat)(fr:Fr)(a:Act):Prop where
 f:∀ n v,fr.get n=some v->Rv E w v (a.tmps.getD n undef)
 d:RvD P E w B w.heap.size fr.ds a.defers
section
variable {P:Program} {Γ:Cg}
theorem RvF.put{E:Env}{w:World}{fr:Fr}{a:Act}{v:AV}{u:Value}{d:Option Nat}(hf:RvF E w fr a)(hv:Rv E w v u)(hd:Un a.tmps.size d=true):RvF E w (Fr.put fr d v) (a.put d u):=by
 cases d with
 | none=>exact hf
 | some d=>
  have hd:=Qk hd
  intro n
  simp only[Fr.put,Act.put,Fr.get_set]
  by_cases hn:n=d
  ·subst hn
   simp only[Xj,Q9]
   have:(a.tmps.setIfInBounds n u).getD n undef=u:=by
    simp[QA,(show n < a.tmps.size by omega)]
   rw[this];exact hv
  ·simp only[Qe hn]
   have:(a.tmps.setIfInBounds d u).getD n undef=a.tmps.getD n undef:=by
    simp[QA,Zv (show d≠n by omega)]
   rw[this];exact hf n
theorem RvF.mono{E E':Env}{w w':World}{fr:Fr}{a:Act}(h:Ext E w E' w')(hf:RvF E w fr a):RvF E' w' fr a:=fun n=>Rv.mono h _ _ (hf n)
theorem put_size(a:Act)(d:Option Nat)(u:Value):(a.put d u).tmps.size=a.tmps.size:=by cases d<;>simp[Act.put]
theorem put_defers'(a:Act)(d:Option Nat)(u:Value):(a.put d u).defers=a.defers:=by cases d<;>rfl
theorem JG{E:Env}{w:World}{fr:Fr}{a:Act}{ops:Array Oper}{o:Oper}{g:Option (Nat × Bool)}{b:Bool}(hf:RvF E w fr a)(hg:cguard ops o=some g)(hw:Vv fr g=some b):
  Region.wanted o (yielded ops a.tmps)=b:=by
 unfold cguard at hg
 unfold Region.wanted
 cases ho:o.guard with
 | none=>simp only[ho,Qa] at hg;subst hg;simp[Vv] at hw;simp[hw]
 | some q=>
  obtain⟨j,want⟩:=q
  simp only[ho,Qf] at hg
  obtain⟨t,ht,rfl⟩:=hg
  simp only[Vv] at hw
  have hr:=hf t
  have hy:∀ v,a.tmps.getD t undef=v->yielded ops a.tmps j=match v with | .bool b=>(if t < a.tmps.size then some b else none) | _=>none:=fun v hv=>by
   unfold yielded
   rw[ht]
   simp only[Qg]
   by_cases am:t < a.tmps.size
   ·have:a.tmps[t]?=some v:=by
     rw[QA] at hv
     rw[QM am] at hv ⊢
     simpa using hv
    rw[this];simp only[am,Xj];cases v<;>rfl
   ·rw[Zp (by omega)]
    rw[QA,Zp (by omega)] at hv
    simp only[X5] at hv
    subst hv;rfl
  cases hv:(fr.get t).getD .undef<;>simp only[hv,Qa,reduceCtorEq] at hw
  ·rw[hv] at hr
   have hr:a.tmps.getD t undef=.tuple #[]:=hr
   simp only[hy _ hr];subst hw;simp
  ·rw[hv] at hr
   rename_i c
   have hr:a.tmps.getD t undef=.bool c:=hr
   have am:t < a.tmps.size:=by
    by_cases am:t < a.tmps.size
    ·exact am
    ·rw[QA,Zp (by omega)] at hr;simp[undef] at hr
   simp only[hy _ hr,am,Xj]
   subst hw
   cases want<;>cases c<;>rfl
theorem RT.mono{E E':Env}{w w':World}{N B:Nat}{fr:Fr}{a:Act}(h:Ext E w E' w')(ha:RT P E w N B fr a):RT P E' w' N B fr a:=⟨ha.f.mono h,ha.n,ha.d.mono h h.size,QY ha.b h.size⟩
theorem RvF.part{E:Env}{w:World}{fr:Fr}{a:Act}(h:RvF E w fr a):∀ n v,fr.get n=some v->Rv E w v (a.tmps.getD n undef):=fun n v hn=>by
 have:=h n
 rw[hn] at this
 exact this
theorem RT.toP{E:Env}{w:World}{N B:Nat}{fr:Fr}{a:Act}(h:RT P E w N B fr a):RvP P E w B fr a:=⟨h.f.part,h.d⟩
theorem RT.put{E:Env}{w:World}{N B:Nat}{fr:Fr}{a:Act}{v:AV}{u:Value}{d:Option Nat}(h:RT P E w N B fr a)(hv:Rv E w v u)(hd:Un N d=true):RT P E w N B (Fr.put fr d v) (a.put d u):=
 ⟨h.f.put hv (by rw[h.n];exact hd),by rw[put_size];exact h.n,by rw[put_defers',Fr.put_ds];exact h.d,h.b⟩
theorem cop_noDefer{fz:Bool}{o:Oper}{m:Rz}(h:cop P fz o=some m):∀ c,o.op≠.defer c:=by
 intro c hc
 unfold cop U3 cop1 at h
 simp[hc] at h
theorem UX(b0:Option Nat):(Pa b0).depth.isSome=true->1<=0:=fun h=>by cases h
theorem UN{E:Env}{w:World}{fr:Fr}{a:Act}{st:St}{o:Oper}{fz:Bool}{b0:Option Nat}{K:Act->World->Prop}{Q:Exit->Act->World->Prop}(hΓ:U6 P Γ E w)(hf:RvF E w fr a)(hs:Sat E st w)
  (r:R4) (hr:RD Γ fr st ((cop P fz o).getD .bad)=r)
  (fP:∀ v af,r=.val v af->∀ E' w' u,Ext E w E' w'->Sat E' af w'->Rv E' w' v u->K (a.put o.dst u) w')
  (pu:∀ v af,r=.pan v af->∀ E' w' u,Ext E w E' w'->Sat E' af w'->Rv E' w' v u->Q (.panic [{ v:=u,recovered:=false }]) a w') (ax:r≠.stuck):o.wpIn (Pa b0) 0 P a w K Q:=by
 cases hc:cop P fz o with
 | none=>simp[hc,RD,R8] at hr;exact absurd hr.symm ax
 | some m=>
  simp only[hc,Q9] at hr
  refine⟨fun _ _=>trivial,?_⟩
  rw[Oper.semAt_eq _ _ _ (cop_noDefer hc)]
  by_cases ay:m.isCall=true
  ·
   cases m<;>simp[Rz.isCall] at ay
   rename_i f xs
   simp only[RD] at hr
   obtain⟨fo,args,ts,ho,eC,bn⟩:=cop_call hc
   have fQ:=Vl hf eC
   have oG:=JF hf bn
   unfold YJ at hr
   split at hr
   ·rename_i n first captured jP
    rw[jP] at fQ
    obtain⟨v1,v2,e1,h1,h2⟩:=fQ
    have ba:R2 E w (first++xs.map (ev fr)++captured) (v1++args.map a.eval++v2).toList:=by
     simp only[Zi,ZT]
     exact(h1.append oG).append h2
    have hS:=hΓ.fn E w (Ext.refl _ _) n _ st _ ba hs
    have aV:(execOp a.eval o).run P w=(callFunc n (v1++args.map a.eval++v2)).run P w:=by
     simp only[execOp,ho,resolve,e1,Deferred.ofValue,Sem.run_bind,Sem.run_pure,Result.andThen,invoke]
    rw[aV]
    cases hg:Γ.fn n (first++xs.map (ev fr)++captured) st with
    | ret v af=>
     rw[hg] at hr
     rcases hS.1 v af hg with⟨gv,ay⟩|⟨u,w',hv,u',E',h3,h4,h5,h6⟩
     ·rw[gv]
      refine⟨UX b0,(callsIn_wide (n:=0)).2 (ay.mono fun e w' ⟨u,E',h3,h4,h5,h6⟩=>?_)⟩
      subst h3
      exact fP v af hr.symm E' w' u h4 h5 h6
     ·rw[hv]
      injection h3 with h3;subst h3
      exact fP v af hr.symm E' w' u h4 h5 h6
    | pan v af=>
     rw[hg] at hr
     rcases hS.2 v af hg with⟨gv,ay⟩|⟨u,w',hv,u',E',h3,h4,h5,h6⟩
     ·rw[gv]
      refine⟨UX b0,(callsIn_wide (n:=0)).2 (ay.mono fun e w' ⟨u,E',h3,h4,h5,h6⟩=>?_)⟩
      subst h3
      exact pu v af hr.symm E' w' u h4 h5 h6
     ·cases h3
    | stuck=>rw[hg] at hr;exact absurd hr.symm ax
   ·rename_i id jP
    rw[jP] at fQ
    obtain⟨b,hb,e1⟩:=fQ
    have ba:R2 E w (xs.map (ev fr)) (args.map a.eval).toList:=by simpa using oG
    split at hr
    ·rename_i v af hg
     obtain⟨f',tmps,assign,body,hy,dC⟩:=hΓ.yld E w (Ext.refl _ _) id b _ st _ hb ba hs v af hg
     have aV:(execOp a.eval o).run P w=(Instr.yield b (args.map a.eval)).run P w:=by
      simp only[execOp,ho,resolve,e1,Deferred.ofValue,Sem.run_bind,Sem.run_pure,Result.andThen,invoke]
      simp
     rw[aV,hy]
     have hR:RoundIn (Pa b0) 0 P b f' tmps assign body w (YO E w v af):=dC
     refine⟨UX b0,hR.mono fun e w' ⟨u,E',h3,h4,h5,h6⟩=>?_⟩
     subst h3
     exact fP v af hr.symm E' w' u h4 h5 h6
    ·exact absurd hr.symm ax
   ·exact absurd hr.symm ax
  ·have ay:m.isCall=false:=by simpa using ay
   have fx:R8 fr st m=r:=by cases m<;>simp[Rz.isCall] at ay<;>exact hr
   have:=cop_sound hf hs hc ay
   rw[fx] at this
   cases r with
   | val v af=>
    obtain⟨u,w',E',h1,h2,h3,h4⟩:=this
    rcases h1 with h1|⟨h1,h5⟩
    ·rw[h1];exact fP v af rfl E' w' u h2 h3 h4
    ·rw[h1];subst h5;exact fP v af rfl E' w' _ h2 h3 h4
   | pan v af=>
    obtain⟨u,w',E',h1,h2,h3,h4⟩:=this
    rw[h1];exact pu v af rfl E' w' u h2 h3 h4
   | stuck=>exact absurd rfl ax
def U9(P:Program)(E:Env)(w:World)(N B:Nat)(r:RR):Exit->Act->World->Prop:=fun e a' w'=>
 match r with
 | .ok fr st=>e=.normal/\∃ E',Ext E w E' w'/\Sat E' st w'/\RT P E' w' N B fr a'
 | .pan fr v st=>∃ u E',e=.panic [{ v:=u,recovered:=false }]/\Ext E w E' w'/\Sat E' st w'/\Rv E' w' v u/\RvP P E' w' B fr a'
 | .stuck=>False
theorem U9.mono{E E1:Env}{w w1:World}{N B:Nat}{r:RR}(h:Ext E w E1 w1){e:Exit}{a:Act}{w':World}(hr:U9 P E1 w1 N B r e a w'):U9 P E w N B r e a w':=by
 cases r with
 | ok fr st=>obtain⟨h1,E',h2,h3⟩:=hr;exact⟨h1,E',h.trans h2,h3⟩
 | pan fr v st=>obtain⟨u,E',h1,h2,h3⟩:=hr;exact⟨u,E',h1,h.trans h2,h3⟩
 | stuck=>exact hr.elim
def WI(F:Fence)(n:Nat)(P:Program)(ops:Array Oper)(Q:Exit->Act->World->Prop):List Oper->Act->World->Prop
 | [],a,w=>Q .normal a w
 | o::l,a,w=>if Region.wanted o (yielded ops a.tmps) then o.wpIn F n P a w (WI F n P ops Q l) Q
  else (∀ f,o.about P w a.eval=some f->F.fn f)/\WI F n P ops Q l (a.put o.dst undef) w
theorem uponIn_mono{F:Fence}{n:Nat}{o:Oper}{a:Act}{K K':Act->World->Prop}{Q Q':Exit->Act->World->Prop}(hk:∀ a w,K a w->K' a w)(hq:∀ e a w,Q e a w->Q' e a w){r:Result Next}(h:o.uponIn F n P a K Q r):o.uponIn F n P a K' Q' r:=by
 have hl:LetsOut Q->LetsOut Q':=fun⟨a0,w0,h0⟩=>⟨a0,w0,hq _ _ _ h0⟩
 cases r with
 | ok x w'=>
  cases x with
  | row row args=>exact⟨h.1,h.2.mono fun v w'' he=>hk _ _ he⟩
  | enter f args=>
   exact⟨h.1,h.2.mono fun e w'' he=>by
    cases e
    ·exact hk _ _ he
    ·exact hq _ _ _ he
    ·exact hl he⟩
  | round l f tmps assign body=>
   exact⟨h.1,h.2.mono fun e w'' he=>by
    cases e
    ·exact hk _ _ he
    ·exact hq _ _ _ he
    ·exact hl he⟩
  | value v=>exact hk _ _ h
  | skip=>exact hk _ _ h
  | defer d=>exact hk _ _ h
  | _=>exact h.elim
 | halt x w'=>cases x<;>simp only[Oper.uponIn] at h ⊢<;>exact hq _ _ _ h
theorem Jo{F:Fence}{n:Nat}{ops:Array Oper}{Q Q':Exit->Act->World->Prop}(hq:∀ e a w,Q e a w->Q' e a w):∀(l:List Oper) (a:Act) (w:World),WI F n P ops Q l a w->WI F n P ops Q' l a w
 | [],_,_,h=>hq _ _ _ h
 | o::l,a,w,h=>by
  unfold WI at *
  split
  ·rename_i hw;simp only[hw,Xj] at h
   exact⟨h.1,uponIn_mono (fun a w=>Jo hq l a w) hq h.2⟩
  ·rename_i hw;simp only[hw] at h;exact⟨h.1,Jo hq l _ _ h.2⟩
theorem UJ{F:Fence}{n:Nat}{ops:Array Oper}{Q:Exit->Act->World->Prop}:∀(os:List Oper) (i:Nat) (a:Act) (w:World),(∀ k,k < os.length->ops[i+k]?=os[k]?)->WI F n P ops Q os a w->wpOpsIn F n P ops Q (List.range' i os.length) a w
 | [],_,_,_,_,h=>h
 | o::os,i,a,w,hk,h=>by
  have h0:=hk 0 (by simp)
  simp only[XA,Q0] at h0
  have hr:∀ k,k < os.length->ops[i+1+k]?=os[k]?:=fun k am=>by
   have:=hk (k+1) (by simp;omega)
   rw[show i+1+k=i+(k+1) by omega,this];simp
  simp only[QC,ZU,wpOpsIn,h0]
  unfold WI at h
  split
  ·rename_i hw;simp only[hw,Xj] at h
   exact⟨h.1,uponIn_mono (fun a w=>UJ os (i+1) a w hr) (fun _ _ _ h=>h) h.2⟩
  ·rename_i hw;simp only[hw] at h
   exact⟨h.1,UJ os (i+1) _ w hr h.2⟩
theorem Ty{F:Fence}{n id:Nat}{ops:Array Oper}{Q:Exit->Act->World->Prop}{a:Act}{w:World}(h:WI F n P ops Q ops.toList a w):(Code.region id ops false).wpIn F n P Q a w:=by
 refine wpIn_region ?_
 have:=UJ (n:=n) (F:=F) (Q:=Q) (ops:=ops) ops.toList 0 a w (fun k _=>by simp) h
 rw[Zy]
 simpa using this
theorem cspec_defer{rd:Bool}{o:Oper}{m:Rz}(h:YD rd o=some m)(hd:m.isDefer=true):rd=false/\∃ fo args ts f xs,m=.defer f xs/\o.op=.defer { callee:=.value fo,args,argTypes:=ts }/\cx fo=some f/\cxs args.toList=some xs:=by
 unfold YD at h
 split at h
 ·rename_i fo args ts ho
  cases rd with
  | true=>cases h
  | false=>
   simp only[Qq,Qh,Qf] at h
   obtain⟨f,h1,xs,h2,rfl⟩:=h
   exact⟨rfl,fo,args,ts,f,xs,rfl,ho,h1,h2⟩
 ·injection h with h;subst h;cases hd
 ·cases h
theorem KN{ops:Array Oper}{N B:Nat}{rd:Bool}{pol:Nat->Bool}{b0:Option Nat}(ch:rd=false->b0=none):∀(os:List Oper) (i:Nat) (ms:List Vc) (E:Env) (w:World) (fr:Fr) (a:Act) (st:St) (r:RR),
  U6 P Γ E w->Yx P ops N rd pol i os=some ms->Vj Γ ms fr st=r->r≠.stuck->RT P E w N B fr a->Sat E st w->WI (Pa b0) 0 P ops (U9 P E w N B r) os a w
 | [],i,ms,E,w,fr,a,st,r,hΓ,hc,hr,ax,hf,hs=>by
  simp only[Yx,Qa] at hc;subst hc
  simp only[Vj] at hr;subst hr
  exact⟨rfl,E,Ext.refl _ _,hs,hf⟩
 | o::os,i,ms,E,w,fr,a,st,r,hΓ,hc,hr,ax,hf,hs=>by
  simp only[Yx,Qh,Qf] at hc
  obtain⟨m,hm,gZ,dl,rfl⟩:=hc
  simp only[coper,Qh] at hm
  obtain⟨g,hg,hm⟩:=hm
  cases hd:Un N o.dst
  ·simp[hd] at hm
  ·simp only[hd,Qi,Qa] at hm
   unfold WI
   have pw:m.guard=g:=by rw[<-hm]
   have oH:m.dst=o.dst:=by rw[<-hm]
   have cE:m.op=match YD rd o with | some m=>m | none=>(cop P (pol i) o).getD .bad:=by subst hm;rfl
   simp only[Vj,pw,oH] at hr
   cases hw:Vv fr g with
   | none=>simp only[hw] at hr;exact absurd hr.symm ax
   | some b=>
    have eZ:=JG hf.f hg hw
    cases b with
    | false=>
     simp only[hw] at hr
     simp only[eZ,Q1,Xz]
     exact⟨fun _ _=>trivial,KN ch os (i+1) gZ E w _ _ st r hΓ dl hr ax (hf.put rfl hd) hs⟩
    | true=>
     simp only[hw] at hr
     simp only[eZ,Xj]
     cases dE:m.op.isDefer with
     | true=>
      simp only[dE,Qi] at hr
      cases bf:YD rd o with
      | none=>
       rw[bf] at cE
       simp only at cE
       cases hc:cop P (pol i) o with
       | none=>rw[hc] at cE;rw[cE] at dE;cases dE
       | some m'=>
        rw[hc] at cE
        have:=cop_special hc
        rw[cE] at dE
        simp only[Q9] at dE
        cases m'<;>simp[Rz.isDefer,Rz.special] at dE this
      | some m'=>
       rw[bf] at cE
       simp only at cE
       rw[cE] at dE hr
       obtain⟨sL,fo,args,ts,f,xs,rfl,ho,h1,h2⟩:=cspec_defer bf dE
       have lG:=ch sL
       subst lG
       simp only[Jr] at hr
       have fQ:=Vl hf.f h1
       have oG:=JF hf.f h2
       cases jP:ev fr f with
       | func fn first captured=>
        cases fn with
        | func n=>
         rw[jP] at hr fQ
         simp only at hr
         obtain⟨v1,v2,e1,h3,h4⟩:=fQ
         have aV:(execOp a.eval o).run P w=.ok (.defer { target:=.fn (.func n) v2,args:=v1++args.map a.eval }) w:=by
          simp only[execOp,ho,resolve,e1,Deferred.ofValue,Sem.run_bind,Sem.run_pure,Result.andThen]
         refine⟨fun _ _=>trivial,?_⟩
         have sM:(o.semAt (Pa none).round a.eval).run P w=(execOp a.eval o).run P w:=rfl
         rw[sM,aV]
         have ba:R2 E w (first++xs.map (ev fr)++captured) (v1++args.map a.eval++v2).toList:=by
          simp only[Zi,ZT]
          exact(h3.append oG).append h4
         refine KN ch os (i+1) gZ E w _ _ st r hΓ dl hr ax (RT.put (fr:={ fr with ds:=_ }) (a:={ a with defers:=_ }) ⟨hf.f,hf.n,?_,hf.b⟩ rfl hd) hs
         exact⟨_,_,v1++args.map a.eval++v2,rfl,⟨_,_,rfl⟩,fun _=>rfl,ba,hf.d⟩
        | _=>rw[jP] at hr;exact absurd hr.symm ax
       | _=>rw[jP] at hr;exact absurd hr.symm ax
     | false=>
      simp only[dE,Qq] at hr
      cases bf:YD rd o with
      | some m'=>
       rw[bf] at cE
       simp only at cE
       exfalso
       unfold YD at bf
       split at bf
       ·cases rd with
        | true=>cases bf
        | false=>
         simp only[Qq,Qh,Qf] at bf
         obtain⟨f,_,xs,_,rfl⟩:=bf
         rw[cE] at dE;cases dE
       ·injection bf with bf
        rw[cE,<-bf] at hr
        exact ax hr.symm
       ·cases bf
      | none=>
       rw[bf] at cE
       simp only at cE
       rw[cE] at hr
       cases ho:RD Γ fr st ((cop P (pol i) o).getD .bad) with
       | stuck=>simp only[ho] at hr;exact absurd hr.symm ax
       | pan v af=>
        simp only[ho] at hr
        refine UN hΓ hf.f hs _ ho (fun v' bp h=>by cases h) (fun v' bp h E' w' u h1 h2 h3=>?_) (by simp)
        cases h
        subst hr
        exact⟨u,E',rfl,h1,h2,h3,(hf.mono h1).toP⟩
       | val v af=>
        simp only[ho] at hr
        refine UN hΓ hf.f hs _ ho (fun v' bp h E' w' u h1 h2 h3=>?_) (fun v' bp h=>by cases h) (by simp)
        cases h
        exact Jo (fun _ _ _ hq=>U9.mono h1 hq) _ _ _ (KN ch os (i+1) gZ E' w' _ _ af r (hΓ.mono h1) dl hr ax ((hf.mono h1).put h3 hd) h2)
end
end Go.AM
namespace Go.AM
theorem UI{fr aa:Fr}{ps:List (Nat × Nat × X)}(h:∀ x∈ps.map (fun p=>p.2.2),ev fr x=ev aa x):WT fr ps=WT aa ps:=by
 unfold WT
 exact QX fun p hp=>by rw[h p.2.2 (Q6.2 ⟨p,hp,rfl⟩)]
theorem KZ{fr aa:Fr}{o:Option X}(h:∀ x∈o.toList,ev fr x=ev aa x):o.map (ev fr)=o.map (ev aa):=by
 cases o with
 | none=>rfl
 | some x=>simp[h x (by simp)]
theorem opr_congr{Γ:Cg}{fr aa:Fr}{st:St}{m:Rz}(h:∀ x∈m.xs,ev fr x=ev aa x):RD Γ fr st m=RD Γ aa st m:=by
 cases m<;>simp only[Rz.xs] at h
 case build zs ps=>simp only[RD,R8,UI h]
 case bslice n zs ps=>simp only[RD,R8,UI h]
 case bsliceO e n sz zs ps=>simp only[RD,R8,UI h]
 case mkfn f xs ys=>
  have h1:xs.map (ev fr)=xs.map (ev aa):=QX fun x hx=>h x (by simp[hx])
  have h2:ys.map (ev fr)=ys.map (ev aa):=QX fun x hx=>h x (by simp[hx])
  simp only[RD,R8,h1,h2]
 case slice sz x lo hi mx=>
  simp only[RD,R8,h x (by simp),KZ (fr:=fr) (aa:=aa) (o:=lo) (fun y hy=>h y (by simp[XZ.1 hy])),KZ (fr:=fr) (aa:=aa) (o:=hi) (fun y hy=>h y (by simp[XZ.1 hy])),
   KZ (fr:=fr) (aa:=aa) (o:=mx) (fun y hy=>h y (by simp[XZ.1 hy]))]
 case sliceS x lo hi=>
  simp only[RD,R8,h x (by simp),KZ (fr:=fr) (aa:=aa) (o:=lo) (fun y hy=>h y (by simp[XZ.1 hy])),KZ (fr:=fr) (aa:=aa) (o:=hi) (fun y hy=>h y (by simp[XZ.1 hy]))]
 case max x xs=>
  have h1:xs.map (ev fr)=xs.map (ev aa):=QX fun y hy=>h y (by simp[hy])
  simp only[RD,R8,h x (by simp),h1]
 case min x xs=>
  have h1:xs.map (ev fr)=xs.map (ev aa):=QX fun y hy=>h y (by simp[hy])
  simp only[RD,R8,h x (by simp),h1]
 case call f xs=>
  have h1:xs.map (ev fr)=xs.map (ev aa):=QX fun y hy=>h y (by simp[hy])
  simp only[RD,h f (by simp),h1]
 case defer f xs=>rfl
 all_goals simp only[Qx,QI,Xh,forall_eq_or_imp,forall_eq,false_imp_iff,implies_true] at h
 all_goals first
  | (simp only[RD,R8,h];done)
  | (obtain⟨h1,h2⟩:=h;simp only[RD,R8,h1,h2];done)
  | (obtain⟨h1,h2,h3⟩:=h;simp only[RD,R8,h1,h2,h3];done)
  | rfl
def Rz.ahead:Rz->Bool
 | .alloc _=>true
 | .mksl _ _ _ _ _=>true
 | _=>false
theorem oprD_congr{Γ:Cg}{id:Nat}{fr aa:Fr}{st:St}{m:Rz}(h:∀ x∈m.xs,ev fr x=ev aa x):V5 Γ id fr st m=V5 Γ id aa st m:=by
 have:=opr_congr (Γ:=Γ) (st:=st) h
 cases m
 case mksl bytes sz zs l c=>
  simp only[V5]
  rw[h l (by simp[Rz.xs]),h c (by simp[Rz.xs])]
 all_goals simp only[V5]<;>exact this
theorem of_still{st:St}{r:Option AV}:R4.of st r=.stuck\/∃ v,R4.of st r=.val v st:=by
 cases r with
 | none=>exact .inl rfl
 | some v=>exact .inr ⟨v,rfl⟩
theorem SH{Γ:Cg}{id:Nat}{fr:Fr}{st:St}{m:Rz}(he:m.effect=false):V5 Γ id fr st m=.stuck\/∃ v,V5 Γ id fr st m=.val v st:=by
 cases m<;>simp only[Rz.effect,reduceCtorEq,Z5] at he
 case alloc zs=>
  unfold V5
  simp only
  split
  ·cases h:VG _ zs
   ·exact .inl rfl
   ·exact .inr ⟨_,rfl⟩
  ·exact .inl rfl
 case box fz x=>subst he;exact .inr ⟨_,rfl⟩
 case pick c a b=>
  simp only[V5,RD,R8]
  split
  ·exact .inr ⟨_,rfl⟩
  ·exact .inl rfl
 all_goals first
  | exact of_still
  | exact .inr ⟨_,rfl⟩
  | exact .inl rfl
theorem of_pure{st ai af:St}{r:Option AV}{v:AV}(h:R4.of st r=.val v ai):R4.of af r=.val v af:=by
 cases r with
 | none=>cases h
 | some u=>simp only[R4.of,R4.val.injEq,ZW] at h ⊢;exact h.1
theorem oprD_pure{Γ:Cg}{id:Nat}{fr:Fr}{st ai af:St}{m:Rz}{v:AV}(he:m.effect=false)(hr:m.reads=false)(h:V5 Γ id fr st m=.val v ai):V5 Γ id fr af m=.val v af:=by
 cases m<;>simp only[Rz.effect,Rz.reads,reduceCtorEq,Z5] at he hr
 case box fz x=>subst he;simp only[V5,RD,R8,Qi,R4.val.injEq,ZW] at h ⊢;exact h.1
 case pick c a b=>
  simp only[V5,RD,R8] at h ⊢
  split at h
  ·simp only[R4.val.injEq] at h;simp only[R4.val.injEq,ZW];exact h.1
  ·cases h
 case bad=>cases h
 case defer f xs=>cases h
 case recov=>cases h
 all_goals first
  | exact of_pure h
  | (simp only[V5,RD,R8,R4.val.injEq,ZW] at h ⊢;exact h.1)
def RH:List (Vc × Nat)->List RF->(Nat->Bool)->Nat->Fr->Fr
 | z::zs,.val _ _ v _::ak,L,i,fr=>RH zs ak L (i+1) (bif L i then Fr.put fr z.1.dst v else fr)
 | _::zs,_::ak,L,i,fr=>RH zs ak L (i+1) fr
 | _,_,_,_,fr=>fr
def RJ:List (Vc × Nat)->List RF->(Nat->Bool)->Nat->St->St
 | z::zs,.val _ _ _ af::ak,L,i,st=>RJ zs ak L (i+1) (bif L i&&z.1.op.effect then af else st)
 | _::zs,_::ak,L,i,st=>RJ zs ak L (i+1) st
 | _,_,_,_,st=>st
theorem YE:∀(zs:List (Vc × Nat)) (ak:List RF) (L L':Nat->Bool) (i:Nat) (st:St),(∀ k z,zs[k]?=some z->z.1.op.effect=true->(∃ a b c d,ak[k]?=some (.val a b c d))->L (i+k)=L' (i+k))->RJ zs ak L i st=RJ zs ak L' i st
 | [],_,_,_,_,_,_=>by unfold RJ;rfl
 | z::zs,[],_,_,_,_,_=>by unfold RJ;rfl
 | z::zs,it::ak,L,L',i,st,h=>by
  have hr:∀ k z',zs[k]?=some z'->z'.1.op.effect=true->(∃ a b c d,ak[k]?=some (.val a b c d))->L (i+1+k)=L' (i+1+k):=fun k z' h1 h2 h3=>by
   rw[show i+1+k=i+(k+1) by omega];exact h (k+1) z' (by simpa using h1) h2 (by simpa using h3)
  cases it<;>simp only[RJ]
  ·exact YE zs ak L L' _ _ hr
  ·rename_i a b c d
   cases he:z.1.op.effect
   ·simp only[QK];exact YE zs ak L L' _ _ hr
   ·have:=h 0 z rfl he ⟨_,_,_,_,rfl⟩
    simp only[XA] at this
    rw[this];exact YE zs ak L L' _ _ hr
  ·exact YE zs ak L L' _ _ hr
theorem Ts:∀(zs:List (Vc × Nat)) (ak:List RF) (L:Nat->Bool) (i:Nat) (fr:Fr),(∀ k,i<=k->L k=false)->RH zs ak L i fr=fr
 | [],_,_,_,_,_=>by unfold RH;rfl
 | z::zs,[],_,_,_,_=>by unfold RH;rfl
 | z::zs,it::ak,L,i,fr,h=>by
  cases it<;>simp only[RH,h i (Qw _),Qq]<;>exact Ts zs ak L _ _ fun k hk=>h k (by omega)
theorem Tj:∀(zs:List (Vc × Nat)) (ak:List RF) (L:Nat->Bool) (i:Nat) (st:St),(∀ k,i<=k->L k=false)->RJ zs ak L i st=st
 | [],_,_,_,_,_=>by unfold RJ;rfl
 | z::zs,[],_,_,_,_=>by unfold RJ;rfl
 | z::zs,it::ak,L,i,st,h=>by
  cases it<;>simp only[RJ,h i (Qw _),Q8,Qq]<;>exact Tj zs ak L _ _ fun k hk=>h k (by omega)
def ItOk(Γ:Cg)(zs:List (Vc × Nat))(ak:List RF)(i id:Nat)(fr:Fr)(st:St)(pan:Option Nat)(j:Nat)(z:Vc × Nat):RF->Prop
 | .dead=>(∃ p,pan=some p/\z.2.testBit p=true)\/∃ j' a b c d,ak[j']?=some (.pan a b c d)/\z.2.testBit (i+j')=true
 | .val aa af v bp=>aa=RH zs ak (fun k=>decide (k < i+j)) i fr/\af=RJ zs ak (fun k=>decide (k < i+j)) i st ∧
  ((Vv aa z.1.guard=some true/\V5 Γ (Wf zs j id) aa af z.1.op=.val v bp)\/(Vv aa z.1.guard=some false/\v=.undef/\bp=af))
 | .pan aa af v bp=>aa=RH zs ak (fun k=>decide (k < i+j)) i fr/\af=RJ zs ak (fun k=>decide (k < i+j)) i st ∧
  Vv aa z.1.guard=some true/\V5 Γ (Wf zs j id) aa af z.1.op=.pan v bp
theorem DR.cons_some{it:RF}{o:Option DR}{ak:List RF}{fr:Fr}{st:St}(h:DR.cons it o=some (ak,fr,st)):∃ bK,ak=it::bK/\o=some (bK,fr,st):=by
 cases o with
 | none=>cases h
 | some d=>
  obtain⟨a,b,c⟩:=d
  simp only[DR.cons,Qa,Q2] at h
  exact⟨a,h.1.symm,by rw[h.2.1,h.2.2]⟩
theorem still_st{Γ:Cg}{id:Nat}{fr:Fr}{st af:St}{m:Rz}{v:AV}(he:m.effect=false)(h:V5 Γ id fr st m=.val v af):af=st:=by
 rcases SH (Γ:=Γ) (id:=id) (fr:=fr) (st:=st) he with h'|⟨u,h'⟩
 ·rw[h'] at h;cases h
 ·rw[h'] at h;injection h with _ h;exact h.symm
theorem Jf{Γ:Cg}:∀(zs:List (Vc × Nat)) (i id:Nat) (fr:Fr) (st:St) (pan:Option Nat) (ak:List RF) (frE:Fr) (stE:St),Wq Γ zs i id fr st pan=some (ak,frE,stE) ->
  ak.length=zs.length/\frE=RH zs ak (fun _=>true) i fr/\stE=RJ zs ak (fun _=>true) i st ∧
  ∀ j z it,zs[j]?=some z->ak[j]?=some it->ItOk Γ zs ak i id fr st pan j z it
 | [],i,id,fr,st,pan,ak,frE,stE,h=>by
  simp only[Wq,Qa,Q2] at h
  obtain⟨rfl,rfl,rfl⟩:=h
  exact⟨rfl,rfl,rfl,fun j z it hz=>by simp at hz⟩
 | z::zs,i,id,fr,st,pan,ak,frE,stE,h=>by
  have nf:∀ k,i<=k->decide (k < i+0)=false:=fun k hk=>by simp;omega
  have B9:∀ k,i+1<=k->decide (k < i+0)=false:=fun k hk=>by simp;omega
  have sh:∀ j,(fun k=>decide (k < i+(j+1)))=fun k=>decide (k < i+1+j):=fun j=>by funext k;congr 1;rw[show i+(j+1)=i+1+j by omega]
  simp only[Wq] at h
  cases hd:Ku pan z.2
  ·simp only[hd,Qq] at h
   cases hw:Vv fr z.1.guard with
   | none=>simp[hw] at h
   | some b=>
    cases b with
    | false=>
     simp only[hw] at h
     obtain⟨bK,rfl,h'⟩:=DR.cons_some h
     obtain⟨h1,h2,h3,h4⟩:=Jf zs _ _ _ _ _ _ _ _ h'
     refine⟨by simp[h1],by simpa [RH] using h2,?_,fun j z' it hz aW=>?_⟩
     ·simp only[RJ,Q3];cases z.1.op.effect<;>exact h3
     ·cases j with
      | zero=>
       simp only[Q0,Qa] at hz aW
       subst hz;subst aW
       exact⟨(Ts _ _ _ _ _ nf).symm,(Tj _ _ _ _ _ nf).symm,.inr ⟨hw,rfl,rfl⟩⟩
      | succ j=>
       simp only[QE] at hz aW
       have h5:=h4 j z' it hz aW
       cases it with
       | dead=>
        rcases h5 with⟨p,h6,h7⟩|⟨j',a,b,c,d,h6,h7⟩
        ·exact .inl ⟨p,h6,h7⟩
        ·exact .inr ⟨j'+1,a,b,c,d,by simpa using h6,by rw[show i+(j'+1)=i+1+j' by omega];exact h7⟩
       | val a b c d=>
        obtain⟨h6,h7,h8⟩:=h5
        refine⟨?_,?_,h8⟩
        ·rw[h6,sh j];simp only[RH,show decide (i < i+1+j)=true by simp;omega,Qi]
        ·rw[h7,sh j];simp only[RJ];cases decide (i < i+1+j)&&z.1.op.effect<;>rfl
       | pan a b c d=>
        obtain⟨h6,h7,h8⟩:=h5
        refine⟨?_,?_,h8⟩
        ·rw[h6,sh j];simp only[RH,show decide (i < i+1+j)=true by simp;omega,Qi]
        ·rw[h7,sh j];simp only[RJ];cases decide (i < i+1+j)&&z.1.op.effect<;>rfl
    | true=>
     simp only[hw] at h
     cases ho:V5 Γ id fr st z.1.op with
     | stuck=>simp[ho] at h
     | val v af=>
      simp only[ho] at h
      obtain⟨bK,rfl,h'⟩:=DR.cons_some h
      obtain⟨h1,h2,h3,h4⟩:=Jf zs _ _ _ _ _ _ _ _ h'
      have ax:(bif z.1.op.effect then af else st)=af:=by
       cases he:z.1.op.effect
       ·exact(still_st he ho).symm
       ·rfl
      refine⟨by simp[h1],by simpa [RH] using h2,?_,fun j z' it hz aW=>?_⟩
      ·simp only[RJ,Q3,ax];exact h3
      ·cases j with
       | zero=>
        simp only[Q0,Qa] at hz aW
        subst hz;subst aW
        exact⟨(Ts _ _ _ _ _ nf).symm,(Tj _ _ _ _ _ nf).symm,.inl ⟨hw,ho⟩⟩
       | succ j=>
        simp only[QE] at hz aW
        have h5:=h4 j z' it hz aW
        cases it with
        | dead=>
         rcases h5 with⟨p,h6,h7⟩|⟨j',a,b,c,d,h6,h7⟩
         ·exact .inl ⟨p,h6,h7⟩
         ·exact .inr ⟨j'+1,a,b,c,d,by simpa using h6,by rw[show i+(j'+1)=i+1+j' by omega];exact h7⟩
        | val a b c d=>
         obtain⟨h6,h7,h8⟩:=h5
         refine⟨?_,?_,h8⟩
         ·rw[h6,sh j];simp only[RH,show decide (i < i+1+j)=true by simp;omega,Qi]
         ·rw[h7,sh j];simp only[RJ,show decide (i < i+1+j)=true by simp;omega,Q3,ax]
        | pan a b c d=>
         obtain⟨h6,h7,h8⟩:=h5
         refine⟨?_,?_,h8⟩
         ·rw[h6,sh j];simp only[RH,show decide (i < i+1+j)=true by simp;omega,Qi]
         ·rw[h7,sh j];simp only[RJ,show decide (i < i+1+j)=true by simp;omega,Q3,ax]
     | pan v af=>
      simp only[ho] at h
      cases pan with
      | some p=>simp at h
      | none=>
       simp only at h
       obtain⟨bK,rfl,h'⟩:=DR.cons_some h
       obtain⟨h1,h2,h3,h4⟩:=Jf zs _ _ _ _ _ _ _ _ h'
       refine⟨by simp[h1],by simpa [RH] using h2,by simpa [RJ] using h3,fun j z' it hz aW=>?_⟩
       cases j with
       | zero=>
        simp only[Q0,Qa] at hz aW
        subst hz;subst aW
        exact⟨(Ts _ _ _ _ _ nf).symm,(Tj _ _ _ _ _ nf).symm,hw,ho⟩
       | succ j=>
        simp only[QE] at hz aW
        have h5:=h4 j z' it hz aW
        cases it with
        | dead=>
         rcases h5 with⟨p,h6,h7⟩|⟨j',a,b,c,d,h6,h7⟩
         ·injection h6 with h6;subst h6
          exact .inr ⟨0,fr,st,v,af,rfl,h7⟩
         ·exact .inr ⟨j'+1,a,b,c,d,by simpa using h6,by rw[show i+(j'+1)=i+1+j' by omega];exact h7⟩
        | val a b c d=>
         obtain⟨h6,h7,h8⟩:=h5
         exact⟨by rw[h6,sh j];simp only[RH],by rw[h7,sh j];simp only[RJ],h8⟩
        | pan a b c d=>
         obtain⟨h6,h7,h8⟩:=h5
         exact⟨by rw[h6,sh j];simp only[RH],by rw[h7,sh j];simp only[RJ],h8⟩
  ·simp only[hd,Qi] at h
   obtain⟨bK,rfl,h'⟩:=DR.cons_some h
   obtain⟨h1,h2,h3,h4⟩:=Jf zs _ _ _ _ _ _ _ _ h'
   refine⟨by simp[h1],by simpa [RH] using h2,by simpa [RJ] using h3,fun j z' it hz aW=>?_⟩
   cases j with
   | zero=>
    simp only[Q0,Qa] at hz aW
    subst hz;subst aW
    cases pan with
    | none=>simp[Ku] at hd
    | some p=>exact .inl ⟨p,rfl,hd⟩
   | succ j=>
    simp only[QE] at hz aW
    have h5:=h4 j z' it hz aW
    cases it with
    | dead=>
     rcases h5 with⟨p,h6,h7⟩|⟨j',a,b,c,d,h6,h7⟩
     ·exact .inl ⟨p,h6,h7⟩
     ·exact .inr ⟨j'+1,a,b,c,d,by simpa using h6,by rw[show i+(j'+1)=i+1+j' by omega];exact h7⟩
    | val a b c d=>
     obtain⟨h6,h7,h8⟩:=h5
     exact⟨by rw[h6,sh j];simp only[RH],by rw[h7,sh j];simp only[RJ],h8⟩
    | pan a b c d=>
     obtain⟨h6,h7,h8⟩:=h5
     exact⟨by rw[h6,sh j];simp only[RH],by rw[h7,sh j];simp only[RJ],h8⟩
theorem T6{Γ:Cg}:∀(zs:List (Vc × Nat)) (i id:Nat) (fr:Fr) (st:St) (pan:Option Nat) (ak:List RF) (frE:Fr) (stE:St),Wq Γ zs i id fr st pan=some (ak,frE,stE) ->
  (∀ p,pan=some p->∀(j:Nat) (a:Fr) (b:St) (c:AV) (d:St),ak[j]?≠some (RF.pan a b c d))/\∀(j:Nat) (a:Fr) (b:St) (c:AV) (d:St),ak[j]?=some (RF.pan a b c d)->JE ak=some (c,d)
 | [],i,id,fr,st,pan,ak,frE,stE,h=>by
  simp only[Wq,Qa,Q2] at h
  obtain⟨rfl,rfl,rfl⟩:=h
  exact⟨fun _ _ _ _ _ _ _=>by simp,fun _ _ _ _ _ h=>by simp at h⟩
 | z::zs,i,id,fr,st,pan,ak,frE,stE,h=>by
  simp only[Wq] at h
  have go:∀ it bK mH,(∀ a b c d,it≠RF.pan a b c d)->(mH=pan)->ak=it::bK->(∀ p,mH=some p->∀(j:Nat) (a:Fr) (b:St) (c:AV) (d:St),bK[j]?≠some (RF.pan a b c d))->(∀(j:Nat) (a:Fr) (b:St) (c:AV) (d:St),bK[j]?=some (RF.pan a b c d)->JE bK=some (c,d)) ->
    (∀ p,pan=some p->∀(j:Nat) (a:Fr) (b:St) (c:AV) (d:St),ak[j]?≠some (RF.pan a b c d))/\∀(j:Nat) (a:Fr) (b:St) (c:AV) (d:St),ak[j]?=some (RF.pan a b c d)->JE ak=some (c,d):=fun it bK mH az hp he h1 h2=>by
   subst he;subst hp
   refine⟨fun p hp j a b c d hj=>?_,fun j a b c d hj=>?_⟩
   ·cases j with
    | zero=>simp at hj;exact az _ _ _ _ hj
    | succ j=>exact h1 p hp j a b c d (by simpa using hj)
   ·cases j with
    | zero=>simp at hj;exact absurd hj (az _ _ _ _)
    | succ j=>
     have:=h2 j a b c d (by simpa using hj)
     cases it with
     | dead=>exact this
     | val _ _ _ _=>exact this
     | pan a b c d=>exact absurd rfl (az a b c d)
  cases hd:Ku pan z.2
  ·simp only[hd,Qq] at h
   cases hw:Vv fr z.1.guard with
   | none=>simp[hw] at h
   | some b=>
    cases b with
    | false=>
     simp only[hw] at h
     obtain⟨bK,he,h'⟩:=DR.cons_some h
     obtain⟨h1,h2⟩:=T6 zs _ _ _ _ _ _ _ _ h'
     exact go _ bK pan (by simp) rfl he h1 h2
    | true=>
     simp only[hw] at h
     cases ho:V5 Γ id fr st z.1.op with
     | stuck=>simp[ho] at h
     | val v af=>
      simp only[ho] at h
      obtain⟨bK,he,h'⟩:=DR.cons_some h
      obtain⟨h1,h2⟩:=T6 zs _ _ _ _ _ _ _ _ h'
      exact go _ bK pan (by simp) rfl he h1 h2
     | pan v af=>
      simp only[ho] at h
      cases pan with
      | some p=>simp at h
      | none=>
       simp only at h
       obtain⟨bK,rfl,h'⟩:=DR.cons_some h
       obtain⟨h1,h2⟩:=T6 zs _ _ _ _ _ _ _ _ h'
       refine⟨fun p hp=>(by cases hp),fun j a b c d hj=>?_⟩
       cases j with
       | zero=>simp only[Q0,Qa,RF.pan.injEq] at hj;simp[JE,hj]
       | succ j=>exact absurd (by simpa using hj) (h1 i rfl j a b c d)
  ·simp only[hd,Qi] at h
   obtain⟨bK,he,h'⟩:=DR.cons_some h
   obtain⟨h1,h2⟩:=T6 zs _ _ _ _ _ _ _ _ h'
   exact go _ bK pan (by simp) rfl he h1 h2
section
variable {md:Region.Mode} {ops:Array Oper} {listed:Array Bool}
def Back(md:Region.Mode)(ops:Array Oper):Prop:=∀(i:Nat) (o:Oper),ops[i]?=some o->∀ e∈o.after,Region.binds md e=true->e.on < i
theorem all_listed(hb:Back md ops)(hs:listed.size=ops.size)(hr:Region.ready md ops listed=[]):∀ i,i < ops.size->listed.getD i false=true:=by
 intro i
 induction i using Nat.strongRecOn with
 | _ i ih=>
  intro hi
  cases h:listed.getD i false with
  | true=>rfl
  | false=>
   exfalso
   have h':listed.getD i true=false:=by
    rw[QA,QM (by omega)] at h ⊢
    simpa using h
   have ho:ops[i]?=some ops[i]:=QM hi
   have:i∈Region.ready md ops listed:=mem_ready.2 ⟨h',ops[i],ho,fun e he d5=>by
    have am:=hb i _ ho e he d5
    exact ih e.on am (by omega)⟩
   rw[hr] at this
   simp at this
def JN(listed:Array Bool)(n:Nat):Nat:=(List.range n).countP fun i=>listed.getD i false
theorem nlisted_set{i n:Nat}(hi:i < n)(hs:i < listed.size)(h:listed.getD i false=false):JN (listed.setIfInBounds i true) n=JN listed n+1:=by
 unfold JN
 induction n with
 | zero=>omega
 | succ n ih=>
  rw[List.range_succ,List.countP_append,List.countP_append]
  by_cases hn:i=n
  ·subst hn
   have e1:∀ l:List Nat,(∀ j∈l,j < i)->l.countP (fun j=>(listed.setIfInBounds i true).getD j false)=l.countP (fun j=>listed.getD j false):=fun l hl=>
    List.countP_congr fun j hj=>by rw[getD_set_ne false (by have:=hl j hj;omega)]
   rw[e1 _ fun j hj=>Xo.1 hj]
   have e2:(listed.setIfInBounds i true).getD i false=true:=by
    rw[QA];simp[hs]
   simp only[List.countP_cons,List.countP_nil,e2,h,Xj,Q1,Xz]
  ·rw[ih (by omega)]
   have:(listed.setIfInBounds i true).getD n false=listed.getD n false:=getD_set_ne false (by omega)
   simp only[List.countP_cons,List.countP_nil,this]
   omega
theorem nlisted_all{n:Nat}(h:JN listed n=n):∀ i,i < n->listed.getD i false=true:=by
 intro i hi
 unfold JN at h
 have hl:(List.range n).length=n:=Zo
 have:=(List.countP_eq_length (p:=fun i=>listed.getD i false) (l:=List.range n)).1 (by rw[h,hl])
 exact this i (Xo.2 hi)
end
def AncOk(ops:Array Oper)(anc:Nat->Nat):Prop:=∀(i:Nat) (o:Oper),ops[i]?=some o->anc i=ancFold anc o.after.toList 0
theorem Ux(f:Nat->Nat)(j:Nat):∀(l:List Edge) (s:Nat),(ancFold f l s).testBit j=true->s.testBit j=true\/∃ e∈l,Region.binds .any e=true/\(e.on=j\/(f e.on).testBit j=true)
 | [],s,h=>.inl h
 | e::l,s,h=>by
  simp only[ancFold,Xt] at h
  rcases Ux f j l _ h with h|⟨e',he,hb⟩
  ·split at h
   ·rename_i hb
    simp only[Nat.testBit_or,XB] at h
    rcases h with (h | h) | h
    ·exact .inl h
    ·refine .inr ⟨e,by simp,hb,.inl ?_⟩
     rw[Nat.testBit_two_pow] at h
     simpa using h
    ·exact .inr ⟨e,by simp,hb,.inr h⟩
   ·exact .inl h
  ·exact .inr ⟨e',by simp[he],hb⟩
def Closed(ops:Array Oper)(listed:Array Bool):Prop:=∀(i:Nat) (o:Oper),ops[i]?=some o->listed.getD i false=true->∀ e∈o.after,Region.binds .any e=true->listed.getD e.on false=true
theorem anc_listed{ops:Array Oper}{listed:Array Bool}{anc:Nat->Nat}(hb:Back .any ops)(ha:AncOk ops anc)(hc:Closed ops listed):∀(i j:Nat) (o:Oper),ops[i]?=some o->listed.getD i false=true->(anc i).testBit j=true->listed.getD j false=true:=by
 intro i
 induction i using Nat.strongRecOn with
 | _ i ih=>
  intro j o ho hl hj
  rw[ha i o ho] at hj
  rcases Ux anc j _ _ hj with h|⟨e,he,d5,h⟩
  ·simp at h
  ·have cQ:e∈o.after:=by simpa using he
   have am:=hb i o ho e cQ d5
   have aR:=hc i o ho hl e cQ d5
   rcases h with rfl | h
   ·exact aR
   ·have hi:i < ops.size:=(Qv.1 ho).1
    exact ih e.on am j ops[e.on] (QM (by omega)) aR h
theorem anc_of_ready{ops:Array Oper}{listed:Array Bool}{anc:Nat->Nat}(hb:Back .any ops)(ha:AncOk ops anc)(hc:Closed ops listed){i j:Nat}{o:Oper}(ho:ops[i]?=some o)
  (hr:∀ e∈o.after,Region.binds .any e=true->listed.getD e.on false=true) (hj:(anc i).testBit j=true):listed.getD j false=true:=by
 rw[ha i o ho] at hj
 rcases Ux anc j _ _ hj with h|⟨e,he,d5,h⟩
 ·simp at h
 ·have cQ:e∈o.after:=by simpa using he
  have am:=hb i o ho e cQ d5
  have aR:=hr e cQ d5
  rcases h with rfl | h
  ·exact aR
  ·have hi:i < ops.size:=(Qv.1 ho).1
   exact anc_listed hb ha hc e.on j ops[e.on] (QM (by omega)) aR h
theorem Closed.set{ops:Array Oper}{listed:Array Bool}(hc:Closed ops listed){i:Nat}{o:Oper}(ho:ops[i]?=some o)
  (hr:∀ e∈o.after,Region.binds .any e=true->listed.getD e.on false=true):Closed ops (listed.setIfInBounds i true):=by
 intro k o' jQ hk e he d5
 by_cases mI:i=k
 ·subst mI
  rw[ho] at jQ;injection jQ with jQ;subst jQ
  exact getD_set_true (hr e he d5)
 ·rw[getD_set_ne false mI] at hk
  exact getD_set_true (hc k o' jQ hk e he d5)
end Go.AM
namespace Go.AM
structure YG(ops:Array Oper)(zs:List (Vc × Nat)):Prop where
 len:zs.length=ops.size
 back:Back .any ops
 bits:AncOk ops (YN zs)
 dst:∀(i j:Nat) (z z':Vc × Nat) (d:Nat),zs[i]?=some z->zs[j]?=some z'->z.1.dst=some d->z'.1.dst=some d->i=j
 use:∀(i j:Nat) (z z':Vc × Nat) (d:Nat),zs[i]?=some z->zs[j]?=some z'->z'.1.dst=some d->d∈z.1.uses->i=j\/z.2.testBit j=true\/z'.2.testBit i=true
 effs:∀(i j:Nat) (z z':Vc × Nat),i < j->zs[i]?=some z->zs[j]?=some z'->z.1.op.effect=true->z'.1.op.effect=true->z'.2.testBit i=true
theorem drawOk_of{ops:Array Oper}{zs:List (Vc × Nat)}(h:drawB ops zs=true):YG ops zs:=by
 unfold drawB at h
 simp only[Qd] at h
 obtain⟨al,h⟩:=h
 have al:=Qj al
 have key:∀(i:Nat) (o:Oper) (z:Vc × Nat),ops[i]?=some o->zs[i]?=some z->edgeB zs i o z=true/\∀(j:Nat) (z':Vc × Nat),zs[j]?=some z'->pairB i j z z'=true:=fun i o z ho hz=>by
  have hi:i < ops.size:=(Qv.1 ho).1
  have:=QB.1 h i (Xo.2 hi)
  simp only[ho,hz,Qd] at this
  refine⟨this.1,fun j z' bh=>?_⟩
  have hj:j < ops.size:=by rw[<-al];exact(Qt.1 bh).1
  have:=QB.1 this.2 j (Xo.2 hj)
  simpa only [bh] using this
 have zof:∀(i:Nat) (o:Oper),ops[i]?=some o->∃ z,zs[i]?=some z:=fun i o ho=>by
  have hi:i < ops.size:=(Qv.1 ho).1
  exact⟨zs[i]'(by omega),Qn (by omega)⟩
 have oof:∀(i:Nat) (z:Vc × Nat),zs[i]?=some z->∃ o,ops[i]?=some o:=fun i z hz=>by
  have hi:i < zs.length:=(Qt.1 hz).1
  exact⟨ops[i]'(by omega),QM (by omega)⟩
 have pr:∀(i j:Nat) (z z':Vc × Nat),zs[i]?=some z->zs[j]?=some z'->pairB i j z z'=true:=fun i j z z' hz bh=>by
  obtain⟨o,ho⟩:=oof i z hz
  exact(key i o z ho hz).2 j z' bh
 refine⟨al,fun i o ho e he hb=>?_,fun i o ho=>?_,fun i j z z' d hi hj h1 h2=>?_,fun i j z z' d hi hj h1 h2=>?_,fun i j z z' jN hi hj h1 h2=>?_⟩
 ·obtain⟨z,hz⟩:=zof i o ho
  have hk:=(key i o z ho hz).1
  unfold edgeB at hk
  simp only[Qd] at hk
  have:=QB.1 hk.1 e (by simpa using he)
  simp only[hb,Qc,QL] at this
  have:=Qk this
  omega
 ·obtain⟨z,hz⟩:=zof i o ho
  have hk:=(key i o z ho hz).1
  unfold edgeB at hk
  simp only[Qd] at hk
  have:=Qj hk.2
  simp only[YN,hz] at this ⊢
  exact this
 ·have:=pr i j z z' hi hj
  unfold pairB at this
  simp only[h2,h1,XB,Qd,Xy] at this
  rcases this.1 with this|⟨this,_⟩
  ·exact Qj this
  ·simp at this
 ·have:=pr i j z z' hi hj
  unfold pairB at this
  simp only[h1,XB,Qd] at this
  rcases this.1 with this|⟨_,(this | this) | this⟩
  ·exact .inl (Qj this)
  ·exact .inr (.inl this)
  ·exact .inr (.inr this)
  ·have:=QB.1 this d h2
   simp at this
 ·have:=pr i j z z' hi hj
  unfold pairB at this
  simp only[Qd] at this
  have this:=this.2
  have aR:(i+1).ble j=true:=Qo (by omega)
  simp only[aR,h1,h2,Qc,QL] at this
  exact this
theorem anc_lt{ops:Array Oper}{anc:Nat->Nat}(hb:Back .any ops)(ha:AncOk ops anc):∀(i j:Nat) (o:Oper),ops[i]?=some o->(anc i).testBit j=true->j < i:=by
 intro i
 induction i using Nat.strongRecOn with
 | _ i ih=>
  intro j o ho hj
  rw[ha i o ho] at hj
  rcases Ux anc j _ _ hj with h|⟨e,he,d5,h⟩
  ·simp at h
  ·have cQ:e∈o.after:=by simpa using he
   have am:=hb i o ho e cQ d5
   have hi:i < ops.size:=(Qv.1 ho).1
   rcases h with rfl | h
   ·exact am
   ·have:=ih e.on am j ops[e.on] (QM (by omega)) h;omega
theorem UR{t:Nat}:∀(zs:List (Vc × Nat)) (ak:List RF) (L L':Nat->Bool) (i:Nat) (fr aa:Fr),fr.get t=aa.get t ->
  (∀(k:Nat) (z:Vc × Nat),zs[k]?=some z->z.1.dst=some t->(∃ a b c d,ak[k]?=some (.val a b c d))->L (i+k)=L' (i+k))->(RH zs ak L i fr).get t=(RH zs ak L' i aa).get t
 | [],_,_,_,_,_,_,h0,_=>by unfold RH;exact h0
 | z::zs,[],_,_,_,_,_,h0,_=>by unfold RH;exact h0
 | z::zs,it::ak,L,L',i,fr,aa,h0,h=>by
  have hr:∀(k:Nat) (z':Vc × Nat),zs[k]?=some z'->z'.1.dst=some t->(∃ a b c d,ak[k]?=some (.val a b c d))->L (i+1+k)=L' (i+1+k):=fun k z' h1 h2 h3=>by
   rw[show i+1+k=i+(k+1) by omega];exact h (k+1) z' (by simpa using h1) h2 (by simpa using h3)
  cases it<;>simp only[RH]
  ·exact UR zs ak L L' _ _ _ h0 hr
  ·rename_i a b c d
   refine UR zs ak L L' _ _ _ ?_ hr
   cases hd:z.1.dst with
   | none=>cases L i<;>cases L' i<;>simp only[Qi,Qq,Fr.put]<;>exact h0
   | some d'=>
    by_cases wz:d'=t
    ·subst wz
     have:=h 0 z rfl hd ⟨_,_,_,_,rfl⟩
     simp only[XA] at this
     rw[this]
     cases L' i
     ·exact h0
     ·simp only[Qi,Fr.put,Fr.get_set,Xj]
    ·have az:¬ t=d':=fun e=>wz e.symm
     cases L i<;>cases L' i<;>simp only[Qi,Qq,Fr.put,Fr.get_set,Qe az]<;>exact h0
  ·exact UR zs ak L L' _ _ _ h0 hr
theorem frL_off{t:Nat}:∀(zs:List (Vc × Nat)) (ak:List RF) (L:Nat->Bool) (i:Nat) (fr:Fr),(∀(k:Nat) (z:Vc × Nat),zs[k]?=some z->z.1.dst≠some t)->(RH zs ak L i fr).get t=fr.get t
 | [],_,_,_,_,_=>by unfold RH;rfl
 | z::zs,[],_,_,_,_=>by unfold RH;rfl
 | z::zs,it::ak,L,i,fr,h=>by
  have hr:∀(k:Nat) (z':Vc × Nat),zs[k]?=some z'->z'.1.dst≠some t:=fun k z' h1=>h (k+1) z' (by simpa using h1)
  cases it<;>simp only[RH]<;>rw[frL_off zs ak L _ _ hr]
  have:=h 0 z rfl
  cases L i
  ·rfl
  ·cases hd:z.1.dst with
   | none=>rfl
   | some d=>
    rw[hd] at this
    simp only[Qi,Fr.put,Fr.get_set]
    rw[Qe (by rintro rfl;exact this rfl)]
theorem frL_at{t:Nat}:∀(zs:List (Vc × Nat)) (ak:List RF) (L:Nat->Bool) (i:Nat) (fr:Fr) (k:Nat) (z:Vc × Nat) (a:Fr) (b:St) (v:AV) (d:St),zs[k]?=some z->ak[k]?=some (.val a b v d)->z.1.dst=some t->L (i+k)=true ->
  (∀(k':Nat) (z':Vc × Nat),zs[k']?=some z'->z'.1.dst=some t->k'=k)->(RH zs ak L i fr).get t=some v
 | [],_,_,_,_,_,_,_,_,_,_,hz,_,_,_,_=>by simp at hz
 | z::zs,[],_,_,_,_,_,_,_,_,_,_,aW,_,_,_=>by simp at aW
 | z::zs,it::ak,L,i,fr,k,zk,a,b,v,d,hz,aW,hd,hL,hu=>by
  cases k with
  | zero=>
   simp only[Q0,Qa] at hz aW
   subst hz;subst aW
   simp only[XA] at hL
   simp only[RH,hL,Qi]
   rw[frL_off zs ak L _ _ fun k' z' h1 h2=>by have:=hu (k'+1) z' (by simpa using h1) h2;omega]
   simp[Fr.put,hd,Fr.get_set]
  | succ k=>
   simp only[QE] at hz aW
   have:=fun fr=>frL_at (t:=t) zs ak L (i+1) fr k zk a b v d hz aW hd (by rw[show i+1+k=i+(k+1) by omega];exact hL) fun k' z' h1 h2=>by
    have:=hu (k'+1) z' (by simpa using h1) h2;omega
   cases it<;>simp only[RH]<;>exact this _
theorem stL_off:∀(zs:List (Vc × Nat)) (ak:List RF) (L:Nat->Bool) (i:Nat) (st:St),(∀(k:Nat) (z:Vc × Nat),zs[k]?=some z->z.1.op.effect=true->L (i+k)=false)->RJ zs ak L i st=st
 | [],_,_,_,_,_=>by unfold RJ;rfl
 | z::zs,[],_,_,_,_=>by unfold RJ;rfl
 | z::zs,it::ak,L,i,st,h=>by
  have hr:∀(k:Nat) (z':Vc × Nat),zs[k]?=some z'->z'.1.op.effect=true->L (i+1+k)=false:=fun k z' h1 h2=>by
   rw[show i+1+k=i+(k+1) by omega];exact h (k+1) z' (by simpa using h1) h2
  cases it<;>simp only[RJ]
  ·exact stL_off zs ak L _ _ hr
  ·cases he:z.1.op.effect
   ·simp only[QK,Qq];exact stL_off zs ak L _ _ hr
   ·have:=h 0 z rfl he
    simp only[XA] at this
    simp only[this,Q8,Qq];exact stL_off zs ak L _ _ hr
  ·exact stL_off zs ak L _ _ hr
theorem stL_at:∀(zs:List (Vc × Nat)) (ak:List RF) (L:Nat->Bool) (i:Nat) (st:St) (k:Nat) (z:Vc × Nat) (a:Fr) (b:St) (v:AV) (s:St),zs[k]?=some z->ak[k]?=some (.val a b v s)->z.1.op.effect=true->L (i+k)=true ->
  (∀(k':Nat) (z':Vc × Nat),k < k'->zs[k']?=some z'->z'.1.op.effect=true->L (i+k')=false)->RJ zs ak L i st=s
 | [],_,_,_,_,_,_,_,_,_,_,hz,_,_,_,_=>by simp at hz
 | z::zs,[],_,_,_,_,_,_,_,_,_,_,aW,_,_,_=>by simp at aW
 | z::zs,it::ak,L,i,st,k,zk,a,b,v,s,hz,aW,hd,hL,hu=>by
  cases k with
  | zero=>
   simp only[Q0,Qa] at hz aW
   subst hz;subst aW
   simp only[XA] at hL
   simp only[RJ,hL,hd,Bool.and_self,Qi]
   exact stL_off zs ak L _ _ fun k' z' h1 h2=>by
    rw[show i+1+k'=i+(k'+1) by omega];exact hu (k'+1) z' (by omega) (by simpa using h1) h2
  | succ k=>
   simp only[QE] at hz aW
   have:=fun st=>stL_at zs ak L (i+1) st k zk a b v s hz aW hd (by rw[show i+1+k=i+(k+1) by omega];exact hL) fun k' z' h0 h1 h2=>by
    rw[show i+1+k'=i+(k'+1) by omega];exact hu (k'+1) z' (by omega) (by simpa using h1) h2
   cases it<;>simp only[RJ]<;>exact this _
theorem UB(z:Vc × Nat)(zs:List (Vc × Nat))(ns:List Nat)(st:St):(z.1.op.ahead=true/\∃ ku o,VT (z::zs) ns st=VT zs ku (st.new (.row o)))\/(z.1.op.ahead=false/\VT (z::zs) ns st=VT zs ns st):=by
 cases hz:z.1.op
 case alloc cs=>exact .inl ⟨rfl,ns,cs,by simp only[VT,hz]⟩
 case mksl b s cs l c=>exact .inl ⟨rfl,ns.tail,Yl cs (ns.headD 0),by simp only[VT,hz]⟩
 all_goals exact .inr ⟨rfl,by simp only[VT,hz]⟩
theorem So(id:Nat)(m:Rz):VJ id m=if m.ahead=true then id+1 else id:=by
 cases m<;>rfl
theorem Sl:∀(zs:List (Vc × Nat)) (ns:List Nat) (st:St),st.next<=(VT zs ns st).next
 | [],_,_=>Qw _
 | z::zs,ns,st=>by
  rcases UB z zs ns st with⟨_,ku,o,h⟩|⟨_,h⟩
  ·rw[h];have:=Sl zs ku (st.new (.row o));exact QY (by simp) this
  ·rw[h];exact Sl zs ns st
theorem idAt_le:∀(zs:List (Vc × Nat)) (j id:Nat),id<=Wf zs j id
 | [],_,_=>by simp[Wf]
 | z::zs,0,id=>by simp[Wf]
 | z::zs,j+1,id=>by
  have:=idAt_le zs j (VJ id z.1.op)
  have h2:id<=VJ id z.1.op:=by rw[So];split<;>omega
  simp only[Wf];omega
theorem idAt_lt:∀(zs:List (Vc × Nat)) (i j id:Nat) (z:Vc × Nat),i < j->zs[i]?=some z->z.1.op.ahead=true->Wf zs i id < Wf zs j id
 | [],_,_,_,_,_,hz,_=>by simp at hz
 | z::zs,0,0,_,_,jN,_,_=>by omega
 | z::zs,i+1,0,_,_,jN,_,_=>by omega
 | z::zs,0,j+1,id,z',jN,hz,ho=>by
  simp only[Q0,Qa] at hz;subst hz
  have:=idAt_le zs j (VJ id z.1.op)
  simp only[Wf]
  have h2:VJ id z.1.op=id+1:=by rw[So,Qm ho]
  omega
 | z::zs,i+1,j+1,id,z',jN,hz,ho=>by
  simp only[QE] at hz
  simp only[Wf]
  exact idAt_lt zs i j _ z' (by omega) hz ho
theorem idAt_next:∀(zs:List (Vc × Nat)) (ns:List Nat) (i:Nat) (st:St) (z:Vc × Nat),zs[i]?=some z->z.1.op.ahead=true->Wf zs i st.next < (VT zs ns st).next
 | [],_,_,_,_,hz,_=>by simp at hz
 | z::zs,ns,0,st,z',hz,ho=>by
  simp only[Q0,Qa] at hz;subst hz
  rcases UB z zs ns st with⟨_,ku,o,h⟩|⟨h0,_⟩
  ·rw[h]
   simp only[Wf]
   have:=Sl zs ku (st.new (.row o))
   simp at this;omega
  ·rw[ho] at h0;cases h0
 | z::zs,ns,i+1,st,z',hz,ho=>by
  simp only[QE] at hz
  simp only[Wf]
  rcases UB z zs ns st with⟨h0,ku,o,h⟩|⟨h0,h⟩
  ·rw[h,So,Qm h0]
   have:=idAt_next zs ku i (st.new (.row o)) z' hz ho
   simpa using this
  ·rw[h,So,Qe (by rw[h0];simp)]
   exact idAt_next zs ns i st z' hz ho
theorem preA_sat{E:Env}{w:World}:∀(zs:List (Vc × Nat)) (ns:List Nat) (st:St),Sat E st w->Sat E (VT zs ns st) w
 | [],_,_,h=>h
 | z::zs,ns,st,h=>by
  rcases UB z zs ns st with⟨_,ku,o,h1⟩|⟨_,h1⟩
  ·rw[h1];exact preA_sat zs ku _ (h.ahead _)
  ·rw[h1];exact preA_sat zs ns st h
theorem frz_still{Γ:Cg}{id:Nat}{fr:Fr}{st ai af:St}{m:Rz}{v:AV}(hf:W0 m fr=true)(h:V5 Γ id fr st m=.val v ai):V5 Γ id fr af m=.val v af:=by
 unfold W0 at hf
 split at hf
 ·rename_i agg n x
  unfold frzX at hf
  split at hf
  ·rename_i cs off he
   simp only[V5,RD,R8,he] at h ⊢
   exact of_pure (st:=st) h
  ·cases hf
 ·cases hf
def lst(listed:Array Bool)(j:Nat):Bool:=listed.getD j false
section
variable {P:Program} {Γ:Cg} {ops:Array Oper} {zs:List (Vc × Nat)} {ns:List Nat} {ak:List RF} {E0:Env} {w0:World} {N:Nat} {D:List Deferred} {B:Nat} {av frE:Fr} {aB stE:St}
structure R3(ops:Array Oper)(zs:List (Vc × Nat))(ns:List Nat)(ak:List RF)(E0:Env)(w0:World)(N:Nat)(D:List Deferred)(av:Fr)(aB:St)(listed:Array Bool)(E:Env)(a:Act)(w:World):Prop where
 ext:Ext E0 w0 E w
 sat:Sat E (RJ zs ak (lst listed) 0 (VT zs ns aB)) w
 rvf:RvF E w (RH zs ak (lst listed) 0 av) a
 sz:a.tmps.size=N
 df:a.defers=D
 rs:∀(j:Nat) (z:Vc × Nat),zs[j]?=some z->z.1.op.ahead=true->lst listed j=false->E.Rs (Wf zs j aB.next)
 cl:Closed ops listed
 ls:listed.size=ops.size
 pn:∀(j:Nat) (a:Fr) (b:St) (c:AV) (d:St),ak[j]?=some (.pan a b c d)->lst listed j=false
variable {listed:Array Bool} {E:Env} {a:Act} {w:World}
theorem R3.up(hI:R3 ops zs ns ak E0 w0 N D av aB listed E a w)(hd:YG ops zs){i j:Nat}{z:Vc × Nat}(hz:zs[i]?=some z)(hr:i∈Region.ready .any ops listed)(hj:z.2.testBit j=true):lst listed j=true:=by
 obtain⟨_,o,ho,he⟩:=mem_ready.1 hr
 have:YN zs i=z.2:=by simp[YN,hz]
 exact anc_of_ready hd.back hd.bits hI.cl ho he (by rw[this];exact hj)
theorem R3.down(hI:R3 ops zs ns ak E0 w0 N D av aB listed E a w)(hd:YG ops zs){i j:Nat}{z:Vc × Nat}(hz:zs[j]?=some z)(hr:lst listed i=false)(hj:z.2.testBit i=true):lst listed j=false:=by
 cases hl:lst listed j with
 | false=>rfl
 | true=>
  have fN:j < ops.size:=by rw[<-hd.len];exact(Qt.1 hz).1
  have:YN zs j=z.2:=by simp[YN,hz]
  have:=anc_listed hd.back hd.bits hI.cl j i ops[j] (QM fN) hl (by rw[this];exact hj)
  unfold lst at hr;rw[this] at hr;cases hr
theorem R3.not(hI:R3 ops zs ns ak E0 w0 N D av aB listed E a w){i:Nat}(hr:i∈Region.ready .any ops listed):lst listed i=false:=by
 obtain⟨h0,o,ho,_⟩:=mem_ready.1 hr
 have hi:i < listed.size:=by rw[hI.ls];exact(Qv.1 ho).1
 unfold lst
 rw[QA,QM hi] at h0 ⊢
 simpa using h0
theorem ltAnc(hd:YG ops zs){i j:Nat}{z:Vc × Nat}(hz:zs[i]?=some z)(hj:z.2.testBit j=true):j < i:=by
 have hi:i < ops.size:=by rw[<-hd.len];exact(Qt.1 hz).1
 have:YN zs i=z.2:=by simp[YN,hz]
 exact anc_lt hd.back hd.bits i j _ (QM hi) (by rw[this];exact hj)
theorem R3.slots(hI:R3 ops zs ns ak E0 w0 N D av aB listed E a w)(hd:YG ops zs){i:Nat}{z:Vc × Nat}(hz:zs[i]?=some z)(hr:i∈Region.ready .any ops listed):
  ∀ t∈z.1.uses,(RH zs ak (lst listed) 0 av).get t=(RH zs ak (fun k=>decide (k < 0+i)) 0 av).get t:=by
 intro t ht
 refine UR zs ak _ _ 0 _ _ rfl fun k z' bh dm _=>?_
 simp only[Q7]
 rcases hd.use i k z z' t hz bh dm ht with rfl | h | h
 ·rw[hI.not hr];simp
 ·rw[hI.up hd hz hr h];have:=ltAnc hd hz h;simp[this]
 ·rw[hI.down hd bh (hI.not hr) h];have:=ltAnc hd bh h;simp;omega
theorem R3.heap(hI:R3 ops zs ns ak E0 w0 N D av aB listed E a w)(hd:YG ops zs){i:Nat}{z:Vc × Nat}(hz:zs[i]?=some z)(hr:i∈Region.ready .any ops listed)
  (ha:∀(j:Nat) (z':Vc × Nat),zs[j]?=some z'->z'.1.op.effect=true->i=j\/z.2.testBit j=true\/z'.2.testBit i=true):
  RJ zs ak (lst listed) 0 (VT zs ns aB)=RJ zs ak (fun k=>decide (k < 0+i)) 0 (VT zs ns aB):=by
 refine YE zs ak _ _ 0 _ fun k z' bh he _=>?_
 simp only[Q7]
 rcases ha k z' bh he with rfl | h | h
 ·rw[hI.not hr];simp
 ·rw[hI.up hd hz hr h];have:=ltAnc hd hz h;simp[this]
 ·rw[hI.down hd bh (hI.not hr) h];have:=ltAnc hd bh h;simp;omega
theorem X.ev_eq{fr aa:Fr}{x:X}(h:∀ t,x.tm=some t->fr.get t=aa.get t):ev fr x=ev aa x:=by
 cases x with
 | t n=>simp only[ev,h n rfl]
 | c v=>rfl
theorem uses_xs{m:Vc}{fr aa:Fr}(h:∀ t∈m.uses,fr.get t=aa.get t):∀ x∈m.op.xs,ev fr x=ev aa x:=fun x hx=>
 X.ev_eq fun t ht=>h t (by unfold Vc.uses;exact Zs _ (Z6.2 ⟨x,hx,ht⟩))
theorem uses_guard{m:Vc}{fr aa:Fr}(h:∀ t∈m.uses,fr.get t=aa.get t):Vv fr m.guard=Vv aa m.guard:=by
 unfold Vv
 cases hg:m.guard with
 | none=>rfl
 | some q=>
  obtain⟨t,b⟩:=q
  have:=h t (by unfold Vc.uses;simp[hg])
  simp only[this]
structure Run(Γ:Cg)(n:Nat)(zs:List (Vc × Nat))(ns:List Nat)(ak:List RF)(av frE:Fr)(aB stE:St):Prop where
 run:Wq Γ zs 0 aB.next av (VT zs ns aB) none=some (ak,frE,stE)
 chk:∀ q∈chkOf n zs,KE Γ zs ak aB.next stE q=true
theorem Run.len(hR:Run Γ ops.size zs ns ak av frE aB stE):ak.length=zs.length:=(Jf _ _ _ _ _ _ _ _ _ hR.run).1
theorem Run.it(hR:Run Γ ops.size zs ns ak av frE aB stE){j:Nat}{z:Vc × Nat}{it:RF}(hz:zs[j]?=some z)(hi:ak[j]?=some it):ItOk Γ zs ak 0 aB.next av (VT zs ns aB) none j z it:=
 (Jf _ _ _ _ _ _ _ _ _ hR.run).2.2.2 j z it hz hi
theorem Run.get(hR:Run Γ ops.size zs ns ak av frE aB stE){j:Nat}{z:Vc × Nat}(hz:zs[j]?=some z):∃ it,ak[j]?=some it:=by
 have:=(Qt.1 hz).1
 exact⟨ak[j]'(by rw[hR.len];exact this),Qn _⟩
theorem Run.pan_eff(hR:Run Γ ops.size zs ns ak av frE aB stE){j:Nat}{z:Vc × Nat}{f:Fr}{b:St}{v:AV}{d:St}(hz:zs[j]?=some z)(hi:ak[j]?=some (.pan f b v d)):z.1.op.effect=true:=by
 obtain⟨_,_,_,h⟩:=hR.it hz hi
 cases he:z.1.op.effect with
 | true=>rfl
 | false=>
  rcases SH (Γ:=Γ) (id:=Wf zs j aB.next) (fr:=f) (st:=b) he with h'|⟨u,h'⟩<;>rw[h'] at h<;>cases h
theorem R3.alive(hI:R3 ops zs ns ak E0 w0 N D av aB listed E a w)(hd:YG ops zs)(hR:Run Γ ops.size zs ns ak av frE aB stE){i:Nat}{z:Vc × Nat}(hz:zs[i]?=some z)(hr:i∈Region.ready .any ops listed):ak[i]?≠some .dead:=by
 intro h
 rcases hR.it hz h with⟨p,h1,_⟩|⟨j',f,b,c,d,h1,h2⟩
 ·cases h1
 ·rw[Q7] at h2
  have:=hI.up hd hz hr h2
  rw[hI.pn _ _ _ _ _ h1] at this;cases this
theorem anch_of{i:Nat}{z:Vc × Nat}(hd:YG ops zs)(hz:zs[i]?=some z)(h:anchB ops.size zs i=true):∀(j:Nat) (z':Vc × Nat),zs[j]?=some z'->z'.1.op.effect=true->i=j\/z.2.testBit j=true\/z'.2.testBit i=true:=by
 intro j z' bh he
 have hj:j < ops.size:=by rw[<-hd.len];exact(Qt.1 bh).1
 have:=QB.1 h j (Xo.2 hj)
 simp only[effAt,YN,hz,bh,he,Qc,Bool.or_false,XB] at this
 rcases this with (h | h) | h
 ·exact .inl (Qj h)
 ·exact .inr (.inl h)
 ·exact .inr (.inr h)
theorem noDesc_of{m i:Nat}(h:∀(j:Nat) (z':Vc × Nat),j < m->zs[j]?=some z'->z'.1.op.effect=true->z'.2.testBit i=false):noDesc m zs i=true:=by
 unfold noDesc
 refine QB.2 fun j hj=>?_
 have hj:=Xo.1 hj
 cases hz:zs[j]? with
 | none=>simp[effAt,hz]
 | some z'=>
  simp only[effAt,YN,hz,Xy]
  cases he:z'.1.op.effect
  ·rfl
  ·rw[h j z' hj hz he];rfl
theorem sameAt_of{id:Nat}{fr:Fr}{st:St}{m:Rz}{v:AV}(he:m.effect=false)(h:YF Γ id fr st m v=true):V5 Γ id fr st m=.val v st:=by
 unfold YF at h
 rcases SH (Γ:=Γ) (id:=id) (fr:=fr) (st:=st) he with h'|⟨u,h'⟩
 ·rw[h'] at h;cases h
 ·rw[h'] at h ⊢
  rw[JJ _ _ h]
theorem same_of{id:Nat}{fr:Fr}{st ai st2:St}{m:Rz}{v:AV}(ho:V5 Γ id fr ai m=.val v st2)(he:m.effect=false)(h:(W0 m fr||YF Γ id fr st m v)=true):V5 Γ id fr st m=.val v st:=by
 cases hf:W0 m fr with
 | true=>exact frz_still hf ho
 | false=>rw[hf,QL] at h;exact sameAt_of he h
theorem eff_anch(hd:YG ops zs){i:Nat}{z:Vc × Nat}(hz:zs[i]?=some z)(he:z.1.op.effect=true):∀(j:Nat) (z':Vc × Nat),zs[j]?=some z'->z'.1.op.effect=true->i=j\/z.2.testBit j=true\/z'.2.testBit i=true:=by
 intro j z' bh cQ
 rcases Nat.lt_trichotomy i j with h | h | h
 ·exact .inr (.inr (hd.effs i j z z' h hz bh he cQ))
 ·exact .inl h
 ·exact .inr (.inl (hd.effs j i z' z h bh hz cQ he))
theorem least{p:Nat->Prop}(h:∃ k,p k):∃ k,p k/\∀ j,j < k->¬ p j:=by
 obtain⟨k,hk⟩:=h
 induction k using Nat.strongRecOn with
 | _ k ih=>
  by_cases hj:∃ j,j < k/\p j
  ·obtain⟨j,h1,h2⟩:=hj;exact ih j h1 h2
  ·exact⟨k,hk,fun j h1 h2=>hj ⟨j,h1,h2⟩⟩
theorem R3.now(hI:R3 ops zs ns ak E0 w0 N D av aB listed E a w)(hd:YG ops zs)(hR:Run Γ ops.size zs ns ak av frE aB stE){i:Nat}{z:Vc × Nat}{aa:Fr}{af bp:St}{v:AV}(hz:zs[i]?=some z)(hr:i∈Region.ready .any ops listed)
  (aW:ak[i]?=some (.val aa af v bp)) (hw:Vv aa z.1.guard=some true) (ho:V5 Γ (Wf zs i aB.next) aa af z.1.op=.val v bp):
  V5 Γ (Wf zs i aB.next) (RH zs ak (lst listed) 0 av) (RJ zs ak (lst listed) 0 (VT zs ns aB)) z.1.op=.val v (bif z.1.op.effect then bp else RJ zs ak (lst listed) 0 (VT zs ns aB)):=by
 have hs:=hI.slots hd hz hr
 obtain⟨oI,ax,_⟩:=hR.it hz aW
 rw[oprD_congr (uses_xs hs),<-oI]
 cases he:z.1.op.effect with
 | true=>
  rw[hI.heap hd hz hr (eff_anch hd hz he),<-ax];exact ho
 | false=>
  simp only[Qq]
  have dO:=still_st he ho
  cases ch:z.1.op.reads with
  | false=>exact oprD_pure he ch ho
  | true=>
   cases ha:anchB ops.size zs i with
   | true=>rw[hI.heap hd hz hr (anch_of hd hz ha),<-ax,ho,dO]
   | false=>
    have hi:i < ops.size:=by rw[<-hd.len];exact(Qt.1 hz).1
    have aH:∀ q,q∈(List.range ops.size).filterMap (fun k=>bif effAt zs k&&!(YN zs i).testBit k&&noDesc k zs i then some (i,some k) else none)++(bif noDesc ops.size zs i then [(i,none)] else [])->q∈chkOf ops.size zs:=fun q hq=>by
     unfold chkOf
     refine QO.2 ⟨i,Xo.2 hi,?_⟩
     simp only[rdAt,hz,ch,ha,Qb,Bool.and_self,Qi]
     exact hq
    have Pb:∀(j:Nat) (z':Vc × Nat),zs[j]?=some z'->lst listed j=true->z'.2.testBit i=false:=fun j z' bh hl=>by
     cases hb:z'.2.testBit i with
     | false=>rfl
     | true=>rw[hI.down hd bh (hI.not hr) hb] at hl;cases hl
    by_cases aA:∀(k:Nat) (z':Vc × Nat),zs[k]?=some z'->z'.1.op.effect=true->lst listed k=true
    ·have hc:=hR.chk (i,none) (aH _ (Zs _ (by
      rw[noDesc_of fun j z' _ bh cQ=>Pb j z' bh (aA j z' bh cQ)];simp)))
     simp only[KE,hz,aW,hw] at hc
     have hE:RJ zs ak (lst listed) 0 (VT zs ns aB)=stE:=by
      rw[(Jf _ _ _ _ _ _ _ _ _ hR.run).2.2.1]
      exact YE zs ak _ _ 0 _ fun k z' bh cQ _=>by rw[Q7];exact aA k z' bh cQ
     rw[hE];exact same_of ho he hc
    ·have yg:∃ k,(∃ z':Vc × Nat,zs[k]?=some z'/\z'.1.op.effect=true/\lst listed k=false)/\∀ j,j < k->¬ ∃ z':Vc × Nat,zs[j]?=some z'/\z'.1.op.effect=true/\lst listed j=false:=by
      have h0:∃ k,∃ z':Vc × Nat,zs[k]?=some z'/\z'.1.op.effect=true/\lst listed k=false:=Classical.byContradiction fun hn=>aA fun k z' h1 h2=>by
       cases hl:lst listed k with
       | true=>rfl
       | false=>exact absurd ⟨k,z',h1,h2,hl⟩ hn
      exact least h0
     obtain⟨k,⟨zk,mJ,w8,rt⟩,sN⟩:=yg
     have eD:∀(j:Nat) (z':Vc × Nat),j < k->zs[j]?=some z'->z'.1.op.effect=true->lst listed j=true:=fun j z' hj h1 h2=>by
      cases hl:lst listed j with
      | true=>rfl
      | false=>exact absurd ⟨z',h1,h2,hl⟩ (sN j hj)
     have hk:k < ops.size:=by rw[<-hd.len];exact(Qt.1 mJ).1
     have yh:z.2.testBit k=false:=by
      cases hb:z.2.testBit k with
      | false=>rfl
      | true=>rw[hI.up hd hz hr hb] at rt;cases rt
     have hc:=hR.chk (i,some k) (aH _ (XC _ (Z6.2 ⟨k,Xo.2 hk,by
      rw[noDesc_of fun j z' hj bh cQ=>Pb j z' bh (eD j z' hj bh cQ)]
      simp[effAt,YN,mJ,w8,hz,yh]⟩)))
     have w9:RJ zs ak (lst listed) 0 (VT zs ns aB)=RJ zs ak (fun j=>decide (j < 0+k)) 0 (VT zs ns aB):=by
      refine YE zs ak _ _ 0 _ fun j z' bh cQ _=>?_
      simp only[Q7]
      rcases Nat.lt_trichotomy j k with h | h | h
      ·rw[eD j z' h bh cQ];simp[h]
      ·subst h;rw[rt];simp
      ·rw[hI.down hd bh rt (hd.effs k j zk z' h mJ bh w8 cQ)];simp;omega
     obtain⟨itk,ic⟩:=hR.get mJ
     have bc:=hR.it mJ ic
     simp only[KE,hz,aW,hw,ic] at hc
     cases itk with
     | dead=>
      rcases bc with⟨p,h1,_⟩|⟨j',f,b,c,d,h1,h2⟩
      ·cases h1
      ·rw[Q7] at h2
       have hj:=ltAnc hd mJ h2
       have yj:j' < zs.length:=by have:=(Qt.1 mJ).1;omega
       have i7:zs[j']?=some zs[j']:=Qn yj
       have:=eD j' _ hj i7 (hR.pan_eff i7 h1)
       rw[hI.pn _ _ _ _ _ h1] at this;cases this
     | val f s c d=>
      obtain⟨_,h2,_⟩:=bc
      rw[w9,<-h2];exact same_of ho he hc
     | pan f s c d=>
      obtain⟨_,h2,_⟩:=bc
      rw[w9,<-h2];exact same_of ho he hc
theorem lst_set{i j:Nat}(h:i≠j):lst (listed.setIfInBounds i true) j=lst listed j:=getD_set_ne false h
theorem TD{i:Nat}(h:i < listed.size):lst (listed.setIfInBounds i true) i=true:=by
 unfold lst;rw[QA];simp[h]
theorem R3.next(hI:R3 ops zs ns ak E0 w0 N D av aB listed E a w)(hd:YG ops zs)(hR:Run Γ ops.size zs ns ak av frE aB stE){i:Nat}{z:Vc × Nat}{o:Oper}{aa:Fr}{af bp:St}{v:AV}{E':Env}{w':World}{u:Value}
  (hz:zs[i]?=some z) (ho:ops[i]?=some o) (dm:z.1.dst=o.dst) (hN:Un N o.dst=true) (hr:i∈Region.ready .any ops listed) (aW:ak[i]?=some (.val aa af v bp))
  (hx:Ext E0 w0 E' w') (eW:Ext0 E w E' w') (hs:Sat E' (bif z.1.op.effect then bp else RJ zs ak (lst listed) 0 (VT zs ns aB)) w') (hv:Rv E' w' v u)
  (bg:∀(j:Nat) (z:Vc × Nat),zs[j]?=some z->z.1.op.ahead=true->lst listed j=false->j≠i->E'.Rs (Wf zs j aB.next)):
  R3 ops zs ns ak E0 w0 N D av aB (listed.setIfInBounds i true) E' (a.put o.dst u) w':=by
 have hi:i < listed.size:=by rw[hI.ls];exact(Qv.1 ho).1
 refine⟨hx,?_,?_,by rw[put_size];exact hI.sz,by rw[put_defers'];exact hI.df,fun j zj h1 h2 h3=>?_,?_,by rw[Array.size_setIfInBounds];exact hI.ls,fun j b c d e hj=>?_⟩
 ·cases he:z.1.op.effect with
  | true=>
   simp only[he,Qi] at hs
   rw[stL_at zs ak _ 0 _ i z _ _ _ _ hz aW he (by rw[Q7];exact TD hi) fun k z' hk bh cQ=>?_]
   ·exact hs
   ·rw[Q7,lst_set (by omega)]
    exact hI.down hd bh (hI.not hr) (hd.effs i k z z' hk hz bh he cQ)
  | false=>
   simp only[he,Qq] at hs
   rw[YE zs ak _ (lst listed) 0 _ fun k z' bh cQ _=>?_]
   ·exact hs
   ·rw[Q7]
    refine lst_set ?_
    rintro rfl
    rw[hz] at bh;injection bh with bh;subst bh
    rw[he] at cQ;cases cQ
 ·have sO:RvF E' w' (Fr.put (RH zs ak (lst listed) 0 av) o.dst v) (a.put o.dst u):=RvF.put (fun n=>Rv.mono0 eW _ _ (hI.rvf n)) hv (by rw[hI.sz];exact hN)
  intro t
  have:=sO t
  have he:(RH zs ak (lst (listed.setIfInBounds i true)) 0 av).get t=(Fr.put (RH zs ak (lst listed) 0 av) o.dst v).get t:=by
   by_cases ht:z.1.dst=some t
   ·rw[frL_at zs ak _ 0 _ i z _ _ _ _ hz aW ht (by rw[Q7];exact TD hi) fun k z' h1 h2=>hd.dst k i z' z t h1 hz h2 ht]
    rw[<-dm,ht]
    simp[Fr.put,Fr.get_set]
   ·have h1:(Fr.put (RH zs ak (lst listed) 0 av) o.dst v).get t=(RH zs ak (lst listed) 0 av).get t:=by
     rw[dm] at ht
     cases yk:o.dst with
     | none=>rfl
     | some d=>
      rw[yk] at ht
      simp only[Fr.put,Fr.get_set]
      rw[Qe (by rintro rfl;exact ht rfl)]
    rw[h1]
    refine UR zs ak _ _ 0 _ _ rfl fun k z' bh hk _=>?_
    rw[Q7]
    refine lst_set ?_
    rintro rfl
    rw[hz] at bh;injection bh with bh;subst bh
    exact ht hk
  rw[he];exact this
 ·have az:i≠j:=by
   rintro rfl
   rw[TD hi] at h3;cases h3
  rw[lst_set az] at h3
  exact bg j zj h1 h2 h3 (Ne.symm az)
 ·obtain⟨_,o',jQ,he⟩:=mem_ready.1 hr
  rw[ho] at jQ;injection jQ with jQ;subst jQ
  exact hI.cl.set ho he
 ·have az:i≠j:=by
   rintro rfl
   rw[aW] at hj;cases hj
  rw[lst_set az];exact hI.pn _ _ _ _ _ hj
def OpsOk(P:Program)(ops:Array Oper)(N:Nat)(zs:List (Vc × Nat)):Prop:=∀(i:Nat) (o:Oper),ops[i]?=some o->∃ z fz,zs[i]?=some z/\z.1.dst=o.dst/\z.1.op=(cop P fz o).getD .bad ∧
 cguard ops o=some z.1.guard/\Un N o.dst=true/\(∀ cs,z.1.op=.alloc cs->∃ t,o.op=.alloc t)/\∀ b s zz l c,z.1.op=.mksl b s zz l c->∃ t l' c',o.op=.makeSlice t l' c'
def rOf(zs:List (Vc × Nat))(av:Fr)(ak:List RF)(frE:Fr)(stE:St):RR:=match JE ak with | some (v,af)=>.pan (frCut zs av) v af | none=>.ok frE stE
theorem frL_ds:∀(zs:List (Vc × Nat)) (ak:List RF) (L:Nat->Bool) (i:Nat) (fr:Fr),(RH zs ak L i fr).ds=fr.ds
 | [],_,_,_,_=>by unfold RH;rfl
 | z::zs,[],_,_,_=>by unfold RH;rfl
 | z::zs,it::ak,L,i,fr=>by
  cases it<;>simp only[RH]<;>rw[frL_ds zs ak L]
  cases L i<;>simp
theorem frCut_ds:∀(zs:List (Vc × Nat)) (fr:Fr),(frCut zs fr).ds=fr.ds
 | [],_=>rfl
 | z::zs,fr=>by
  unfold frCut
  rw[frCut_ds zs]
  cases z.1.dst<;>rfl
theorem frCut_get:∀(zs:List (Vc × Nat)) (fr:Fr) (n:Nat) (v:AV),(frCut zs fr).get n=some v->fr.get n=some v/\∀(k:Nat) (z:Vc × Nat),zs[k]?=some z->z.1.dst≠some n
 | [],_,_,_,h=>⟨h,fun k z hz=>by simp at hz⟩
 | z::zs,fr,n,v,h=>by
  unfold frCut at h
  obtain⟨h1,h2⟩:=frCut_get zs _ n v h
  cases hd:z.1.dst with
  | none=>
   rw[hd] at h1
   refine⟨h1,fun k z' hz=>?_⟩
   cases k with
   | zero=>simp only[Q0,Qa] at hz;subst hz;rw[hd];simp
   | succ k=>exact h2 k z' (by simpa using hz)
  | some d=>
   rw[hd] at h1
   simp only[Fr.get_set] at h1
   by_cases hn:n=d
   ·rw[Qm hn] at h1;cases h1
   ·rw[Qe hn] at h1
    refine⟨h1,fun k z' hz=>?_⟩
    cases k with
    | zero=>
     simp only[Q0,Qa] at hz;subst hz
     rw[hd];intro e;injection e with e;exact hn e.symm
    | succ k=>exact h2 k z' (by simpa using hz)
theorem panOf_none:∀(ak:List RF),(∀(j:Nat) (a:Fr) (b:St) (c:AV) (d:St),ak[j]?≠some (.pan a b c d))->JE ak=none
 | [],_=>rfl
 | it::ak,h=>by
  have:=panOf_none ak fun j a b c d hj=>h (j+1) a b c d (by simpa using hj)
  cases it with
  | dead=>exact this
  | val _ _ _ _=>exact this
  | pan a b c d=>exact absurd rfl (h 0 a b c d)
theorem R3.fin(hI:R3 ops zs ns ak E0 w0 N D av aB listed E a w)(hd:YG ops zs)(hR:Run Γ ops.size zs ns ak av frE aB stE)(aA:∀ i,i < ops.size->lst listed i=true)(kw:RvD P E0 w0 B w0.heap.size av.ds D)(gw:B<=w0.heap.size):U9 P E0 w0 N B (rOf zs av ak frE stE) .normal a w:=by
 have gx:=Jf _ _ _ _ _ _ _ _ _ hR.run
 have al:ak.length=ops.size:=by rw[gx.1,hd.len]
 have pA:=panOf_none ak fun j f b c d hj=>by
  have h1:j < ops.size:=by rw[<-al];exact(Qt.1 hj).1
  have:=hI.pn _ _ _ _ _ hj
  rw[aA j h1] at this;cases this
 unfold rOf
 rw[pA]
 have hz:∀(k:Nat) (z:Vc × Nat),zs[k]?=some z->lst listed k=true:=fun k z hz=>aA k (by rw[<-hd.len];exact(Qt.1 hz).1)
 refine⟨rfl,E,hI.ext,?_,⟨fun t=>?_,hI.sz,by rw[gx.2.1,frL_ds,hI.df];exact kw.mono hI.ext hI.ext.size,QY gw hI.ext.size⟩⟩
 ·rw[gx.2.2.1]
  rw[YE zs ak _ (lst listed) 0 _ fun k z h1 _ _=>by rw[Q7,hz k z h1]]
  exact hI.sat
 ·have:=hI.rvf t
  rw[gx.2.1,UR zs ak (fun _=>true) (lst listed) 0 av av rfl fun k z h1 _ _=>by rw[Q7,hz k z h1]]
  exact this
theorem KW{b0:Option Nat}(hΓ:U6 P Γ E0 w0)(kw:RvD P E0 w0 B w0.heap.size av.ds D)(gw:B<=w0.heap.size)(hd:YG ops zs)(dn:OpsOk P ops N zs)(hR:Run Γ ops.size zs ns ak av frE aB stE)(oJ:∀ j,E0.Rs j->j < aB.next):
  ∀(fuel:Nat) (listed:Array Bool) (E:Env) (a:Act) (w:World),R3 ops zs ns ak E0 w0 N D av aB listed E a w->JN listed ops.size+fuel=ops.size->wpAnyIn (Pa b0) 0 P .any ops (U9 P E0 w0 N B (rOf zs av ak frE stE)) fuel listed a w
 | 0,listed,E,a,w,hI,hn=>by
  have aA:∀ i,i < ops.size->lst listed i=true:=nlisted_all (by omega)
  refine⟨?_,hI.fin hd hR aA kw gw⟩
  cases hr:Region.ready .any ops listed with
  | nil=>rfl
  | cons i l=>
   have hm:i∈Region.ready .any ops listed:=by rw[hr];simp
   obtain⟨_,o,ho,_⟩:=mem_ready.1 hm
   have:=aA i (Qv.1 ho).1
   rw[hI.not hm] at this;cases this
 | fuel+1,listed,E,a,w,hI,hn=>by
  refine⟨fun hr=>hI.fin hd hR (all_listed hd.back hI.ls hr) kw gw,fun i hr=>?_⟩
  have eE:=hI.not hr
  obtain⟨_,o,ho,_⟩:=mem_ready.1 hr
  have hi:i < ops.size:=(Qv.1 ho).1
  have lL:JN (listed.setIfInBounds i true) ops.size+fuel=ops.size:=by
   rw[nlisted_set hi (by rw[hI.ls];exact hi) eE];omega
  obtain⟨z,fz,hz,dm,cy,hg,hN,cm,yl⟩:=dn i o ho
  obtain⟨it,aW⟩:=hR.get hz
  have bc:=hR.it hz aW
  have hs:=hI.slots hd hz hr
  have mK:=uses_guard hs
  unfold wpOpIn
  simp only[ho]
  cases it with
  | dead=>exact absurd aW (hI.alive hd hR hz hr)
  | val aa af v bp=>
   obtain⟨oI,ax,bc⟩:=bc
   rw[<-oI] at mK
   rcases bc with⟨hw,mL⟩|⟨hw,rfl,rfl⟩
   ·rw[hw] at mK
    rw[JG hI.rvf hg mK]
    simp only[Xj]
    have bM:=hI.now hd hR hz hr aW hw mL
    by_cases aA:∃ cs,z.1.op=.alloc cs
    ·obtain⟨cs,aY⟩:=aA
     obtain⟨t,lN⟩:=cm cs aY
     have sQ:cop P fz o=(P.info? t).bind fun i=>(KP i).map fun zs=>bif fz then .allocT t zs else .alloc zs:=by
      unfold cop U3 cop1
      simp only[lN]
      cases P.info? t with
      | none=>rfl
      | some i=>cases h2:KP i<;>cases fz<;>simp[h2,Rz.isCall,Rz.special]
     rw[aY] at cy
     have iA:cop P fz o=some (.alloc cs):=by
      cases hc:cop P fz o with
      | none=>rw[hc] at cy;cases cy
      | some m=>rw[hc] at cy;simp only[Q9] at cy;rw[cy]
     rw[sQ] at iA
     simp only[Qh,Qf] at iA
     obtain⟨ti,lO,zz,sR,sS⟩:=iA
     cases fz with
     | true=>cases sS
     | false=>
     simp only[Qq,Rz.alloc.injEq] at sS;subst sS
     obtain⟨zv,gX,aT⟩:=Yu sR
     have dG:z.1.op.effect=false:=by rw[aY];rfl
     rw[dG] at bM
     simp only[Qq,aY,V5] at bM
     have mM:=hI.rs i z hz (by rw[aY];rfl) eE
     have lP:=hI.sat.rs _ mM
     split at bM
     ·rename_i cn ck
      cases hb:VG cn zz
      ·simp[hb] at bM
      ·simp only[hb,Qi,R4.val.injEq,ZW] at bM
       have:=WL _ _ hb
       subst this
       have bD:=hI.sat.setRs (fun j=>j≠Wf zs i aB.next/\E.Rs j) fun j hj=>hI.sat.rs j hj.2
       obtain⟨w',h1,h2,h3,h4⟩:=alloc_link_sound (P:=P) (t:=t) lO gX aT bD lP.2 lP.1 (fun h=>h.1 rfl) ck
       have aV:(execOp a.eval o).run P w=.ok (.value (.pointer (some ⟨w.heap.size,0,none⟩))) w':=by simp[execOp,lN,h1]
       refine⟨fun _ _=>trivial,?_⟩
       rw[Oper.semAt_eq _ _ _ (fun c hc=>by rw[lN] at hc;cases hc),aV]
       have pB:Ext0 E w { E with Rs:=fun j=>j≠Wf zs i aB.next/\E.Rs j } w:=⟨fun _ _ h=>h,fun _ h=>h,fun _ _=>rfl,Qw _,fun _ _ h=>h,rfl,rfl,rfl,fun _ _=>rfl⟩
       have eW:=pB.trans h2.toExt0
       refine KW hΓ kw gw hd dn hR oJ fuel _ _ _ _ (hI.next hd hR hz ho dm hN hr aW ⟨hI.ext.toExt0.trans eW,fun j hj=>?_,fun b o hb=>h2.Dz b o (hI.ext.Dz b o hb)⟩ eW (by rw[dG];exact h3) (by rw[<-bM];exact h4) fun j zj i7 kx mN az=>?_) lL
       ·have h5:=oJ j hj
        have h6:=idAt_le zs i aB.next
        exact h2.Rs j ⟨by omega,hI.ext.Rs j hj⟩
       ·refine h2.Rs _ ⟨?_,hI.rs j zj i7 kx mN⟩
        rcases Nat.lt_or_gt_of_ne az with h | h
        ·have:=idAt_lt zs j i aB.next zj h i7 kx;omega
        ·have:=idAt_lt zs i j aB.next z h hz (by rw[aY];rfl);omega
     ·cases bM
    ·by_cases pC:∃ b s zz l c,z.1.op=.mksl b s zz l c
     ·obtain⟨b,s,zz,l,c,aY⟩:=pC
      obtain⟨t,l',c',lN⟩:=yl b s zz l c aY
      rw[aY] at cy
      have iA:cop P fz o=some (.mksl b s zz l c):=by
       cases hc:cop P fz o with
       | none=>rw[hc] at cy;cases cy
       | some m=>rw[hc] at cy;simp only[Q9] at cy;rw[cy]
      have eF:cop1 P fz o=some (.mksl b s zz l c):=by
       unfold cop U3 at iA
       simp only[lN] at iA
       cases h1:cop1 P fz o with
       | none=>rw[h1] at iA;cases iA
       | some m=>
        rw[h1] at iA
        simp only[Qg,cond_eq_ite,Option.ite_none_left_eq_some,Qa] at iA
        rw[iA.2]
      unfold cop1 at eF
      simp only[lN] at eF
      split at eF<;>try (simp only[reduceCtorEq] at eF;done)
      rename_i e sU
      simp only[Qh,Qf,Rz.mksl.injEq] at eF
      obtain⟨ti,lO,wA,sR,l0,d3,c0,cP,rfl,rfl,rfl,rfl,rfl⟩:=eF
      obtain⟨zv,gX,aT⟩:=Yu sR
      have dG:z.1.op.effect=false:=by rw[aY];rfl
      rw[dG] at bM
      simp only[Qq,aY,V5] at bM
      have mM:=hI.rs i z hz (by rw[aY];rfl) eE
      have lP:=hI.sat.rs _ mM
      have jR:=Vl hI.rvf d3
      have gu:=Vl hI.rvf cP
      unfold msliceD at bM
      split at bM<;>try (simp only[R4.of,reduceCtorEq] at bM;done)
      rename_i kl nl kc nc cn el ec ck
      rw[el] at jR;rw[ec] at gu
      have jR:a.eval l'=.int kl (nl:Int):=jR
      have gu:a.eval c'=.int kc (nc:Int):=gu
      cases pD:(nl.ble nc&&(ti.bytes*nc).ble 140737488355328&&nc.ble 140737488355328&&wA.length.beq ti.size&&VG cn (Yl wA nc))
      ·rw[pD] at bM;simp only[Qq,R4.of,reduceCtorEq] at bM
      ·rw[pD] at bM
       simp only[Qi,R4.of,R4.val.injEq,ZW] at bM
       rw[Qd] at pD
       have:=WL _ _ pD.2
       subst this
       have bD:=hI.sat.setRs (fun j=>j≠Wf zs i aB.next/\E.Rs j) fun j hj=>hI.sat.rs j hj.2
       obtain⟨q,w',h1,h2,h3,h4⟩:=mslice_link_sound (P:=P) (kl:=kl) (kc:=kc) sU lO gX aT bD lP.2 lP.1 (fun h=>h.1 rfl) ck pD.1
       have aV:(execOp a.eval o).run P w=.ok (.value q) w':=by simp[execOp,lN,jR,gu,h1]
       refine⟨fun _ _=>trivial,?_⟩
       rw[Oper.semAt_eq _ _ _ (fun c hc=>by rw[lN] at hc;cases hc),aV]
       have pB:Ext0 E w { E with Rs:=fun j=>j≠Wf zs i aB.next/\E.Rs j } w:=⟨fun _ _ h=>h,fun _ h=>h,fun _ _=>rfl,Qw _,fun _ _ h=>h,rfl,rfl,rfl,fun _ _=>rfl⟩
       have eW:=pB.trans h2.toExt0
       refine KW hΓ kw gw hd dn hR oJ fuel _ _ _ _ (hI.next hd hR hz ho dm hN hr aW ⟨hI.ext.toExt0.trans eW,fun j hj=>?_,fun b o hb=>h2.Dz b o (hI.ext.Dz b o hb)⟩ eW (by rw[dG];exact h3) (by rw[<-bM];exact h4) fun j zj i7 kx mN az=>?_) lL
       ·have h5:=oJ j hj
        have h6:=idAt_le zs i aB.next
        exact h2.Rs j ⟨by omega,hI.ext.Rs j hj⟩
       ·refine h2.Rs _ ⟨?_,hI.rs j zj i7 kx mN⟩
        rcases Nat.lt_or_gt_of_ne az with h | h
        ·have:=idAt_lt zs j i aB.next zj h i7 kx;omega
        ·have:=idAt_lt zs i j aB.next z h hz (by rw[aY];rfl);omega
     have mO:V5 Γ (Wf zs i aB.next) (RH zs ak (lst listed) 0 av) (RJ zs ak (lst listed) 0 (VT zs ns aB)) z.1.op=RD Γ (RH zs ak (lst listed) 0 av) (RJ zs ak (lst listed) 0 (VT zs ns aB)) z.1.op:=by
      unfold V5
      split
      ·rename_i cs aY;exact absurd ⟨cs,aY⟩ aA
      ·rename_i b s zz l c aY;exact absurd ⟨b,s,zz,l,c,aY⟩ pC
      ·rfl
     rw[mO] at bM
     refine UN (hΓ.mono hI.ext) hI.rvf hI.sat (.val v (bif z.1.op.effect then bp else RJ zs ak (lst listed) 0 (VT zs ns aB))) (by rw[<-cy];exact bM) (fun v1 s1 dO E' w' u h1 h2 h3=>?_) (fun v1 s1 dO=>by cases dO) (by simp)
     injection dO with e1 e2
     subst e1;subst e2
     exact KW hΓ kw gw hd dn hR oJ fuel _ E' _ w' (hI.next hd hR hz ho dm hN hr aW (hI.ext.trans h1) h1.toExt0 h2 h3 fun j zj i7 kx mN _=>h1.Rs _ (hI.rs j zj i7 kx mN)) lL
   ·rw[hw] at mK
    rw[JG hI.rvf hg mK]
    simp only[Q1,Xz]
    refine⟨fun _ _=>trivial,KW hΓ kw gw hd dn hR oJ fuel _ E _ w (hI.next hd hR hz ho dm hN hr aW hI.ext (Ext.refl E w).toExt0 ?_ rfl fun j zj i7 kx mN _=>hI.rs j zj i7 kx mN) lL⟩
    cases he:z.1.op.effect with
    | false=>exact hI.sat
    | true=>
     simp only[Qi]
     rw[ax,<-hI.heap hd hz hr (eff_anch hd hz he)]
     exact hI.sat
  | pan aa af v bp=>
   have dG:=hR.pan_eff hz aW
   obtain⟨oI,ax,hw,mL⟩:=bc
   rw[<-oI,hw] at mK
   rw[JG hI.rvf hg mK]
   simp only[Xj]
   have mO:RD Γ (RH zs ak (lst listed) 0 av) (RJ zs ak (lst listed) 0 (VT zs ns aB)) z.1.op=.pan v bp:=by
    rw[opr_congr (uses_xs hs),<-oI,hI.heap hd hz hr (eff_anch hd hz dG),<-ax,<-mL]
    unfold V5
    split
    ·rename_i cs aY;rw[aY] at dG;cases dG
    ·rename_i b s zz l c aY;rw[aY] at dG;cases dG
    ·rfl
   refine UN (hΓ.mono hI.ext) hI.rvf hI.sat (.pan v bp) (by rw[<-cy];exact mO) (fun v1 s1 dO=>by cases dO) (fun v1 s1 dO E' w' u h1 h2 h3=>?_) (by simp)
   injection dO with e1 e2
   subst e1;subst e2
   have:=(T6 _ _ _ _ _ _ _ _ _ hR.run).2 i _ _ _ _ aW
   unfold rOf
   rw[this]
   refine⟨u,E',rfl,hI.ext.trans h1,h2,h3,⟨fun n v hn=>?_,by rw[frCut_ds,hI.df];exact kw.mono (hI.ext.trans h1) (hI.ext.trans h1).size⟩⟩
   obtain⟨h4,h5⟩:=frCut_get zs av n v hn
   refine Rv.mono h1 _ _ (hI.rvf.part n v ?_)
   rw[frL_off zs ak _ 0 av h5];exact h4
theorem adraw_sound{id:Nat}{r:RR}{fr:Fr}{st:St}{b0:Option Nat}(hm:P.follows .mixedOrders=true)(hΓ:U6 P Γ E w)(hd:YG ops zs)(dn:OpsOk P ops N zs)(hr:VK Γ zs (chkOf ops.size zs) fr st=r)(ax:r≠.stuck)
  (hf:RT P E w N B fr a) (hs:Sat E st w):(Code.region id ops true).wpIn (Pa b0) 0 P (U9 P E w N B r) a w:=by
 unfold VK at hr
 generalize lens Γ zs fr st=ns at hr
 cases aV:Wq Γ zs 0 st.next fr (VT zs ns st) none with
 | none=>rw[aV] at hr;exact absurd hr.symm ax
 | some d=>
  obtain⟨ak,frE,stE⟩:=d
  rw[aV] at hr
  simp only at hr
  cases hc:(chkOf ops.size zs).all (KE Γ zs ak st.next stE)
  ·rw[hc] at hr;exact absurd hr.symm ax
  ·rw[hc] at hr
   simp only[Qi] at hr
   have hR:Run Γ ops.size zs ns ak fr frE st stE:=⟨aV,fun q hq=>QB.1 hc q hq⟩
   have fx:rOf zs fr ak frE stE=r:=hr
   rw[<-fx]
   refine wpIn_region_any hm ?_
   have hx:Ext E w E { w with drawn:=w.drawn+1 }:=hs.drew.2
   have cr:Sat E st { w with drawn:=w.drawn+1 }:=hs.drew.1
   have az:∀ k,lst (Array.replicate ops.size false) k=false:=fun k=>by
    unfold lst
    rw[QA]
    cases h:(Array.replicate ops.size false)[k]? with
    | none=>rfl
    | some b=>
     obtain⟨_,h⟩:=Qv.1 h
     simp at h;simp[h]
   have gO:JN (Array.replicate ops.size false) ops.size=0:=by
    unfold JN
    refine List.countP_eq_zero.2 fun k _=>?_
    have:=az k
    unfold lst at this
    simp[this]
   refine KW (D:=a.defers) hΓ hf.d hf.b hd dn hR (fun j hj=>(hs.rs j hj).2) ops.size _ { E with Rs:=fun j=>E.Rs j\/(st.next<=j/\j < (VT zs ns st).next) } a _ ⟨?_,?_,?_,hf.n,rfl,fun j z hz aY _=>?_,fun i o _ h=>?_,by simp,fun j _ _ _ _ _=>az j⟩ (by omega)
   ·exact⟨⟨fun _ _ h=>h,fun _ h=>h,hx.mem,hx.size,hx.shape,hx.os,hx.tape,hx.output,fun _ _=>rfl⟩,fun _ h=>.inl h,fun _ _ h=>h⟩
   ·rw[Tj zs ak _ 0 _ fun k _=>az k]
    refine (preA_sat zs ns st cr).setRs _ fun j hj=>?_
    rcases hj with hj|⟨h1,h2⟩
    ·have:=hs.rs j hj
     have h3:=Sl zs ns st
     exact⟨this.1,by omega⟩
    ·refine⟨?_,h2⟩
     cases hb:E.β j with
     | none=>rfl
     | some b=>have:=(hs.dom j b hb).1;omega
   ·rw[Ts zs ak _ 0 _ fun k _=>az k]
    have pB:Ext0 E w { E with Rs:=fun j=>E.Rs j\/(st.next<=j/\j < (VT zs ns st).next) } { w with drawn:=w.drawn+1 }:=⟨fun _ _ h=>h,fun _ h=>h,hx.mem,hx.size,hx.shape,hx.os,hx.tape,hx.output,fun _ _=>rfl⟩
    exact fun n=>Rv.mono0 pB _ _ (hf.f n)
   ·exact .inr ⟨idAt_le zs j st.next,idAt_next zs ns j st z hz aY⟩
   ·have:=az i
    unfold lst at this
    rw[this] at h;cases h
end
end Go.AM
namespace Go.AM
def Env.pin(E:Env)(D:Nat)(q:Option Obj):Env:={ E with Dz:=fun b=>if b=D then q else E.Dz b }
theorem Sat.allocPin{E:Env}{st:St}{w:World}(h:Sat E st w)(q:Obj)(hq:PinOk q):Sat (E.pin w.heap.size (some q)) st (w.alloc q) ∧
  Ext E w (E.pin w.heap.size (some q)) (w.alloc q):=by
 have hx:Ext E w (E.pin w.heap.size (some q)) (w.alloc q):=Ext.alloc _ (fun _ _ h=>h) (fun _ h=>h) (fun _ h=>h) (fun _ _=>rfl) (fun b o hb=>by
  have:=(Qv.1 (h.dz b o hb).1).1
  show (if b=w.heap.size then some q else E.Dz b)=_
  rw[Qe (by omega)];exact hb) h.fz
 refine⟨⟨fun id b hb=>?_,fun b hb=>?_,fun id o' b h1 h2=>?_,h.sep,h.lv,h.rs,fun b o hb=>?_,JW.mono h.bt hx.toExt0 rfl⟩,hx⟩
 ·have:=h.dom id b hb;simp;omega
 ·have:=h.fz b hb;simp;omega
 ·exact Wv.mono hx (Ww w _ b (h.dom id b h2).2) (h.obj id o' b h1 h2)
 ·have hb:(if b=w.heap.size then some q else E.Dz b)=some o:=hb
  split at hb
  ·rename_i e;injection hb with hb;subst hb;subst e
   exact⟨Vz w _,fun hf=>by have:=h.fz _ hf;omega,hq⟩
  ·obtain⟨h1,h2⟩:=h.dz b o hb
   exact⟨by rw[Ww w _ b (Qv.1 h1).1];exact h1,h2⟩
theorem Sat.rePin{E:Env}{st:St}{w:World}(h:Sat E st w){D:Nat}{o:Obj}(hD:E.Dz D=some o)(o':Obj)(q:Option Obj)(hq:∀ x,q=some x->x=o'/\PinOk x):
  Sat (E.pin D q) st (w.putObj D o')/\Ext0 E w (E.pin D q) (w.putObj D o'):=by
 obtain⟨h1,h2,h0⟩:=h.dz D o hD
 have am:=(Qv.1 h1).1
 have az:∀ k,k≠D->(w.putObj D o').heap[k]?=w.heap[k]?:=fun k hk=>World.putObj_heap_other hk
 have hx:Ext0 E w (E.pin D q) (w.putObj D o'):=⟨fun _ _ h=>h,fun _ h=>h,fun b hb=>az b (by rintro rfl;exact h2 hb),by simp,fun b s hs=>by
  by_cases hb:b=D
  ·subst hb;unfold World.shape? at hs;rw[h1] at hs;cases o<;>first | exact h0.elim | cases hs
  ·rw[YA (az b hb)];exact hs,rfl,rfl,rfl,fun _ _=>rfl⟩
 refine⟨⟨fun id b hb=>?_,fun b hb=>?_,fun id o b g1 g2=>?_,h.sep,h.lv,h.rs,fun b x hb=>?_,JW.mono h.bt hx rfl⟩,hx⟩
 ·have:=h.dom id b hb;simp;exact this
 ·have:=h.fz b hb;simp;exact this
 ·have g3:=h.obj id o b g1 g2
  refine Wv.mono0 hx (az b ?_) g3
  rintro rfl
  cases o with
  | fro cs=>exact h2 g3.1
  | fmap cs=>exact h2 g3.1
  | row cs=>obtain⟨⟨_,_,_,h4,_⟩,_⟩:=g3;rw[h1] at h4;injection h4 with h4;subst h4;exact h0
  | map es=>obtain⟨_,_,h4,_⟩:=g3;rw[h1] at h4;injection h4 with h4;subst h4;exact h0
  | loop s=>obtain⟨_,h4,_⟩:=g3;rw[h1] at h4;injection h4 with h4;subst h4;exact h0
  | iter m ks=>obtain⟨_,_,_,_,_,_,_,h4,_⟩:=g3;rw[h1] at h4;injection h4 with h4;subst h4;exact h0
 ·have cF:(if b=D then q else E.Dz b)=some x:=hb
  split at cF
  ·rename_i e;subst e
   obtain⟨e,h3⟩:=hq x cF
   subst e
   exact⟨World.putObj_heap_same am,h2,h3⟩
  ·rename_i e
   obtain⟨h3,h4⟩:=h.dz b x cF
   exact⟨by rw[az b e];exact h3,h4⟩
theorem Sat.allocDz{E:Env}{st:St}{w:World}(h:Sat E st w):Sat (E.pin w.heap.size (some (.deferred (some [])))) st (w.alloc (.deferred (some []))) ∧
  Ext E w (E.pin w.heap.size (some (.deferred (some [])))) (w.alloc (.deferred (some []))):=h.allocPin _ trivial
theorem Sat.shutDz{E:Env}{st:St}{w:World}(h:Sat E st w){D:Nat}(hD:E.Dz D=some (.deferred (some []))):
  Sat (E.pin D none) st (w.putObj D (.deferred none))/\Ext0 E w (E.pin D none) (w.putObj D (.deferred none)):=h.rePin hD _ none (fun _ h=>by cases h)
def Env.loop(E:Env)(id b:Nat)(r:Loop):Env:={ E.link id b with lr:=fun k=>if k=b then r else E.lr k }
theorem Sat.newLoop{E:Env}{st:St}{w:World}(h:Sat E st w)(r:Loop)(h1:r.state=.ready)(h2:r.pending=none):
  Sat (E.loop st.next w.heap.size r) (st.new (.loop .ready)) (w.alloc (.loop r))/\Ext E w (E.loop st.next w.heap.size r) (w.alloc (.loop r)):=by
 have aL:Ext E w { E with lr:=fun k=>if k=w.heap.size then r else E.lr k } w:=⟨⟨fun _ _ h=>h,fun _ h=>h,fun _ _=>rfl,Qw _,fun _ _ h=>h,rfl,rfl,rfl,fun b hb=>Qe (by omega)⟩,fun _ h=>h,fun _ _ h=>h⟩
 have cr:Sat { E with lr:=fun k=>if k=w.heap.size then r else E.lr k } st w:=⟨h.dom,h.fz,fun id o b g1 g2=>Wv.mono aL rfl (h.obj id o b g1 g2),h.sep,h.lv,h.rs,h.dz,JW.mono h.bt aL.toExt0 rfl⟩
 obtain⟨h3,h4⟩:=cr.alloc' (.loop r) (.loop .ready) fun _=>⟨r,Vz w _,by
  show r={ (if w.heap.size=w.heap.size then r else E.lr w.heap.size) with state:=.ready,pending:=none }
  rw[Qm rfl,<-h1,<-h2]⟩
 exact⟨h3,aL.trans h4⟩
theorem loopAt_get{st:St}{id:Nat}{s:LS}(h:Wh st id=some s):st.get id=some (.loop s):=by
 unfold Wh at h
 split at h
 ·rename_i h1;injection h with h;subst h;exact h1
 ·cases h
theorem Sat.loop{E:Env}{st:St}{w:World}(h:Sat E st w){id b:Nat}{s:LS}(hl:Wh st id=some s)(hb:E.β id=some b):∃ r,w.heap[b]?=some (.loop r)/\s.ok (E.lr b) r:=
 h.obj id _ b (loopAt_get hl) hb
theorem Sat.putLoop{E:Env}{st:St}{w:World}(h:Sat E st w){id b:Nat}{s s':LS}{r r':Loop}(hl:Wh st id=some s)(hb:E.β id=some b)(hr:w.heap[b]?=some (.loop r))(bc:s'.ok (E.lr b) r'):
  Sat E (st.put id (.loop s')) (w.putObj b (.loop r'))/\Ext E w E (w.putObj b (.loop r')):=by
 have am:=(Qv.1 hr).1
 refine h.write id b (.loop s) (.loop s') (loopAt_get hl) rfl hb (fun k hk=>World.putObj_heap_other hk) (by simp) (fun q hq=>?_) rfl rfl rfl rfl fun _=>⟨r',World.putObj_heap_same am,bc⟩
 unfold World.shape? at hq
 rw[hr] at hq;cases hq
end Go.AM
namespace Go.AM
theorem lsBeq_eq{a b:LS}(h:lsBeq a b=true):a=b:=by
 cases a<;>cases b<;>simp only[lsBeq,Q1] at h<;>first | rfl | rw[Qj h]
theorem esBeq_eq:∀{a b:List (AV × AV)},esBeq a b=true->a=b
 | [],[],_=>rfl
 | [],_::_,h=>by simp[esBeq] at h
 | _::_,[],h=>by simp[esBeq] at h
 | (p1,p2)::a,(q1,q2)::b,h=>by
  simp only[esBeq,Qd] at h
  rw[JJ _ _ h.1.1,JJ _ _ h.1.2,esBeq_eq h.2]
theorem aoBeq_eq{a b:AO}(h:aoBeq a b=true):a=b:=by
 cases a<;>cases b<;>simp only[aoBeq,Q1] at h
 ·rw[WL _ _ h]
 ·rw[WL _ _ h]
 ·rw[esBeq_eq h]
 ·rw[lsBeq_eq h]
 ·rw[esBeq_eq h]
theorem subTr_get{α:Type}{eq:α->α->Bool}(he:∀ a b,eq a b=true->a=b):∀(f n:Nat) (t u:Tr α) (v:α),subTr eq t u=true->Tr.getN f t n=some v->Tr.getN f u n=some v
 | f,n,.nil,u,v,_,h=>by rw[Tr.getN_nil] at h;cases h
 | f,n,.node o l r,.nil,v,hs,_=>by simp[subTr] at hs
 | f,n,.node o l r,.node o' l' r',v,hs,h=>by
  simp only[subTr,Qd] at hs
  have hv:∀ v,o=some v->o'=some v:=fun v hv=>by
   subst hv
   have:=hs.1.1
   cases o' with
   | none=>simp at this
   | some b=>simp only at this;rw[he _ _ this]
  cases f with
  | zero=>exact hv v h
  | succ f=>
   unfold Tr.getN at h ⊢
   cases hb:n.beq 0
   ·simp only[hb,Qq] at h ⊢
    cases ho:(n.mod 2).beq 1
    ·simp only[ho,Qq] at h ⊢
     exact subTr_get he f _ r r' v hs.2 h
    ·simp only[ho,Qi] at h ⊢
     exact subTr_get he f _ l l' v hs.1.2 h
   ·simp only[hb,Qi] at h ⊢
    exact hv v h
theorem subSt_of{L st:St}(h:Jn L st=true):SubSt L st:=by
 simp only[Jn,Qd] at h
 refine⟨Qj h.1.1,fun id o ho=>subTr_get (fun a b=>aoBeq_eq) _ _ _ _ _ h.1.2 ho,?_⟩
 have:=h.2
 split at this
 ·assumption
 ·cases this
theorem Sat.sub{E:Env}{L st:St}{w:World}(hs:Sat E st w)(h:SubSt L st):Sat E L w:=
 ⟨fun id b hb=>by rw[h.next];exact hs.dom id b hb,hs.fz,fun id o b h1 h2=>hs.obj id o b (h.obj _ _ h1) h2,fun i i' o o' b h1 h2=>hs.sep i i' o o' b (h.obj _ _ h1) (h.obj _ _ h2),
  fun id o b h1=>hs.lv id o b (h.obj _ _ h1),fun id hi=>by rw[h.next];exact hs.rs id hi,hs.dz,fun id t ht=>by rw[h.bt,Tr.get_nil] at ht;cases ht⟩
theorem eqTr_eq{α:Type}{eq:α->α->Bool}(he:∀ a b,eq a b=true->a=b):∀(t u:Tr α),eqTr eq t u=true->t=u
 | .nil,.nil,_=>rfl
 | .nil,.node _ _ _,h=>by simp[eqTr] at h
 | .node _ _ _,.nil,h=>by simp[eqTr] at h
 | .node o l r,.node o' l' r',h=>by
  simp only[eqTr,Qd] at h
  have ho:o=o':=by
   have:=h.1.1
   cases o<;>cases o'<;>simp only[Q1] at this
   ·rfl
   ·rw[he _ _ this]
  rw[ho,eqTr_eq he l l' h.1.2,eqTr_eq he r r' h.2]
theorem eqFr_eq{F G:Fr}(h:eqFr F G=true):F=G:=by
 simp only[eqFr,Qd] at h
 have h1:=eqTr_eq JJ _ _ h.1
 have h2:F.ds=G.ds:=by
  have:=h.2
  split at this
  ·rename_i e1 e2;rw[e1,e2]
  ·cases this
 cases F;cases G
 simp only at h1 h2
 rw[h1,h2]
theorem insAll_mem(x:Nat):∀(a b:List Nat),a++x::b∈insAll x (a++b)
 | [],[]=>by simp[insAll]
 | [],y::b=>by simp[insAll]
 | y::a,b=>by
  simp only[QP,insAll,Qx,Q6]
  exact .inr ⟨_,insAll_mem x a b,rfl⟩
theorem permsA_mem:∀(xs l:List Nat),l.Perm xs->l∈permsA xs
 | [],l,h=>by rw[h.eq_nil];simp[permsA]
 | x::xs,l,h=>by
  have hx:x∈l:=h.mem_iff.2 (by simp)
  obtain⟨a,b,rfl⟩:=Z7 hx
  have:(a++b).Perm xs:=List.Perm.cons_inv ((List.perm_middle.symm).trans h)
  simp only[permsA,QO]
  exact⟨_,permsA_mem xs _ this,insAll_mem x a b⟩
theorem isTop_eq{x:AV}(h:Jg x=true):x=.top:=by cases x<;>simp[Jg] at h;rfl
theorem nonAgg_top{E:Env}{w:World}{x:AV}{v:Value}(hn:VR x=true)(h:Rv E w x v):Rv E w .top v:=by
 show v.cells=#[v]
 cases x with
 | agg cs=>cases hn
 | undef=>subst h;rfl
 | bool b=>subst h;rfl
 | int k n=>subst h;rfl
 | str l=>obtain⟨s,rfl,hs⟩:=h;rfl
 | nilptr=>subst h;rfl
 | ptr id off=>obtain⟨b,hb,rfl⟩:=h;rfl
 | fptr cs off=>obtain⟨a,rfl,_⟩:=h;rfl
 | nilsl=>subst h;rfl
 | lst n cs ex=>obtain⟨a,cap,rfl,_⟩:=h;rfl
 | own id off n sz cap lo=>obtain⟨b,c,e,m,hb,rfl,_⟩:=h;rfl
 | nilmap=>subst h;rfl
 | map id=>obtain⟨b,hb,rfl⟩:=h;rfl
 | func fn fs cs=>obtain⟨xs,ys,rfl,_⟩:=h;rfl
 | nilfn=>subst h;rfl
 | niface=>subst h;rfl
 | iface t y=>obtain⟨u,rfl,_⟩:=h;rfl
 | tuple vs=>obtain⟨u,rfl,_⟩:=h;rfl
 | yld id=>obtain⟨b,hb,rfl⟩:=h;rfl
 | top=>exact h
theorem genOk_sound{E:Env}{w:World}{x y:AV}{v:Value}(hg:genOk x y=true)(h:Rv E w x v):Rv E w y v:=by
 cases y<;>simp only[genOk,Q1] at hg
 ·rename_i ds
  cases x<;>simp only[Q1] at hg
  rename_i cs
  simp only[Qd] at hg
  obtain⟨xs,rfl,hx⟩:=h
  refine⟨xs,rfl,?_⟩
  have key:∀(cs ds:List AV) (xs:List Value),cs.length=ds.length->cs.all VR=true->ds.all Jg=true->R2 E w cs xs->R2 E w ds xs:=by
   intro cs
   induction cs with
   | nil=>intro ds xs h1 _ _ h4;cases ds with | nil=>exact h4 | cons _ _=>simp at h1
   | cons c cs ih=>
    intro ds xs h1 h2 h3 h4
    cases ds with
    | nil=>simp at h1
    | cons d ds=>
     obtain⟨x,ep,rfl,h5,h6⟩:=h4
     simp only[QN,Qd] at h2 h3
     refine⟨x,ep,rfl,?_,ih ds ep (by simpa using h1) h2.2 h3.2 h6⟩
     rw[isTop_eq h3.1];exact nonAgg_top h2.1 h5
  exact key cs ds _ (Qj hg.1.1) hg.1.2 hg.2 hx
 ·exact nonAgg_top hg h
theorem wipe_get:∀(cl:List Nat) (f:Fr) (n:Nat),n∉cl->(wipe cl f).get n=f.get n
 | [],_,_,_=>rfl
 | c::cl,f,n,h=>by
  simp only[Qx,Z8] at h
  unfold wipe
  rw[Xt]
  have:=wipe_get cl (f.set c (some .undef)) n h.2
  unfold wipe at this
  rw[this,Fr.get_set,Qe h.1]
theorem wipe_ds:∀(cl:List Nat) (f:Fr),(wipe cl f).ds=f.ds
 | [],_=>rfl
 | c::cl,f=>by
  unfold wipe
  rw[Xt]
  have:=wipe_ds cl (f.set c (some .undef))
  unfold wipe at this
  rw[this];rfl
theorem okFr_get{cl:List Nat}{f F:Fr}(h:okFr cl f F=true):(∀ n,n∉cl->F.get n=f.get n)/\(∀ n∈cl,genOk (ev f (.t n)) (ev F (.t n))=true)/\F.ds=f.ds:=by
 simp only[okFr,Qd,QB] at h
 have he:=eqFr_eq h.1
 refine⟨fun n hn=>?_,h.2,?_⟩
 ·rw[<-wipe_get cl f n hn,<-wipe_get cl F n hn,he]
 ·rw[<-wipe_ds cl f,<-wipe_ds cl F,he]
end Go.AM
namespace Go.AM
def GlobOk(_P:Program)(_w:World):Prop:=True
end Go.AM
