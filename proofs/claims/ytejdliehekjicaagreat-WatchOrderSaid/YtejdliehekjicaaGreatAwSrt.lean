import Derived.Test.YtejdliehekjicaaGreatAwGlob
import Derived.Laws.ResultCell
import Derived.RecoverIn
import Derived.Lib.ItoaNum
import Derived.Sort.Grow
import Derived.Deep.Draws
import Derived.Laws.AppendOwn
set_option linter.unusedSimpArgs false
namespace Go.AM
noncomputable section
theorem rangeB_ok{body:Fr->St->CR}{it nx more id m:Nat}{cl:List Nat}{k:Nat}{fr F:Fr}{st L:St}:rangeB body it nx more id m cl k fr F st L=true ↔ RangeOk body it nx more id m cl k fr F st L:=by
 constructor
 ·intro h
  unfold rangeB at h
  rw[XB] at h
  rcases h with h | h
  ·intro l hl
   have h1:=QB.1 h l (permsA_mem _ _ hl)
   split at h1
   ·rename_i f s hrl
    simp only[Qd] at h1
    exact⟨f,s,hrl,okFr_get h1.1,subSt_of h1.2⟩
   ·cases h1
  ·exact @ZD _ (Classical.propDecidable _) h
 ·intro h
  unfold rangeB
  rw[@Qs _ (Classical.propDecidable _) h,XS]
theorem SE(N:Nat)(c:Code)(m:Vn):mkLoop N c m=.loop m\/∃ it nx more out mR id ops cR m1 m2,c=.seq (.region id ops false) (.seq (.cond (.tmp more) .skip (.exit out)) cR)/\m=.seq m1 (.seq m2 mR) ∧
  stepOf N ops.toList=some (it,nx,more)/\mkLoop N c m=.mrange it nx more out (it::nx::more::mR.dsts) mR:=by
 unfold mkLoop
 split
 ·rename_i id ops more' out cR m1 m2 mR
  cases hs:stepOf N ops.toList with
  | none=>exact .inl rfl
  | some q=>
   obtain⟨it,nx,more⟩:=q
   cases hb:more'.beq more with
   | false=>exact .inl (by simp[hb])
   | true=>
    have:=Qj hb
    subst this
    exact .inr ⟨it,nx,more',out,mR,id,ops,cR,m1,m2,rfl,rfl,hs,by simp⟩
 ·exact .inl rfl
def WO(P:Program)(E:Env)(w:World)(N B:Nat)(r:CR):Exit->Act->World->Prop:=fun e a' w'=>
 match r with
 | .norm fr st=>e=.normal/\∃ E',Ext E w E' w'/\Sat E' st w'/\RvA P E' w' N B fr a'
 | .exit id fr st=>e=.exit id/\∃ E',Ext E w E' w'/\Sat E' st w'/\RvA P E' w' N B fr a'
 | .ret fr st=>e=.ret/\∃ E',Ext E w E' w'/\Sat E' st w'/\RvA P E' w' N B fr a'
 | .pan fr v st=>∃ u E',e=.panic [{ v:=u,recovered:=false }]/\Ext E w E' w'/\Sat E' st w'/\Rv E' w' v u/\RvP P E' w' B fr a'
 | .stuck=>False
structure Jc(P:Program)(Γ:Gam):Prop where
 call:∀(Y:Vi) (E:Env) (w:World),(∀ E' w',Ext E w E' w'->YldOk P Y E' w'/\GlobOk P w')->FnOk P (Γ.call Y) E w
 ent:∀ f,Γ.ent f=true->Yh P f
def JI(P:Program)(E:Env)(w:World):Prop:=∀ E' w',Ext E w E' w'->GlobOk P w'
def WX(P:Program)(Y:Vi)(E:Env)(w:World):Prop:=∀ E' w',Ext E w E' w'->YldOk P Y E' w'/\GlobOk P w'
def ROk(E:Env):Option Nat->Option Nat->Prop
 | none,none=>True
 | some id,some b=>E.β id=some b
 | _,_=>False
section
variable {P:Program} {Γ:Gam}
theorem JI.mono{E E':Env}{w w':World}(h:JI P E w)(hx:Ext E w E' w'):JI P E' w':=fun _ _ h2=>h _ _ (hx.trans h2)
theorem WX.mono{Y:Vi}{E E':Env}{w w':World}(h:WX P Y E w)(hx:Ext E w E' w'):WX P Y E' w':=fun _ _ h2=>h _ _ (hx.trans h2)
theorem ROk.mono{E E':Env}{w w':World}(hx:Ext E w E' w'):∀{ro b0:Option Nat},ROk E ro b0->ROk E' ro b0
 | none,none,_=>trivial
 | some _,some _,h=>hx.β _ _ h
 | none,some _,h=>h.elim
 | some _,none,h=>h.elim
theorem Jc.sound(hG:Jc P Γ){Y:Vi}{E:Env}{w:World}(hY:WX P Y E w):U6 P (Γ.cg Y) E w:=
 ⟨fun E' w' hx=>hG.call Y E' w' (hY.mono hx),fun E' w' hx=>(hY E' w' hx).1⟩
theorem WO.mono{E E1:Env}{w w1:World}{N B:Nat}{r:CR}(h:Ext E w E1 w1){e:Exit}{a:Act}{w':World}(hr:WO P E1 w1 N B r e a w'):WO P E w N B r e a w':=by
 cases r with
 | norm fr st=>obtain⟨h1,E',h2,h3⟩:=hr;exact⟨h1,E',h.trans h2,h3⟩
 | exit id fr st=>obtain⟨h1,E',h2,h3⟩:=hr;exact⟨h1,E',h.trans h2,h3⟩
 | ret fr st=>obtain⟨h1,E',h2,h3⟩:=hr;exact⟨h1,E',h.trans h2,h3⟩
 | pan fr v st=>obtain⟨u,E',h1,h2,h3⟩:=hr;exact⟨u,E',h1,h.trans h2,h3⟩
 | stuck=>exact hr.elim
def UD(P:Program)(Y:Vi)(N:Nat)(ro b0:Option Nat)(c:Code)(run:Fr->St->CR):Prop:=
 ∀(B:Nat) (E:Env) (w:World) (fr:Fr) (a:Act) (st:St) (r:CR),WX P Y E w->ROk E ro b0->run fr st=r->r≠.stuck->RvA P E w N B fr a->Sat E st w->c.wpIn (FR0 b0) 0 P (WO P E w N B r) a w
theorem UH{F:Fence}{k:Nat}{c:Code}{Q Q':Exit->Act->World->Prop}(hq:∀ e a w,Q e a w->Q' e a w):∀(n:Nat) (a:Act) (w:World),Code.roundsIn F k P c Q n a w->Code.roundsIn F k P c Q' n a w
 | 0,_,_,h=>h.elim
 | n+1,a,w,h=>by
  rw[roundsIn_succ] at h ⊢
  refine wpIn_mono h fun e a' w' h'=>?_
  cases e with
  | normal=>exact UH hq n a' w' h'
  | _=>exact hq _ _ _ h'
theorem aloop_sound{Y:Vi}{N:Nat}{ro b0:Option Nat}{c:Code}{body:Fr->St->CR}(hb:UD P Y N ro b0 c body):∀(n:Nat),∀(B:Nat) (E:Env) (w:World) (fr:Fr) (a:Act) (st:St) (r:CR),WX P Y E w->ROk E ro b0->Vx body n fr st=r->r≠.stuck ->
  RvA P E w N B fr a->Sat E st w->Code.roundsIn (FR0 b0) 0 P c (WO P E w N B r) n a w
 | 0,B,E,w,fr,a,st,r,_,_,hr,hst,_,_=>by simp only[Vx] at hr;exact absurd hr.symm hst
 | n+1,B,E,w,fr,a,st,r,hY,hro,hr,hst,hf,hs=>by
  simp only[Vx] at hr
  rw[roundsIn_succ]
  cases hbr:body fr st with
  | stuck=>simp only[hbr] at hr;exact absurd hr.symm hst
  | norm fr' st'=>
   simp only[hbr] at hr
   refine wpIn_mono (hb B E w fr a st _ hY hro hbr (by simp) hf hs) fun e a' w' ⟨he,E',h1,h2,h3⟩=>?_
   subst he
   simp only[Exit.then]
   exact UH (fun _ _ _ hq=>WO.mono h1 hq) n _ _ (aloop_sound hb n B E' w' fr' a' st' r (hY.mono h1) (hro.mono h1) hr hst h3 h2)
  | exit id fr' st'=>
   simp only[hbr] at hr;subst hr
   refine wpIn_mono (hb B E w fr a st _ hY hro hbr (by simp) hf hs) fun e a' w' h=>?_
   obtain⟨he,h'⟩:=h
   subst he
   exact⟨rfl,h'⟩
  | ret fr' st'=>
   simp only[hbr] at hr;subst hr
   refine wpIn_mono (hb B E w fr a st _ hY hro hbr (by simp) hf hs) fun e a' w' h=>?_
   obtain⟨he,h'⟩:=h
   subst he
   exact⟨rfl,h'⟩
  | pan fr' v st'=>
   simp only[hbr] at hr;subst hr
   refine wpIn_mono (hb B E w fr a st _ hY hro hbr (by simp) hf hs) fun e a' w' h=>?_
   obtain⟨u,E',he,h'⟩:=h
   subst he
   exact⟨u,E',rfl,h'⟩
theorem stepOf_inv{N:Nat}{os:List Oper}{it nx more:Nat}(h:stepOf N os=some (it,nx,more)):∃ o1 o2,os=[o1,o2]/\o1.op=.next (.tmp it) false/\o1.dst=some nx/\o1.guard=none/\o2.op=.extract (.tmp nx) 0/\o2.dst=some more/\o2.guard=none ∧
  nx+1<=N/\more+1<=N/\more≠it/\nx≠it/\more≠nx:=by
 unfold stepOf at h
 split at h<;>try (cases h;done)
 rename_i o1 o2
 split at h<;>try (cases h;done)
 rename_i it' nx' nx'' more' e1 e2 e3 e4 e5 e6
 rw[cond_eq_ite] at h
 split at h
 case isFalse=>cases h
 case isTrue hc=>
  simp only[Qa,Q2] at h
  obtain⟨rfl,rfl,rfl⟩:=h
  simp only[Qd,Xy] at hc
  obtain⟨⟨⟨⟨⟨c1,c2⟩,c3⟩,c4⟩,c5⟩,c6⟩:=hc
  have c1:=Qj c1
  subst c1
  exact⟨o1,o2,rfl,e1,e2,e3,e4,e5,e6,Qk c2,Qk c3,(by rintro rfl;rw[QD] at c4;cases c4),(by rintro rfl;rw[QD] at c5;cases c5),(by rintro rfl;rw[QD] at c6;cases c6)⟩
theorem roundM_some{body:Fr->St->CR}{it nx more id m:Nat}{ks:List Nat}{fr f:Fr}{st s:St}(h:Tp body it nx more id m ks fr st=some (f,s)):
  body ((fr.set nx (some .top)).set more (some .top)) (st.put id (.iter m ks))=.norm f s/\f.get it=some (.ptr id 0)/\s.get id=some (.iter m ks):=by
 unfold Tp at h
 split at h<;>try (cases h;done)
 rename_i f' s' hb
 split at h<;>try (cases h;done)
 rename_i j m' ks' e1 e2
 rw[cond_eq_ite] at h
 split at h
 case isFalse=>cases h
 case isTrue hc=>
  simp only[Qa,Q2] at h
  obtain⟨rfl,rfl⟩:=h
  simp only[Qd] at hc
  have h1:=Qj hc.1.1
  have h2:=Qj hc.1.2
  have h3:=natsEq_eq hc.2
  subst h1;subst h2;subst h3
  exact⟨hb,e1,e2⟩
theorem Sz{body:Fr->St->CR}{it nx more id m:Nat}:∀(l1 l2 ks:List Nat) (fr:Fr) (st:St),JB body it nx more id m (l1++l2) ks fr st=(JB body it nx more id m l1 ks fr st).bind fun p=>JB body it nx more id m l2 (ks++l1) p.1 p.2
 | [],l2,ks,fr,st=>by simp[JB]
 | i::l1,l2,ks,fr,st=>by
  simp only[QP,JB]
  cases Tp body it nx more id m (ks++[i]) fr st with
  | none=>rfl
  | some p=>
   obtain⟨f,s⟩:=p
   simp only
   rw[Sz l1 l2 (ks++[i]) f s]
   simp only[Xb,Zt]
theorem perm_more(n:Nat)(ks:List Nat)(hn:ks.Nodup)(hl:∀ i∈ks,i < n):∃ rest,(ks++rest).Perm (List.range n):=by
 refine⟨(List.range n).filter (fun i=>!ks.contains i),(List.perm_ext_iff_of_nodup ?_ ZY).2 fun a=>?_⟩
 ·rw[QS]
  refine⟨hn,List.nodup_range.filter _,fun a ha b hb=>?_⟩
  rintro rfl
  simp at hb
  exact hb.2 ha
 ·simp only[QV,Zk,Xo,Xy,List.contains_eq_mem,XT]
  constructor
  ·rintro (h | h)
   ·exact hl a h
   ·exact h.1
  ·intro h
   by_cases hk:a∈ks
   ·exact .inl hk
   ·exact .inr ⟨h,hk⟩
theorem mloop_sound{Y:Vi}{N:Nat}{ro b0:Option Nat}{cR:Code}{body:Fr->St->CR}(hb:UD P Y N ro b0 cR body){id6:Nat}{ops6:Array Oper}{it nx more out:Nat}{cl:List Nat}(hstep:stepOf N ops6.toList=some (it,nx,more))
  {es:List (AV × AV)} {id m:Nat} {fr0 F:Fr} {st0 L:St} (hall:∀ l,l.Perm (List.range es.length)->∃ f s,JB body it nx more id m l [] fr0 st0=some (f,s)/\OkFr cl f F/\SubSt L s) (hnx:ev F (.t nx)=.top) (hmore:ev F (.t more)=.top):
  ∀(k:Nat) (ks:List Nat),ks.Nodup->(∀ i∈ks,i < es.length)->ks.length+k=es.length->∀(B:Nat) (E:Env) (w:World) (f:Fr) (a:Act) (s:St) (bm:Nat) (l:Array MapEntry) (clock:Nat),WX P Y E w->ROk E ro b0 ->
   JB body it nx more id m ks [] fr0 st0=some (f,s)->f.get it=some (.ptr id 0)->s.get id=some (.iter m ks)->E.β m=some bm->E.Fz bm->w.heap[bm]?=some (.map l clock)->l.size=es.length->Je l clock ->
   RvA P E w N B f a->Sat E s w ->
   Code.roundsIn (FR0 b0) 0 P (.seq (.region id6 ops6 false) (.seq (.cond (.tmp more) .skip (.exit out)) cR)) (WO P E w N B (.exit out F L)) (k+1) a w:=by
 obtain⟨o1,o2,hops,p1,p2,p3,q1,q2,q3,n1,n2,ne1,ne2,ne3⟩:=stepOf_inv hstep
 intro k
 induction k using Nat.strongRecOn with
 | _ k ih=>
 intro ks hnd hlt hlen B E w f a s bm l clock hY hro hrun hfit hsid hβm hfz hbm hsize hstamp hf hs
 rw[roundsIn_succ]
 refine wpIn_seq (Ty ?_)
 rw[hops]
 have hw1:∀(y:Nat->Option Bool),Region.wanted o1 y=true:=fun y=>by simp[Region.wanted,p3]
 have hw2:∀(y:Nat->Option Bool),Region.wanted o2 y=true:=fun y=>by simp[Region.wanted,q3]
 have hit:=hf.f it
 rw[hfit] at hit
 obtain⟨b,hβ,hval⟩:=hit
 obtain⟨bm',l',clock',since,g1,_,g3,g4,g5,g6⟩:=hs.obj id _ b hsid hβ
 rw[hβm] at g1;injection g1 with g1;subst g1
 rw[hbm] at g3;injection g3 with g3;injection g3 with g3 g3';subst g3;subst g3'
 have hev:a.eval (.tmp it)=.pointer (some ⟨b,0,none⟩):=hval
 have hex1:∀ v w',(Instr.next (.pointer (some ⟨b,0,none⟩)) false o1.type).run P w=.ok v w'->(execOp a.eval o1).run P w=.ok (.value v) w':=fun v w' h=>by
  simp only[execOp,p1,hev];simp[h]
 have hex2:∀(a1:Act) (w1:World) (v:Value) (t:Bool) (vs:Array Value),a1.eval (.tmp nx)=.tuple vs->vs[0]?=some (.bool t)->(execOp a1.eval o2).run P w1=.ok (.value (.bool t)) w1:=fun a1 w1 v t vs h1 h2=>by
  simp only[execOp,q1,h1];simp[Instr.extract,h2]
 have hsem1:o1.semAt (FR0 b0).round a.eval=execOp a.eval o1:=Oper.semAt_eq _ _ _ (fun c hc=>by rw[p1] at hc;cases hc)
 have hsem2:∀ a1:Act,o2.semAt (FR0 b0).round a1.eval=execOp a1.eval o2:=fun a1=>Oper.semAt_eq _ _ _ (fun c hc=>by rw[q1] at hc;cases hc)
 have hnN:Un N (some nx)=true:=Qo n1
 have hmN:Un N (some more)=true:=Qo n2
 -- what both ends of the step have in common
 have step:∀(t:Bool) (vs:Array Value) (E1:Env) (w':World) (s':St),vs[0]?=some (.bool t)->(Value.tuple vs).cells=#[.tuple vs]->(Instr.next (.pointer (some ⟨b,0,none⟩)) false o1.type).run P w=.ok (.tuple vs) w'->Ext E w E1 w'->
   (∀ a':Act,a'.eval (.tmp more)=.bool t->RvA P E1 w' N B ((f.set nx (some .top)).set more (some .top)) a'->(Code.seq (.cond (.tmp more) .skip (.exit out)) cR).wpIn (FR0 b0) 0 P (Exit.then (Code.roundsIn (FR0 b0) 0 P (.seq (.region id6 ops6 false) (.seq (.cond (.tmp more) .skip (.exit out)) cR)) (WO P E w N B (.exit out F L)) k) (WO P E w N B (.exit out F L))) a' w') ->
   WI (FR0 b0) 0 P ops6 (Exit.then ((Code.seq (.cond (.tmp more) .skip (.exit out)) cR).wpIn (FR0 b0) 0 P (Exit.then (Code.roundsIn (FR0 b0) 0 P (.seq (.region id6 ops6 false) (.seq (.cond (.tmp more) .skip (.exit out)) cR)) (WO P E w N B (.exit out F L)) k) (WO P E w N B (.exit out F L)))) (Exit.then (Code.roundsIn (FR0 b0) 0 P (.seq (.region id6 ops6 false) (.seq (.cond (.tmp more) .skip (.exit out)) cR)) (WO P E w N B (.exit out F L)) k) (WO P E w N B (.exit out F L)))) [o1,o2] a w:=fun t vs E1 w' s' h0 hvc hrunN hx hk=>by
  unfold WI
  rw[hw1]
  simp only[Xj]
  refine⟨fun _ _=>trivial,?_⟩
  rw[hsem1,hex1 _ _ hrunN,Oper.uponIn_value]
  have hf1:RvA P E1 w' N B (Fr.put f (some nx) .top) (a.put o1.dst (.tuple vs)):=by
   rw[p2];exact(hf.mono hx).put hvc hnN
  unfold WI
  rw[hw2]
  simp only[Xj]
  refine⟨fun _ _=>trivial,?_⟩
  have ea:(a.put o1.dst (.tuple vs)).eval (.tmp nx)=.tuple vs:=by
   rw[p2]
   show (a.tmps.setIfInBounds nx (.tuple vs)).getD nx undef=.tuple vs
   have:nx < a.tmps.size:=by rw[hf.n];omega
   simp[QA,this]
  rw[hsem2,hex2 _ w' (.tuple vs) t vs ea h0,Oper.uponIn_value]
  unfold WI
  refine hk _ ?_ ?_
  ·rw[q2]
   show ((a.put o1.dst (.tuple vs)).tmps.setIfInBounds more (.bool t)).getD more undef=.bool t
   have:more < (a.put o1.dst (.tuple vs)).tmps.size:=by rw[hf1.n];omega
   simp[QA,this]
  ·rw[q2];exact hf1.put (v:=.top) (rfl:(Value.bool t).cells=#[.bool t]) hmN
 rcases run_next_at (P:=P) w o1.type b bm since clock _ l clock g4 hbm g6 g5 with⟨h0,hrunN⟩|⟨e,he,w1,hw1',hrunN⟩
 ·
  refine step false #[.bool false] E w s rfl rfl hrunN (Ext.refl E w) fun a' ham hfa=>?_
  have hfull:∀ i,i < es.length->i∈ks:=fun i hi=>by
   have hil:i < l.size:=by omega
   have hseen:=all_seen l _ h0 l[i] (by simp)
   simp only[Array.contains_iff_mem,List.mem_toArray,Q6] at hseen
   obtain⟨j,hj,hje⟩:=hseen
   have hjl:j < l.size:=by have:=hlt j hj;omega
   have e1:l.getD j default=l[j]:=by simp[QA,hjl]
   rw[e1] at hje
   have:j=i:=by
    have hj':j < (l.toList.map (·.born)).length:=by simpa using hjl
    have hi':i < (l.toList.map (·.born)).length:=by simpa using hil
    exact(List.getElem_inj (h₀:=hj') (h₁:=hi') hstamp.2).1 (by simpa using hje)
   rw[<-this];exact hj
  have hperm:ks.Perm (List.range es.length):=(List.perm_ext_iff_of_nodup hnd ZY).2 fun x=>⟨fun h=>Xo.2 (hlt x h),fun h=>hfull x (Xo.1 h)⟩
  obtain⟨f',s',r1,r2,r3⟩:=hall ks hperm
  rw[hrun] at r1
  simp only[Qa,Q2] at r1
  obtain⟨rfl,rfl⟩:=r1
  obtain⟨z1,z2,z3⟩:=r2
  refine wpIn_seq (wpIn_cond_false ham (wpIn_exit ?_))
  refine⟨rfl,E,Ext.refl E w,hs.sub r3,fun n=>?_,hfa.n,?_,hfa.b⟩
  ·have hn:=hfa.f n
   by_cases e1:n=more
   ·subst e1
    have:(F.get n).getD .undef=.top:=hmore
    rw[this]
    rw[Fr.get_set,Qm rfl] at hn
    exact hn
   ·by_cases e2:n=nx
    ·subst e2
     have:(F.get n).getD .undef=.top:=hnx
     rw[this]
     rw[Fr.get_set,Qe e1,Fr.get_set,Qm rfl] at hn
     exact hn
    ·rw[Fr.get_set,Qe e1,Fr.get_set,Qe e2] at hn
     by_cases hc:n∈cl
     ·exact genOk_sound (z2 n hc) hn
     ·rw[z1 n hc];exact hn
  ·rw[z3]
   have:=hfa.d
   simpa using this
 ·
  obtain⟨hel,hens⟩:=mem_left he
  obtain⟨i,hil,hie⟩:=List.getElem_of_mem hel
  have hil':i < l.size:=by simpa using hil
  have hget:l.getD i default=e:=by
   rw[QA,<-X7,Qn hil,hie];rfl
  have hik:i∉ks:=fun hik=>by
   have:(ks.map fun i=>(l.getD i default).born).toArray.contains e.born=true:=by
    simp only[Array.contains_iff_mem,List.mem_toArray,Q6]
    exact⟨i,hik,by rw[hget]⟩
   rw[this] at hens;cases hens
  have hnd':(ks++[i]).Nodup:=by
   rw[QS]
   exact⟨hnd,by simp,fun x hx y hy=>by simp at hy;subst hy;rintro rfl;exact hik hx⟩
  have hlt':∀ j∈ks++[i],j < es.length:=fun j hj=>by
   simp only[QV,Xd] at hj
   rcases hj with hj | rfl
   ·exact hlt j hj
   ·omega
  obtain⟨rest,hperm⟩:=perm_more es.length (ks++[i]) hnd' hlt'
  have hklen:(ks++[i]).length<=es.length:=by
   have:=hperm.length_eq
   simp only[QJ,Zo] at this ⊢
   omega
  simp only[QJ,Zu] at hklen
  obtain⟨k',rfl⟩:∃ k',k=k'+1:=⟨k - 1,by omega⟩
  obtain⟨f',s',r1,_,_⟩:=hall _ hperm
  rw[Xb,Sz,hrun] at r1
  simp only[Qg,QR,Zt,JB] at r1
  cases hround:Tp body it nx more id m (ks++[i]) f s with
  | none=>rw[hround] at r1;cases r1
  | some q=>
  obtain⟨f1,s1⟩:=q
  obtain⟨b1,b2,b3⟩:=roundM_some hround
  have hrun1:JB body it nx more id m (ks++[i]) [] fr0 st0=some (f1,s1):=by
   rw[Sz,hrun]
   simp only[Qg,QR,JB,hround]
  -- the world behind the step
  have hblt:b < w.heap.size:=(hs.dom id b hβ).2
  have hbne:bm≠b:=by rintro rfl;rw[hbm] at g4;cases g4
  have hs1:Sat E s w1/\Ext E w E w1:=by
   rcases hw1' with rfl | rfl
   ·exact⟨hs,Ext.refl E _⟩
   ·exact hs.drew
  have hheap:w1.heap=w.heap:=by rcases hw1' with rfl | rfl<;>rfl
  obtain⟨hs2,hx2⟩:=Sat.write hs1.1 id b (.iter m ks) (.iter m (ks++[i])) hsid rfl hβ (w':=w1.putObj b (.mapIter (some bm) since ((ks.map fun i=>(l.getD i default).born).toArray.push e.born) clock))
   (fun j hj=>World.putObj_heap_other hj) (by simp) (fun x hx=>by unfold World.shape? at hx;rw[hheap,g4] at hx;cases hx) rfl rfl rfl rfl fun hx=>
   ⟨bm,l,clock,since,hβm,hfz,by rw[World.putObj_heap_other hbne,hheap];exact hbm,by
    rw[World.putObj_heap_same (by rw[hheap];exact hblt)]
    congr 2
    simp only[QQ,Q4,QZ,hget]
    simp,g5,g6⟩
  have hx:=hs1.2.trans hx2
  refine step true #[.bool true,e.key,e.val] E _ s rfl rfl hrunN hx fun a' ham hfa=>?_
  refine wpIn_seq (wpIn_cond_true ham (wpIn_skip ?_))
  show Code.wpIn (FR0 b0) 0 P cR _ a' _
  refine wpIn_mono (hb B E _ _ a' _ _ (hY.mono hx) (hro.mono hx) b1 (by simp) hfa hs2) fun e2 a2 w2 ⟨he2,E2,x2,y2,y3⟩=>?_
  subst he2
  have hx3:=hx.trans x2
  refine UH (fun _ _ _ hq=>WO.mono hx3 hq) (k'+1) _ _ (ih k' (by omega) (ks++[i]) hnd' hlt' (by simp only[QJ,Zu];omega) B E2 w2 f1 a2 s1 bm l clock (hY.mono hx3) (hro.mono hx3) hrun1 b2 b3 (hx3.β _ _ hβm) (hx3.Fz _ hfz) (by rw[hx3.mem _ hfz];exact hbm) hsize hstamp y3 y2)
theorem copers_get{ops:Array Oper}{N:Nat}{rd:Bool}{pol:Nat->Bool}:∀(os:List Oper) (i:Nat) (ms:List Vc),Yx P ops N rd pol i os=some ms->∀(j:Nat) (o:Oper),os[j]?=some o->∃ m,ms[j]?=some m/\coper P ops N rd (pol (i+j)) o=some m
 | [],_,_,_,j,o,ho=>by simp at ho
 | o::os,i,ms,h,j,o',ho=>by
  simp only[Yx,Qh,Qf] at h
  obtain⟨m,hm,ms',hms,rfl⟩:=h
  cases j with
  | zero=>
   simp only[Q0,Qa] at ho
   subst ho
   exact⟨m,rfl,hm⟩
  | succ j=>
   simp only[QE] at ho ⊢
   obtain⟨m',h1,h2⟩:=copers_get os (i+1) ms' hms j o' ho
   exact⟨m',h1,by rw[show i+(j+1)=i+1+j by omega];exact h2⟩
theorem allocsB_get:∀(os:List Oper) (ms:List Vc),Um os ms=true->∀(j:Nat) (o:Oper) (m:Vc),os[j]?=some o->ms[j]?=some m->allocB o m.op=true
 | [],_,_,j,o,m,ho,_=>by simp at ho
 | _::_,[],_,j,o,m,_,hm=>by simp at hm
 | o::os,m::ms,h,j,o',m',ho,hm=>by
  simp only[Um,Qd] at h
  cases j with
  | zero=>
   simp only[Q0,Qa] at ho hm
   subst ho;subst hm;exact h.1
  | succ j=>exact allocsB_get os ms h.2 j o' m' (by simpa using ho) (by simpa using hm)
theorem setMany_ds:∀(ps:List Nat) (xs:List AV) (fr:Fr),(VL ps xs fr).ds=fr.ds
 | [],_,_=>by unfold VL;rfl
 | p::ps,[],_=>by unfold VL;rfl
 | p::ps,x::xs,fr=>by unfold VL;rw[setMany_ds ps xs];rfl
theorem SQ{E:Env}{w:World}{N:Nat}{D:List Deferred}:∀(ps:List Nat) (xs:List AV) (vs:List Value) (fr:Fr) (t:Array Value),(∀ p∈ps,p < N)->RvL E w xs vs->t.size=N->RvF E w fr { tmps:=t,defers:=D } ->
  RvF E w (VL ps xs fr) { tmps:=(ps.zip vs).foldl (fun t (p,v)=>t.setIfInBounds p v) t,defers:=D }/\((ps.zip vs).foldl (fun t (p,v)=>t.setIfInBounds p v) t).size=N
 | [],xs,vs,fr,t,_,_,hN,hf=>by unfold VL;simpa using ⟨hf,hN⟩
 | p::ps,[],vs,fr,t,_,hv,hN,hf=>by
  have:vs=[]:=hv
  subst this
  unfold VL;simpa using ⟨hf,hN⟩
 | p::ps,x::xs,vs,fr,t,hp,hv,hN,hf=>by
  obtain⟨v,vs',rfl,h1,h2⟩:=hv
  unfold VL
  simp only[List.zip_cons_cons,Xt]
  have hp0:=hp p (by simp)
  refine SQ ps xs vs' _ _ (fun q hq=>hp q (by simp[hq])) h2 (by simpa using hN) ?_
  have:=RvF.put (d:=some p) hf h1 (by show (p+1).ble t.size=true;exact Qo (by omega))
  exact this
theorem foldl_zip_list(ps:Array Tmp)(vs:Array Value)(t:Array Value):(ps.zip vs).foldl (fun t (p,v)=>t.setIfInBounds p v) t=(ps.toList.zip vs.toList).foldl (fun t (p,v)=>t.setIfInBounds p v) t:=by
 rw[<-Z4,Array.toList_zip]
theorem around_sound{Y:Vi}{N n:Nat}{E0:Env}{w0:World}{id l:Nat}{rec:Loop}{fr:Fr}{a:Act}{ps:Array Tmp}{asg body:Code}{A Bd:Fr->St->CR}
  (hA:UD P Y N (some id) (some l) asg A) (hB:UD P Y N (some id) (some l) body Bd) (hY:WX P Y E0 w0) (hβ:E0.β id=some l) (hl:l < w0.heap.size) (hlr:E0.lr l=rec)
  (h1:rec.tmps=a.tmps) (h2:rec.params=ps) (h3:rec.assign=asg) (h4:rec.body=body) (hf:RvF E0 w0 fr a) (hN:a.tmps.size=N) (hps:∀ p∈ps.toList,p < N):
  ∀ E w,Ext E0 w0 E w->∀(args:List AV) (st:St) (vs:Array Value),RvL E w args vs.toList->Sat E st w->∀ v st',YZ A Bd id fr ps.toList args st=.ret v st'->YCall P l vs w (YO E w v st'):=by
 intro E w hx args st vs ha hs v st' hr
 have hβ':=hx.β _ _ hβ
 have hlr':E.lr l=rec:=by rw[hx.lr l hl];exact hlr
 unfold YZ at hr
 cases hlen:args.length.beq ps.toList.length
 ·simp only[hlen,Qq,reduceCtorEq] at hr
 ·simp only[hlen,Qi] at hr
  have hlen:=Qj hlen
  have hvl:=ha.length
  split at hr<;>try (simp only[reduceCtorEq] at hr;done)
  rename_i hlo
  obtain⟨r,hr1,hr2⟩:=hs.loop hlo hβ'
  rw[hlr'] at hr2
  have hr2:r={ rec with state:=.ready,pending:=none }:=hr2
  have hvs:vs.size=r.params.size:=by rw[hr2,h2];simp only[Xm] at hvl hlen;omega
  refine⟨_,_,_,_,run_yield hr1 hvs,?_⟩
  split at hr<;>try (simp only[reduceCtorEq] at hr;done)
  rename_i fr1 st1 hasg
  split at hr<;>try (simp only[reduceCtorEq] at hr;done)
  rename_i hlo1
  have hrt:r.tmps=a.tmps:=by rw[hr2];exact h1
  have hrp:r.params=ps:=by rw[hr2];exact h2
  have hra:r.assign=asg:=by rw[hr2];exact h3
  have hrb:r.body=body:=by rw[hr2];exact h4
  rw[hrt,hrp,hra,hrb,foldl_zip_list]
  obtain⟨hf1,hf2⟩:=SQ (D:=[]) (N:=N) ps.toList args vs.toList { fr with ds:=[] } a.tmps hps ha hN (fun n=>Rv.mono hx _ _ (hf n))
  have hA0:RvA P E w N 0 (VL ps.toList args { fr with ds:=[] }) { tmps:=(ps.toList.zip vs.toList).foldl (fun t (p,v)=>t.setIfInBounds p v) a.tmps,defers:=[] }:=
   ⟨hf1,hf2,by rw[setMany_ds];rfl,X3 _⟩
  refine roundIn_of_wpIn (F:=Fence.wide) trivial ?_
  refine wpIn_mono (hA 0 E w _ _ st _ (hY.mono hx) hβ' hasg (by simp) hA0 hs) fun e a1 w1 ⟨he,E1,x1,s1,f1⟩=>?_
  subst he
  have hβ1:=x1.β _ _ hβ'
  have hlr1:E1.lr l=rec:=by rw[x1.lr l (Qv.1 hr1).1];exact hlr'
  obtain⟨q,hq1,hq2⟩:=s1.loop hlo1 hβ1
  rw[hlr1] at hq2
  have hq2:q={ rec with state:=.ready,pending:=none }:=hq2
  obtain⟨s2,x2⟩:=s1.putLoop (s':=.busy) (r':={ q with state:=.busy }) hlo1 hβ1 hq1 (by
   rw[hlr1]
   show { q with state:=.busy }={ rec with state:=.busy,pending:=none }
   rw[hq2])
  refine⟨_,run_beginRound hq1 (by rw[hq2]),?_⟩
  have fin:∀(jump:Option Code) (s:LS) (a2:Act) (w2:World) (E2:Env) (st2:St) (b:Bool),jump.isNone=b->(∀ r0 r:Loop,r={ r0 with state:=.busy,pending:=none }->s.ok r0 { r with state:=if jump.isNone then .ready else .done,pending:=jump }) ->
    Ext E1 (w1.putObj l (.loop { q with state:=.busy })) E2 w2->Sat E2 st2 w2->Wh st2 id=some .busy->∃ u w3,(Instr.endRound l jump).run P w2=.ok u w3/\YO E w (.bool b) (st2.put id (.loop s)) (.returned u) w3:=fun jump s a2 w2 E2 st2 b hb hok y1 y2 y3=>by
   have hβ2:=y1.β _ _ hβ1
   have hlr2:E2.lr l=rec:=by
    rw[y1.lr l (by simp;exact(Qv.1 hq1).1)];exact hlr1
   obtain⟨p,hp1,hp2⟩:=y2.loop y3 hβ2
   rw[hlr2] at hp2
   have hp2:p={ rec with state:=.busy,pending:=none }:=hp2
   obtain⟨s3,x3⟩:=y2.putLoop (s':=s) (r':={ p with state:=if jump.isNone then .ready else .done,pending:=jump }) y3 hβ2 hp1 (by rw[hlr2];exact hok rec p hp2)
   exact⟨_,_,run_endRound jump hp1,.bool jump.isNone,E2,rfl,((x1.trans x2).trans y1).trans x3,s3,by rw[hb];rfl⟩
  cases hbd:Bd fr1 (st1.put id (.loop .busy)) with
  | stuck=>rw[hbd] at hr;cases hr
  | pan _ _ _=>rw[hbd] at hr;cases hr
  | norm fr2 st2=>
   rw[hbd] at hr
   simp only[KI] at hr
   split at hr<;>try (simp only[reduceCtorEq] at hr;done)
   rename_i hlo2
   injection hr with e1 e2;subst e1;subst e2
   refine wpIn_mono (hB 0 E1 _ _ _ _ _ ((hY.mono hx).mono (x1.trans x2)) hβ1 hbd (by simp) (f1.mono x2) s2) fun e a2 w2 ⟨he,E2,y1,y2,y3⟩=>?_
   subst he
   exact fin none .ready a2 w2 E2 st2 true rfl (fun r0 r h=>by rw[h];rfl) y1 y2 hlo2
  | ret fr2 st2=>
   rw[hbd] at hr
   simp only[KI] at hr
   split at hr<;>try (simp only[reduceCtorEq] at hr;done)
   rename_i hlo2
   injection hr with e1 e2;subst e1;subst e2
   refine wpIn_mono (hB 0 E1 _ _ _ _ _ ((hY.mono hx).mono (x1.trans x2)) hβ1 hbd (by simp) (f1.mono x2) s2) fun e a2 w2 ⟨he,E2,y1,y2,y3⟩=>?_
   subst he
   exact fin (some .ret) .ret a2 w2 E2 st2 false rfl (fun r0 r h=>by rw[h];rfl) y1 y2 hlo2
  | exit id' fr2 st2=>
   rw[hbd] at hr
   simp only[KI] at hr
   split at hr<;>try (simp only[reduceCtorEq] at hr;done)
   rename_i hlo2
   injection hr with e1 e2;subst e1;subst e2
   refine wpIn_mono (hB 0 E1 _ _ _ _ _ ((hY.mono hx).mono (x1.trans x2)) hβ1 hbd (by simp) (f1.mono x2) s2) fun e a2 w2 ⟨he,E2,y1,y2,y3⟩=>?_
   subst he
   exact fin (some (.exit id')) (.exit id') a2 w2 E2 st2 false rfl (fun r0 r h=>by rw[h];rfl) y1 y2 hlo2
theorem rfun_sound{Y:Vi}{N n B:Nat}{ro b0:Option Nat}{g:Operand}{ps:Array Tmp}{asg body:Code}{A Bd:Fr->St->CR}(hG:Jc P Γ){E E1:Env}{w w1:World}{fr:Fr}{a:Act}{st:St}{gf:Nat}{first captured:List AV}{v1 v2:Array Value}{mark:List Deferred}{rec:Loop}{r:CR}
  (hA:∀ l,UD P Y N (some st.next) (some l) asg A) (hB:∀ l,UD P Y N (some st.next) (some l) body Bd) (hY:WX P Y E w) (hps:∀ p∈ps.toList,p < N)
  (hg:a.eval g=.func (.func gf) v1 v2) (h1:RvL E w first v1.toList) (h2:RvL E w captured v2.toList) (hent:Γ.ent gf=true) (hf:RvA P E w N B fr a)
  (hx1:Ext E w E1 w1) (hs1:Sat E1 st w1) (hrs:rec.state=.ready) (hrp:rec.pending=none) (hrt:rec.tmps=a.tmps) (hrps:rec.params=ps) (hra:rec.assign=asg) (hrb:rec.body=body)
  (hd:∀ E' w',Ext E1 w1 E' w'->RvD P E' w' B w'.heap.size (Ko ro fr).ds (mark++a.defers))
  (hr:(match Γ.call (Vi.set Y st.next (YZ A Bd st.next fr ps.toList)) gf (first++[.yld st.next]++captured) (st.new (.loop .ready)) with
    | .ret _ st2=>K8 st.next (Ko ro fr) st2
    | .pan v st2=>.pan (Ko ro fr) v st2
    | .stuck=>.stuck)=r) (hst:r≠.stuck):
  ∃ (d:Deferred) (w₁':World) (f:FuncId) (args:Array Value) (w₂:World),(resolve a.eval (rangeCall g w1.heap.size) 0).run P (w1.alloc (.loop rec))=.ok d w₁' ∧
   (invoke d.target d.args).run P w₁'=.ok (.enter f args) w₂/\CallsIn (FR0 b0) (0 - 1) P f args w₂ (rangePost (FR0 b0) 0 P w1.heap.size (WO P E w N B r) { a with defers:=mark++a.defers }):=by
 obtain⟨hs2,hx2⟩:=hs1.newLoop rec hrs hrp
 have hx:=hx1.trans hx2
 have hβ:(E1.loop st.next w1.heap.size rec).β st.next=some w1.heap.size:=by simp[Env.loop,Env.link]
 have hlr:(E1.loop st.next w1.heap.size rec).lr w1.heap.size=rec:=by simp[Env.loop]
 have hargs:RvL (E1.loop st.next w1.heap.size rec) (w1.alloc (.loop rec)) (first++[.yld st.next]++captured) (v1++#[Value.func (.yield w1.heap.size) #[] #[]]++v2).toList:=by
  simp only[Zi]
  have hy:RvL (E1.loop st.next w1.heap.size rec) (w1.alloc (.loop rec)) [.yld st.next] [Value.func (.yield w1.heap.size) #[] #[]]:=⟨_,_,rfl,⟨_,hβ,rfl⟩,rfl⟩
  exact((RvL.mono hx _ _ h1).append hy).append (RvL.mono hx _ _ h2)
 have hres:(resolve a.eval (rangeCall g w1.heap.size) 0).run P (w1.alloc (.loop rec))=.ok { target:=.fn (.func gf) v2,args:=v1++#[Value.func (.yield w1.heap.size) #[] #[]] } (w1.alloc (.loop rec)):=by
  simp only[resolve,hg,Deferred.ofValue]
  simp[Act.eval]
 have hen:=hG.ent gf hent
 refine⟨_,_,gf,v1++#[Value.func (.yield w1.heap.size) #[] #[]]++v2,_,hres,by simp only[invoke];exact hen _ _,?_⟩
 have hYS:WX P (Vi.set Y st.next (YZ A Bd st.next fr ps.toList)) (E1.loop st.next w1.heap.size rec) (w1.alloc (.loop rec)):=by
  intro E' w' hx'
  refine⟨?_,(hY E' w' (hx.trans hx')).2⟩
  intro id b args s vs hb ha hs v st' hret
  unfold Vi.set at hret
  cases hid:id.beq st.next
  ·rw[hid] at hret
   exact(hY E' w' (hx.trans hx')).1 id b args s vs hb ha hs v st' hret
  ·rw[hid] at hret
   have:=Qj hid
   subst this
   have hb':=hx'.β _ _ hβ
   rw[hb] at hb';injection hb' with hb';subst hb'
   exact around_sound (n:=n) (hA _) (hB _) (hY.mono hx) hβ (by simp) hlr hrt hrps hra hrb (hf.f.mono hx) hf.n hps E' w' hx' args s vs ha hs v st' hret
 have hS:=hG.call _ _ _ hYS gf _ (st.new (.loop .ready)) _ hargs hs2
 have noval:∀ R:Ending->World->Prop,Ya P gf (v1++#[Value.func (.yield w1.heap.size) #[] #[]]++v2) (w1.alloc (.loop rec)) R->Calls P gf (v1++#[Value.func (.yield w1.heap.size) #[] #[]]++v2) (w1.alloc (.loop rec)) R:=fun R h=>by
  rcases h with⟨_,h⟩|⟨v,w',h,_⟩
  ·exact h
  ·rw[hen] at h;cases h
 cases hc:Γ.call (Vi.set Y st.next (YZ A Bd st.next fr ps.toList)) gf (first++[.yld st.next]++captured) (st.new (.loop .ready)) with
 | stuck=>rw[hc] at hr;exact absurd hr.symm hst
 | pan v st2=>
  rw[hc] at hr
  simp only at hr
  subst hr
  refine (callsIn_wide (n:=0)).2 ((noval _ (hS.2 v st2 hc)).mono fun e w3 ⟨u,E3,h3,h4,h5,h6⟩=>?_)
  subst h3
  exact⟨u,E3,rfl,hx.trans h4,h5,h6,⟨fun n v hn=>by
   have:fr.get n=some v:=by cases ro<;>exact hn
   exact Rv.mono (hx.trans h4) _ _ (hf.f.part n v this),hd E3 w3 (hx2.trans h4)⟩⟩
 | ret v st2=>
  rw[hc] at hr
  simp only at hr
  refine (callsIn_wide (n:=0)).2 ((noval _ (hS.1 v st2 hc)).mono fun e w3 ⟨u,E3,h3,h4,h5,h6⟩=>?_)
  subst h3
  have hβ3:=h4.β _ _ hβ
  have hlr3:E3.lr w1.heap.size=rec:=by rw[h4.lr _ (by simp)];exact hlr
  have act:∀ w4,Ext E3 w3 E3 w4->RvA P E3 w4 N B (Ko ro fr) { a with defers:=mark++a.defers }:=fun w4 h7=>
   ⟨fun n=>by
    have:=hf.f.mono ((hx.trans h4).trans h7) n
    cases ro<;>exact this,hf.n,hd E3 w4 ((hx2.trans h4).trans h7),QY hf.b ((hx.trans h4).trans h7).size⟩
  unfold K8 at hr
  cases hlo:Wh st2 st.next with
  | none=>rw[hlo] at hr;exact absurd hr.symm hst
  | some s=>
   rw[hlo] at hr
   obtain⟨q,hq1,hq2⟩:=h5.loop hlo hβ3
   rw[hlr3] at hq2
   obtain⟨s3,x3⟩:=h5.putLoop (s':=.fin) (r':={ q with state:=.exhausted }) hlo hβ3 hq1 trivial
   cases s with
   | busy=>exact absurd hr.symm hst
   | fin=>exact absurd hr.symm hst
   | ready=>
    simp only at hr;subst hr
    have hq2:q={ rec with state:=.ready,pending:=none }:=hq2
    exact⟨none,_,by rw[run_endLoop hq1 (by rw[hq2];simp),hq2],rfl,E3,(hx.trans h4).trans x3,s3,act _ x3⟩
   | ret=>
    simp only at hr;subst hr
    have hq2:q={ rec with state:=.done,pending:=some .ret }:=hq2
    exact⟨some .ret,_,by rw[run_endLoop hq1 (by rw[hq2];simp),hq2],wpIn_ret ⟨rfl,E3,(hx.trans h4).trans x3,s3,act _ x3⟩⟩
   | exit e=>
    simp only at hr;subst hr
    have hq2:q={ rec with state:=.done,pending:=some (.exit e) }:=hq2
    exact⟨some (.exit e),_,by rw[run_endLoop hq1 (by rw[hq2];simp),hq2],wpIn_exit ⟨rfl,E3,(hx.trans h4).trans x3,s3,act _ x3⟩⟩
theorem Ka{N n:Nat}{pol:Nat->Nat->Bool}{Y:Vi}(hG:Jc P Γ):∀(c:Code) (rd:Bool) (ro b0:Option Nat),(rd=false->b0=none)->UD P Y N ro b0 c (Vh Γ Y n (VA P N pol rd c) ro):=by
 intro c
 induction hk:SizeOf.sizeOf c using Nat.strongRecOn generalizing c with
 | _ k IH=>
 subst hk
 have IH':∀ c',SizeOf.sizeOf c' < SizeOf.sizeOf c->∀(rd:Bool) (ro b0:Option Nat),(rd=false->b0=none)->UD P Y N ro b0 c' (Vh Γ Y n (VA P N pol rd c') ro):=fun c' h=>IH _ h c' rfl
 cases c with
 | skip=>intro rd ro b0 _ B E w fr a st r hY hro hr _ hf hs;simp only[VA,Vh] at hr;subst hr;exact wpIn_skip ⟨rfl,E,Ext.refl _ _,hs,hf⟩
 | ret=>intro rd ro b0 _ B E w fr a st r hY hro hr _ hf hs;simp only[VA,Vh] at hr;subst hr;exact wpIn_ret ⟨rfl,E,Ext.refl _ _,hs,hf⟩
 | exit id=>intro rd ro b0 _ B E w fr a st r hY hro hr _ hf hs;simp only[VA,Vh] at hr;subst hr;exact wpIn_exit ⟨rfl,E,Ext.refl _ _,hs,hf⟩
 | region id ops draw=>
  intro rd ro b0 hrd B E w fr a st r hY hro hr hst hf hs
  have hΓ:=hG.sound hY
  cases draw with
  | true=>
   simp only[VA] at hr
   cases hms:Yx P ops N rd (pol id) 0 ops.toList with
   | none=>simp only[hms,Vh] at hr;exact absurd hr.symm hst
   | some ms=>
    simp only[hms] at hr
    generalize hzs:ms.zip (ancsGo ops.toList [])=zs at hr
    unfold cdraw at hr
    cases hb:(P.follows .mixedOrders&&drawB ops zs&&Um ops.toList ms)
    ·rw[hb] at hr;simp only[Qq,Vh] at hr;exact absurd hr.symm hst
    ·rw[hb] at hr
     simp only[Qi,Vh] at hr
     simp only[Qd] at hb
     have hd:=drawOk_of hb.1.2
     have hops:OpsOk P ops N zs:=fun i o ho=>by
      obtain⟨m,h1,h2⟩:=copers_get _ _ _ hms i o (by simpa using ho)
      have hi:i < ops.size:=(Qv.1 ho).1
      obtain⟨z,hz⟩:∃ z,zs[i]?=some z:=⟨_,Qn (by rw[hd.len];exact hi)⟩
      have hzm:z.1=m:=by
       rw[<-hzs] at hz
       have:=List.getElem?_zip_eq_some.1 hz
       rw[h1] at this
       exact(XW this.1).symm
      have hal:=allocsB_get _ _ hb.2 i o m (by simpa using ho) h1
      simp only[coper,Qh] at h2
      obtain⟨g,hg,h2⟩:=h2
      cases hdst:Un N o.dst
      ·simp[hdst] at h2
      ·simp only[hdst,Qi,Qa] at h2
       have hmg:m.guard=g:=by rw[<-h2]
       have hmd:m.dst=o.dst:=by rw[<-h2]
       have hmo:m.op=match YD rd o with | some m=>m | none=>(cop P (pol id (0+i)) o).getD .bad:=by rw[<-h2];rfl
       have hmo':m.op=(cop P (pol id (0+i)) o).getD .bad:=by
        cases hsp:YD rd o with
        | none=>rw[hsp] at hmo;exact hmo
        | some m'=>
         exfalso
         rw[hsp] at hmo
         simp only at hmo
         have:m'.special=true:=by
          unfold YD at hsp
          split at hsp
          ·cases rd with
           | true=>cases hsp
           | false=>
            simp only[Qq,Qh,Qf] at hsp
            obtain⟨f,_,xs,_,rfl⟩:=hsp
            rfl
          ·injection hsp with hsp;subst hsp;rfl
          ·cases hsp
         rw[hmo] at hal
         cases m'<;>simp[MOp.special] at this<;>simp[allocB,MOp.special] at hal
       refine⟨z,_,hz,by rw[hzm];exact hmd,by rw[hzm];exact hmo',by rw[hzm,hmg];exact hg,rfl,fun cs hcs=>?_,fun b s zz l c hcs=>?_⟩
       ·rw[hzm] at hcs
        simp only[allocB,hcs] at hal
        split at hal
        ·exact⟨_,by assumption⟩
        ·cases hal
       ·rw[hzm] at hcs
        simp only[allocB,hcs] at hal
        split at hal
        ·exact⟨_,_,_,by assumption⟩
        ·cases hal
     cases har:VK (Γ.cg Y) zs (chkOf ops.size zs) fr st with
     | stuck=>simp only[har] at hr;exact absurd hr.symm hst
     | ok fr' st'=>
      simp only[har] at hr;subst hr
      exact wpIn_mono (adraw_sound (id:=id) hb.1.1 hΓ hd hops har (by simp) hf hs) fun _ _ _ h=>h
     | pan fr' v st'=>
      simp only[har] at hr;subst hr
      exact wpIn_mono (adraw_sound (id:=id) hb.1.1 hΓ hd hops har (by simp) hf hs) fun _ _ _ h=>h
  | false=>
   simp only[VA] at hr
   cases hms:Yx P ops N rd (pol id) 0 ops.toList with
   | none=>simp only[hms,Vh] at hr;exact absurd hr.symm hst
   | some ms=>
    simp only[hms,Vh] at hr
    refine Ty ?_
    cases har:Vj (Γ.cg Y) ms fr st with
    | stuck=>simp only[har] at hr;exact absurd hr.symm hst
    | ok fr' st'=>
     simp only[har] at hr;subst hr
     exact Jo (fun e a' w' h=>h) _ _ _ (KN hrd ops.toList 0 ms E w fr a st _ hΓ hms har (by simp) hf hs)
    | pan fr' v st'=>
     simp only[har] at hr;subst hr
     exact Jo (fun e a' w' h=>h) _ _ _ (KN hrd ops.toList 0 ms E w fr a st _ hΓ hms har (by simp) hf hs)
 | seq c d=>
  have ihc:=IH' c (by simp;omega)
  have ihd:=IH' d (by simp;omega)
  intro rd ro b0 hrd B E w fr a st r hY hro hr hst hf hs
  simp only[VA,Vh] at hr
  refine wpIn_seq ?_
  cases hcr:Vh Γ Y n (VA P N pol rd c) ro fr st with
  | stuck=>simp only[hcr] at hr;exact absurd hr.symm hst
  | norm fr' st'=>
   simp only[hcr] at hr
   refine wpIn_mono (ihc rd ro b0 hrd B E w fr a st _ hY hro hcr (by simp) hf hs) fun e a' w' ⟨he,E',h1,h2,h3⟩=>?_
   subst he
   exact wpIn_mono (ihd rd ro b0 hrd B E' w' fr' a' st' r (hY.mono h1) (hro.mono h1) hr hst h3 h2) fun _ _ _ hq=>WO.mono h1 hq
  | exit id fr' st'=>
   simp only[hcr] at hr;subst hr
   refine wpIn_mono (ihc rd ro b0 hrd B E w fr a st _ hY hro hcr (by simp) hf hs) fun e a' w' h=>?_
   obtain⟨he,h'⟩:=h
   subst he
   exact⟨rfl,h'⟩
  | ret fr' st'=>
   simp only[hcr] at hr;subst hr
   refine wpIn_mono (ihc rd ro b0 hrd B E w fr a st _ hY hro hcr (by simp) hf hs) fun e a' w' h=>?_
   obtain⟨he,h'⟩:=h
   subst he
   exact⟨rfl,h'⟩
  | pan fr' v st'=>
   simp only[hcr] at hr;subst hr
   refine wpIn_mono (ihc rd ro b0 hrd B E w fr a st _ hY hro hcr (by simp) hf hs) fun e a' w' h=>?_
   obtain⟨u,E',he,h'⟩:=h
   subst he
   exact⟨u,E',rfl,h'⟩
 | cond co c d=>
  have ihc:=IH' c (by simp;omega)
  have ihd:=IH' d (by simp;omega)
  intro rd ro b0 hrd B E w fr a st r hY hro hr hst hf hs
  simp only[VA] at hr
  cases hco:cx co with
  | none=>simp only[hco,Vh] at hr;exact absurd hr.symm hst
  | some x=>
   simp only[hco,Vh] at hr
   have hx:=Vl hf.f hco
   cases hev:ev fr x<;>simp only[hev] at hr<;>try exact absurd hr.symm hst
   rename_i b
   rw[hev] at hx
   have hx:a.eval co=.bool b:=hx
   cases b with
   | true=>exact wpIn_cond_true hx (ihc rd ro b0 hrd B E w fr a st r hY hro hr hst hf hs)
   | false=>exact wpIn_cond_false hx (ihd rd ro b0 hrd B E w fr a st r hY hro hr hst hf hs)
 | block id c=>
  have ih:=IH' c (by simp;omega)
  intro rd ro b0 hrd B E w fr a st r hY hro hr hst hf hs
  simp only[VA,Vh] at hr
  refine wpIn_block ?_
  cases hcr:Vh Γ Y n (VA P N pol rd c) ro fr st with
  | stuck=>simp only[hcr] at hr;exact absurd hr.symm hst
  | norm fr' st'=>
   simp only[hcr] at hr;subst hr
   refine wpIn_mono (ih rd ro b0 hrd B E w fr a st _ hY hro hcr (by simp) hf hs) fun e a' w' ⟨he,h'⟩=>?_
   subst he
   exact⟨rfl,h'⟩
  | exit id' fr' st'=>
   simp only[hcr] at hr
   refine wpIn_mono (ih rd ro b0 hrd B E w fr a st _ hY hro hcr (by simp) hf hs) fun e a' w' ⟨he,h'⟩=>?_
   subst he
   simp only[Exit.inBlock]
   cases hid:id'.beq id
   ·have hne:¬ id'=id:=fun h=>by subst h;simp at hid
    rw[Qe hne]
    simp only[hid,Qq] at hr;subst hr
    exact⟨rfl,h'⟩
   ·have he:=Qj hid
    rw[Qm he]
    simp only[hid,Qi] at hr;subst hr
    exact⟨rfl,h'⟩
  | ret fr' st'=>
   simp only[hcr] at hr;subst hr
   refine wpIn_mono (ih rd ro b0 hrd B E w fr a st _ hY hro hcr (by simp) hf hs) fun e a' w' ⟨he,h'⟩=>?_
   subst he
   exact⟨rfl,h'⟩
  | pan fr' v st'=>
   simp only[hcr] at hr;subst hr
   refine wpIn_mono (ih rd ro b0 hrd B E w fr a st _ hY hro hcr (by simp) hf hs) fun e a' w' h=>?_
   obtain⟨u,E',he,h'⟩:=h
   subst he
   exact⟨u,E',rfl,h'⟩
 | loop c=>
  have ih:=IH' c (by simp)
  intro rd ro b0 hrd B E w fr a st r hY hro hr hst hf hs
  simp only[VA] at hr
  rcases SE N c (VA P N pol rd c) with hm|⟨it,nx,more,out,mR,id6,ops6,cR,m1,m2,hc,hmc,hstep,hm⟩
  ·rw[hm] at hr
   simp only[Vh] at hr
   exact wpIn_loop_rounds n (aloop_sound (ih rd ro b0 hrd) n B E w fr a st r hY hro hr hst hf hs)
  ·rw[hm] at hr
   subst hc
   simp only[VA,Vn.seq.injEq] at hmc
   obtain⟨_,_,hmR⟩:=hmc
   have ihR:=IH' cR (by simp;omega) rd ro b0 hrd
   rw[hmR] at ihR
   simp only[Vh] at hr
   unfold Te at hr
   split at hr<;>try (exact absurd hr.symm hst)
   rename_i id hfit
   split at hr<;>try (exact absurd hr.symm hst)
   rename_i m hsid
   split at hr<;>try (exact absurd hr.symm hst)
   rename_i es hsm
   split at hr<;>try (exact absurd hr.symm hst)
   rename_i f0 s0 hrun0
   rw[cond_eq_ite] at hr
   split at hr
   case isFalse=>exact absurd hr.symm hst
   case isTrue hcond=>
   subst hr
   simp only[Qd] at hcond
   have hit:=hf.f it
   rw[hfit] at hit
   obtain⟨b,hβ,_⟩:=hit
   obtain⟨bm,l,clock,since,g1,g2,g3,_⟩:=hs.obj id _ b hsid hβ
   obtain⟨_,l',clock',g4,g5,g6⟩:=hs.obj m _ bm hsm g1
   rw[g3] at g4;injection g4 with g4;injection g4 with g4 g4';subst g4;subst g4'
   have hsize:l.size=es.length:=by have:=RvEs.length g5;simpa using this.symm
   refine wpIn_loop_rounds (es.length+1) (mloop_sound ihR hstep (cl:=it::nx::more::mR.dsts) (es:=es) (id:=id) (m:=m) (fr0:=fr) (st0:=st) (fun l' hl'=>?_) (isTop_eq hcond.1.2) (isTop_eq hcond.2) es.length [] (by simp) (by simp) (by simp) B E w fr a st bm l clock hY hro (by simp[JB]) hfit hsid g1 g2 g3 hsize g6 hf hs)
   exact rangeB_ok.1 hcond.1.1 l' hl'
 | rangeFunc g ps asg body=>
  have iha:=IH' asg (by simp;omega)
  have ihb:=IH' body (by simp;omega)
  intro rd ro b0 hrd B E w fr a st r hY hro hr hst hf hs
  simp only[VA] at hr
  cases hg:cx g with
  | none=>simp only[hg,Vh] at hr;exact absurd hr.symm hst
  | some x=>
   simp only[hg] at hr
   cases hps:(ps.toList.all fun p=>(p+1).ble N)
   ·simp only[hps,Qq,Vh] at hr;exact absurd hr.symm hst
   ·simp only[hps,Qi,Vh] at hr
    have hps':∀ p∈ps.toList,p < N:=fun p hp=>by
     have:=QB.1 hps p hp
     exact Qk this
    have hgv:=Vl hf.f hg
    cases hev:ev fr x<;>simp only[hev] at hr<;>try exact absurd hr.symm hst
    rename_i fn first captured
    cases fn<;>simp only at hr<;>try exact absurd hr.symm hst
    rename_i gf
    rw[hev] at hgv
    obtain⟨v1,v2,e1,h1,h2⟩:=hgv
    cases hcond:(Γ.ent gf&&roOk ro st)
    ·simp only[hcond,Qq] at hr;exact absurd hr.symm hst
    ·simp only[hcond,Qi] at hr
     simp only[Qd] at hcond
     refine wpIn_rangeFunc fun fn _=>?_
     cases ro with
     | none=>
      cases b0 with
      | some b=>exact hro.elim
      | none=>
       obtain⟨hs1,hx1⟩:=hs.allocDz
       obtain⟨d,w1',f,args,w2,q1,q2,q3⟩:=rfun_sound (n:=n) (ro:=none) (b0:=none) (g:=g) (mark:=[{ target:=.collected w.heap.size,args:=#[] }])
        (rec:={ state:=.ready,pending:=none,fn,tmps:=a.tmps,params:=ps,assign:=asg,body,defers:=w.heap.size }) hG (fun l=>iha true _ (some l) (by simp)) (fun l=>ihb true _ (some l) (by simp)) hY hps' e1 h1 h2 hcond.1 hf hx1 hs1 rfl rfl rfl rfl rfl rfl
        (fun E' w' hx'=>⟨_,_,w.heap.size,rfl,rfl,hf.b,by have:=hx'.size;simp at this;omega,hx'.Dz _ _ (by show (if w.heap.size=w.heap.size then _ else _)=_;rw[Qm rfl]),hf.d.mono (hx1.trans hx') (Qw _)⟩) hr hst
       have hsz:(w.alloc (.deferred (some []))).heap.size=w.heap.size+1:=by simp
       rw[hsz] at q1 q3
       exact⟨_,_,_,d,w1',f,args,w2,run_enterLoop_outer _ _ _ _ _,q1,fun _ _=>trivial,q2,UX none,q3⟩
     | some id0=>
      cases b0 with
      | none=>exact hro.elim
      | some b=>
       have hro':E.β id0=some b:=hro
       obtain⟨s0,hl0⟩:=Option.isSome_iff_exists.1 hcond.2
       obtain⟨r0,hr0,_⟩:=hs.loop hl0 hro'
       obtain⟨d,w1',f,args,w2,q1,q2,q3⟩:=rfun_sound (n:=n) (ro:=some id0) (b0:=some b) (g:=g) (mark:=[])
        (rec:={ state:=.ready,pending:=none,fn,tmps:=a.tmps,params:=ps,assign:=asg,body,defers:=r0.defers }) hG (fun l=>iha true _ (some l) (by simp)) (fun l=>ihb true _ (some l) (by simp)) hY hps' e1 h1 h2 hcond.1 hf (Ext.refl _ _) hs rfl rfl rfl rfl rfl rfl
        (fun E' w' hx'=>hf.d.mono hx' hx'.size) hr hst
       exact⟨_,_,_,d,w1',f,args,w2,run_enterLoop_inner hr0 _ _ _ _ _,q1,fun _ _=>trivial,q2,UX (some b),q3⟩
 | _=>intro rd ro b0 _ B E w fr a st r _ _ hr hst;simp only[VA,Vh] at hr;exact absurd hr.symm hst
end
end
end Go.AM
namespace Go.AM
noncomputable section
def WK(Γ:Gam)(Y:Vi)(n:Nat)(DF:Nat->List AV->St->DM->Option (DM × St))(mf:Vm)(args:List AV)(st:St):FR:=
 bif args.length.ble mf.N then match Vh Γ Y n mf.code none (Vo 0 args Fr.nil) st with
  | .norm fr st=>WY DF mf fr st .ret
  | .ret fr st=>WY DF mf fr st .ret
  | .pan fr v st=>WY DF mf fr st (.pan v)
  | _=>.stuck
 else .stuck
def Ji(tbl:Nat->Option Vm)(hand:Gam->Nat->Vi->Nat->List AV->St->FR):Nat->Vi->Nat->List AV->St->FR
 | 0,_,_,_,_=>.stuck
 | n+1,Y,f,args,st=>match tbl f with
  | some mf=>WK ⟨Ji tbl hand n,Kz tbl⟩ Y n (defT tbl ⟨Ji tbl hand n,Kz tbl⟩ Y n) mf args st
  | none=>hand ⟨Ji tbl hand n,Kz tbl⟩ n Y f args st
def Yt(tbl:Nat->Option Vm)(hand:Gam->Nat->Vi->Nat->List AV->St->FR)(n:Nat):Gam:=⟨Ji tbl hand n,Kz tbl⟩
def TblOk(P:Program)(tbl:Nat->Option Vm):Prop:=∀ f mf,tbl f=some mf->∃ fn pol,P.funcs[f]?=some fn/\cfunc P pol fn=some mf
def Kf(P:Program)(hand:Gam->Nat->Vi->Nat->List AV->St->FR):Prop:=∀ Γ n,Jc P Γ->∀(Y:Vi) (E:Env) (w:World),WX P Y E w->FnOk P (hand Γ n Y) E w
section
variable {P:Program} {Γ:Gam}
theorem frOf_get:∀(xs:List AV) (i n:Nat) (fr:Fr),(Vo i xs fr).get n=if i<=n/\n < i+xs.length then xs[n - i]? else fr.get n
 | [],i,n,fr=>by simp only[Vo,X2,XA];rw[Qe (by omega)]
 | x::xs,i,n,fr=>by
  simp only[Vo]
  rw[frOf_get xs (i+1) n]
  by_cases h:n=i
  ·subst h
   rw[Qe (by omega),Qm (by simp),Fr.get_set]
   simp
  ·by_cases h2:i+1<=n/\n < i+1+xs.length
   ·rw[Qm h2,Qm (by simp only[QC];omega)]
    rw[show n - i=(n - (i+1))+1 by omega];simp
   ·rw[Qe h2,Qe (by simp only[QC];omega),Fr.get_set,Qe h]
theorem frOf_sound{E:Env}{w:World}{args:List AV}{vs:Array Value}{N:Nat}(h:RvL E w args vs.toList):
  RvF E w (Vo 0 args Fr.nil) { tmps:=vs++Array.replicate (N - vs.size) undef,defers:=[] }:=by
 intro n
 rw[frOf_get]
 have hl:=h.length
 simp only[Xm] at hl
 by_cases hn:n < args.length
 ·rw[Qm (by omega)]
  simp only[Nat.sub_zero]
  obtain⟨v,h1,h2⟩:=h.get n (Qn hn)
  rw[Qn hn]
  simp only[Q9]
  have:(vs++Array.replicate (N - vs.size) undef).getD n undef=v:=by
   rw[QA,Zg (by omega)]
   have:vs[n]?=some v:=by simpa using h1
   rw[this];rfl
  rw[this];exact h2
 ·rw[Qe (by omega),Fr.get_nil]
  simp only[X5]
  have:(vs++Array.replicate (N - vs.size) undef).getD n undef=undef:=by
   rw[QA,Array.getElem?_append_right (by omega)]
   cases hq:(Array.replicate (N - vs.size) undef)[n - vs.size]? with
   | none=>rfl
   | some q=>
    have:=Qv.1 hq
    obtain⟨_,h3⟩:=this
    simp at h3;simp[h3]
  rw[this];rfl
def U8(tmps:Array Value):ResultVar->Sem Value
 | .tmp t=>pure (tmps.getD t undef)
 | .cell b t=>do loadVar t (<- asAddr (tmps.getD b undef))
theorem results_eq(fn:Func)(tmps:Array Value):results fn tmps=(do
  let vs <- fn.results.mapM (U8 tmps)
  pure (if h:vs.size=1 then vs[0] else .tuple vs)):=by
 unfold results
 have:(fun x=>U8 tmps x)=(fun (x:ResultVar)=>(match x with
   | .tmp t=>pure (tmps.getD t undef)
   | .cell a t=>do loadVar t (<- asAddr (tmps.getD a undef)):Sem Value)):=by
  funext r;cases r<;>rfl
 show _=(do
  let vs <- fn.results.mapM (fun x=>U8 tmps x)
  pure (if h:vs.size=1 then vs[0] else .tuple vs))
 rw[this];rfl
theorem Sx{E:Env}{w:World}{fr:Fr}{a:Act}{st:St}(hf:∀ n v,fr.get n=some v->Rv E w v (a.tmps.getD n undef))(hs:Sat E st w):∀(rs:List ResultVar) (ms:List JV) (l:List AV),cress P rs=some ms->Vu fr st ms=some l ->
  ∃ vs,(rs.mapM (U8 a.tmps)).run P w=.ok vs w/\RvL E w l vs
 | [],ms,l,hc,hr=>by
  simp only[cress,Qa] at hc;subst hc
  simp only[Vu,Qa] at hr;subst hr
  exact⟨[],by simp,rfl⟩
 | r::rs,ms,l,hc,hr=>by
  simp only[cress,Qh,Qf] at hc
  obtain⟨m,h1,ms',h2,rfl⟩:=hc
  simp only[Vu,Qh,Qf] at hr
  obtain⟨v,h3,l',h4,rfl⟩:=hr
  obtain⟨vs,h5,h6⟩:=Sx hf hs rs ms' l' h2 h4
  cases r with
  | tmp t=>
   simp only[cres,Qa] at h1;subst h1
   simp only[V0] at h3
   exact⟨_::vs,by rw[List.mapM_cons];simp only[U8,Sem.run_bind,Sem.run_pure,Result.andThen,h5],_,_,rfl,hf t v h3,h6⟩
  | cell b t=>
   simp only[cres,Qh,Qf] at h1
   obtain⟨d,hd,i,hi,rfl⟩:=h1
   simp only[V0,Qh] at h3
   obtain⟨x,h3x,h3⟩:=h3
   obtain⟨u,h7,h8⟩:=loadA_sound (P:=P) hd hi rfl hs (hf b x h3x) h3
   have h9:(U8 a.tmps (.cell b t)).run P w=.ok u w:=by
    show (asAddr (a.tmps.getD b undef) >>= fun x=>loadVar t x).run P w=_
    revert h7
    generalize a.tmps.getD b undef=q
    intro h7
    cases q with
    | pointer o=>
     cases o with
     | none=>simp[Instr.loadAt,Instr.sureAddr] at h7
     | some ad=>simpa [Instr.loadAt,Instr.sureAddr,asAddr] using h7
    | _=>simp[Instr.loadAt,Instr.sureAddr] at h7
   refine⟨u::vs,?_,u,vs,rfl,h8,h6⟩
   rw[List.mapM_cons]
   simp only[Sem.run_bind,h9,Sem.run_pure,Result.andThen,h5]
theorem results_run{w:World}{fn:Func}{tmps:Array Value}{vs:List Value}(h:(fn.results.toList.mapM (U8 tmps)).run P w=.ok vs w):
  (results fn tmps).run P w=.ok (if h:vs.toArray.size=1 then vs.toArray[0] else .tuple vs.toArray) w:=by
 have hm:(fn.results.mapM (U8 tmps)).run P w=.ok vs.toArray w:=by
  rw[Array.mapM_eq_mapM_toList]
  simp only[Sem.run_map,h,Result.andThen]
 rw[results_eq]
 simp only[Sem.run_bind,hm,Result.andThen,Sem.run_pure]
theorem SM{E:Env}{w:World}{fr:Fr}{a:Act}{st st':St}{fn:Func}{ms:List JV}{v:AV}(hf:∀ n v,fr.get n=some v->Rv E w v (a.tmps.getD n undef))(hs:Sat E st w)(hc:cress P fn.results.toList=some ms)
  (hr:Vg fr st ms=.ret v st'):∃ u,(results fn a.tmps).run P w=.ok u w/\Rv E w v u/\st'=st:=by
 unfold Vg at hr
 cases hl:Vu fr st ms with
 | none=>simp[hl] at hr
 | some l=>
  obtain⟨vs,h1,h2⟩:=Sx hf hs _ _ l hc hl
  rw[results_run h1]
  simp only[hl] at hr
  have hlen:=h2.length
  split at hr
  ·rename_i v' he
   injection he with he;subst he
   injection hr with e1 e2;subst e1;subst e2
   obtain⟨x,xs,rfl,h3,h4⟩:=h2
   cases h4
   exact⟨x,by simp,h3,rfl⟩
  ·rename_i vs' hne he
   injection he with he;subst he
   injection hr with e1 e2;subst e1;subst e2
   have:vs.length≠1:=fun h1=>by
    rw[<-hlen] at h1
    cases l with
    | nil=>simp at h1
    | cons c cs=>cases cs with
     | nil=>exact hne c rfl
     | cons _ _=>simp at h1
   exact⟨.tuple vs.toArray,by simp[this],⟨vs.toArray,rfl,by simpa using h2⟩,rfl⟩
  ·simp at hr
def DMR(E:Env)(w:World):DM->FrameMode->Prop
 | .ret,u=>u=.returning
 | .pan v,u=>∃ x,u=.panicking [{ v:=x,recovered:=false }]/\Rv E w v x
 | .recd,u=>∃ x,u=.panicking [{ v:=x,recovered:=true }]
theorem DMR.mono{E E':Env}{w w':World}(hx:Ext E w E' w'):∀{m:DM} {u:FrameMode},DMR E w m u->DMR E' w' m u
 | .ret,_,h=>h
 | .pan _,_,⟨x,h1,h2⟩=>⟨x,h1,Rv.mono hx _ _ h2⟩
 | .recd,_,h=>h
theorem DMR.run{E:Env}{w:World}{m:DM}{u:FrameMode}(h:DMR E w m u):u≠.run:=by
 cases m with
 | ret=>rw[show u=_ from h];simp
 | pan v=>obtain⟨x,rfl,_⟩:=h;simp
 | recd=>obtain⟨x,rfl⟩:=h;simp
theorem DMR.settle{E:Env}{w:World}{m:DM}{u:FrameMode}(h:DMR E w m u):DMR E w (settleA m) (settle u):=by
 cases m with
 | ret=>rw[show u=_ from h];rfl
 | pan v=>obtain⟨x,rfl,h⟩:=h;exact⟨x,rfl,h⟩
 | recd=>obtain⟨x,rfl⟩:=h;rfl
def KU(P:Program)(E:Env)(w:World)(N B:Nat)(c₀:Frame)(cs0:List Frame)(r:CR)(m:DM):Exit->Act->List Frame->World->Prop:=fun e a' cs' w'=>
 ∃ u,cs'={ c₀ with mode:=u }::cs0 ∧
  match r with
  | .norm fr st=>e=.normal/\∃ E',Ext E w E' w'/\Sat E' st w'/\RvA P E' w' N B fr a'/\DMR E' w' m u
  | .ret fr st=>e=.ret/\∃ E',Ext E w E' w'/\Sat E' st w'/\RvA P E' w' N B fr a'/\DMR E' w' m u
  | _=>False
theorem KU.mono{E E1:Env}{w w1:World}{N B:Nat}{c₀:Frame}{cs0:List Frame}{r:CR}{m:DM}(h:Ext E w E1 w1){e:Exit}{a:Act}{cs:List Frame}{w':World}(hr:KU P E1 w1 N B c₀ cs0 r m e a cs w'):KU P E w N B c₀ cs0 r m e a cs w':=by
 obtain⟨u,h1,h2⟩:=hr
 cases r with
 | norm fr st=>obtain⟨h3,E',h4,h5⟩:=h2;exact⟨u,h1,h3,E',h.trans h4,h5⟩
 | ret fr st=>obtain⟨h3,E',h4,h5⟩:=h2;exact⟨u,h1,h3,E',h.trans h4,h5⟩
 | _=>exact h2.elim
theorem KV{F:Fence}{n:Nat}{c:Code}{Q Q':Exit->Act->List Frame->World->Prop}{a:Act}{cs:List Frame}{w:World}(h:c.wpSIn F n P Q a cs w)(hq:∀ e a cs w,Q e a cs w->Q' e a cs w):c.wpSIn F n P Q' a cs w:=
 fun b k hb hr hF hroom=>let⟨e,a',cs',w',l,q,r⟩:=h b k hb hr hF hroom;⟨e,a',cs',w',l,hq _ _ _ _ q,r⟩
theorem recoverD_pan{c₀:Frame}{cs:List Frame}{x:Value}:recoverD ({ c₀ with mode:=.panicking [{ v:=x,recovered:=false }] }::cs)=some (x,{ c₀ with mode:=.panicking [{ v:=x,recovered:=true }] }::cs):=rfl
theorem wpOpsSIn_mono {F:Fence} {n:Nat} {ops:Array Oper} {Q Q':Exit->Act->List Frame->World->Prop} (hq:∀ e a cs w,Q e a cs w->Q' e a cs w):∀(l:List Nat) (a:Act) (cs:List Frame) (w:World),wpOpsSIn F n P ops Q l a cs w->wpOpsSIn F n P ops Q' l a cs w
  | [],_,_,_,h=>hq _ _ _ _ h
  | i::l,a,cs,w,h=>by
   unfold wpOpsSIn at *
   split
   ·rename_i ho;simp only[ho] at h;exact wpOpsSIn_mono hq l _ _ _ h
   ·rename_i o ho
    simp only[ho] at h
    refine⟨h.1,?_⟩
    have h:=h.2
    split
    ·rename_i hw
     simp only[hw,Xj] at h
     generalize (execOp a.eval o).run P w=r at *
     cases r with
     | ok x w'=>
      cases x with
      | recover=>
       simp only at h ⊢
       split
       ·rename_i hrd;simp only[hrd] at h;exact wpOpsSIn_mono hq l _ _ _ h
       ·rename_i hrd;simp only[hrd] at h;exact wpOpsSIn_mono hq l _ _ _ h
      | value v=>exact wpOpsSIn_mono hq l _ _ _ h
      | skip=>exact wpOpsSIn_mono hq l _ _ _ h
      | _=>exact h.elim
     | halt x w'=>
      cases x with
      | panic v=>exact hq _ _ _ _ h
      | _=>exact h.elim
    ·rename_i hw;simp only[hw] at h;exact wpOpsSIn_mono hq l _ _ _ h
theorem Jx{ops:Array Oper}{N B:Nat}{rd:Bool}{pol:Nat->Bool}{c₀:Frame}{cs0:List Frame}:∀(os:List Oper) (i:Nat) (ms:List Vc) (E:Env) (w:World) (fr fr':Fr) (a:Act) (st st':St) (m m':DM) (u:FrameMode),
  (∀ k,k < os.length->ops[i+k]?=os[k]?)->Yx P ops N rd pol i os=some ms->arunS ms fr st m=some (fr',st',m')->RvA P E w N B fr a->Sat E st w->DMR E w m u ->
  wpOpsSIn (FR0 none) 0 P ops (KU P E w N B c₀ cs0 (.norm fr' st') m') (List.range' i os.length) a ({ c₀ with mode:=u }::cs0) w
 | [],i,ms,E,w,fr,fr',a,st,st',m,m',u,_,hc,hr,hf,hs,hm=>by
  simp only[Yx,Qa] at hc;subst hc
  simp only[arunS,Qa,Q2] at hr
  obtain⟨rfl,rfl,rfl⟩:=hr
  exact⟨u,rfl,rfl,E,Ext.refl _ _,hs,hf,hm⟩
 | o::os,i,ms,E,w,fr,fr',a,st,st',m,m',u,hk,hc,hr,hf,hs,hm=>by
  have h0:=hk 0 (by simp)
  simp only[XA,Q0] at h0
  have hk':∀ k,k < os.length->ops[i+1+k]?=os[k]?:=fun k hlt=>by
   have:=hk (k+1) (by simp;omega)
   rw[show i+1+k=i+(k+1) by omega,this];simp
  simp only[Yx,Qh,Qf] at hc
  obtain⟨mo,hmo,ms',hms,rfl⟩:=hc
  simp only[coper,Qh] at hmo
  obtain⟨g,hg,hmo⟩:=hmo
  simp only[QC,ZU,wpOpsSIn,h0]
  refine⟨fun _ _=>trivial,?_⟩
  cases hd:Un N o.dst
  ·simp[hd] at hmo
  ·simp only[hd,Qi,Qa] at hmo
   have hmg:mo.guard=g:=by rw[<-hmo]
   have hmd:mo.dst=o.dst:=by rw[<-hmo]
   have hmop:mo.op=match YD rd o with | some m=>m | none=>(cop P (pol i) o).getD .bad:=by rw[<-hmo];rfl
   simp only[arunS,hmg,hmd] at hr
   cases hw:Vv fr g with
   | none=>simp[hw] at hr
   | some b=>
    have hwant:=JG hf.f hg hw
    cases b with
    | false=>
     simp only[hw] at hr
     simp only[hwant,Q1,Xz]
     exact Jx os (i+1) ms' E w _ fr' _ st st' m m' u hk' hms hr (hf.put rfl hd) hs hm
    | true=>
     simp only[hw] at hr
     simp only[hwant,Xj]
     cases hrec:mo.op.isRecov with
     | true=>
      simp only[hrec,Qi] at hr
      have hrun:(execOp a.eval o).run P w=.ok .recover w:=by
       cases hsp:YD rd o with
       | none=>
        rw[hsp] at hmop
        simp only at hmop
        cases hc:cop P (pol i) o with
        | none=>rw[hc] at hmop;rw[hmop] at hrec;cases hrec
        | some m1=>
         rw[hc] at hmop
         have:=cop_special hc
         rw[hmop] at hrec
         simp only[Q9] at hrec
         cases m1<;>simp[MOp.isRecov,MOp.special] at hrec this
       | some m1=>
        unfold YD at hsp
        split at hsp
        ·cases rd with
         | true=>cases hsp
         | false=>
          rw[show YD false o=some m1 by unfold YD;simp only[*]] at hmop
          simp only[Qq,Qh,Qf] at hsp
          obtain⟨f,_,xs,_,rfl⟩:=hsp
          simp only at hmop
          rw[hmop] at hrec;cases hrec
        ·rename_i ho
         simp[execOp,ho,resolve,invoke,builtin]
        ·cases hsp
      rw[hrun]
      simp only
      cases m with
      | ret=>
       have hu:u=.returning:=hm
       subst hu
       simp only at hr
       simp only[recoverD]
       exact Jx os (i+1) ms' E w _ fr' _ st st' .ret m' .returning hk' hms hr (hf.put rfl hd) hs rfl
      | recd=>
       obtain⟨x,hu⟩:=hm
       subst hu
       simp only at hr
       simp only[recoverD]
       exact Jx os (i+1) ms' E w _ fr' _ st st' .recd m' _ hk' hms hr (hf.put rfl hd) hs ⟨x,rfl⟩
      | pan v=>
       obtain⟨x,hu,hx⟩:=hm
       subst hu
       simp only at hr
       rw[recoverD_pan]
       exact Jx os (i+1) ms' E w _ fr' _ st st' .recd m' _ hk' hms hr (hf.put hx hd) hs ⟨x,rfl⟩
     | false=>
      simp only[hrec,Qq] at hr
      cases ho:aop fr st mo.op with
      | stuck=>simp[ho] at hr
      | pan v st2=>simp[ho] at hr
      | val v st2=>
       simp only[ho] at hr
       have hop:mo.op=(cop P (pol i) o).getD .bad:=by
        cases hsp:YD rd o with
        | none=>rw[hsp] at hmop;exact hmop
        | some m1=>
         exfalso
         rw[hsp] at hmop
         simp only at hmop
         rw[hmop] at ho hrec
         unfold YD at hsp
         split at hsp
         ·cases rd with
          | true=>cases hsp
          | false=>
           simp only[Qq,Qh,Qf] at hsp
           obtain⟨f,_,xs,_,rfl⟩:=hsp
           cases ho
         ·injection hsp with hsp;subst hsp;cases hrec
         ·cases hsp
       cases hc:cop P (pol i) o with
       | none=>rw[hc] at hop;rw[hop] at ho;cases ho
       | some m1=>
        rw[hc] at hop
        simp only[Q9] at hop
        rw[hop] at ho
        have hnc:m1.isCall=false:=by
         cases m1<;>first | rfl | cases ho
        have hok:=cop_sound hf.f hs hc hnc
        rw[ho] at hok
        obtain⟨q,w',E',k1,k2,k3,k4⟩:=hok
        have go:wpOpsSIn (FR0 none) 0 P ops (KU P E w N B c₀ cs0 (.norm fr' st') m') (List.range' (i+1) os.length) (a.put o.dst q) ({ c₀ with mode:=u }::cs0) w':=
         wpOpsSIn_mono (fun _ _ _ _ hq=>KU.mono k2 hq) _ _ _ _ (Jx os (i+1) ms' E' w' _ fr' _ st2 st' m m' u hk' hms hr ((hf.mono k2).put k4 hd) k3 (hm.mono k2))
        rcases k1 with k1|⟨k1,k5⟩
        ·rw[k1];exact go
        ·rw[k1];subst k5;exact go
def CR.fine:CR->Bool
 | .norm _ _=>true
 | .ret _ _=>true
 | _=>false
theorem acodeS_sound{N n B:Nat}{pol:Nat->Nat->Bool}{Y:Vi}(hG:Jc P Γ){c₀:Frame}{cs0:List Frame}:∀(c:Code) (E:Env) (w:World) (fr:Fr) (a:Act) (st:St) (m m':DM) (u:FrameMode) (r:CR),
  WX P Y E w->YI Γ Y n (VA P N pol false c) fr st m=(r,m')->r.fine=true->RvA P E w N B fr a->Sat E st w->DMR E w m u->c.wpSIn (FR0 none) 0 P (KU P E w N B c₀ cs0 r m') a ({ c₀ with mode:=u }::cs0) w:=by
 intro c
 have plain:∀(c:Code) (E:Env) (w:World) (fr:Fr) (a:Act) (st:St) (m m':DM) (u:FrameMode) (r:CR),WX P Y E w->(Vh Γ Y n (VA P N pol false c) none fr st,m)=(r,m')->r.fine=true->RvA P E w N B fr a->Sat E st w->DMR E w m u ->
   c.wpSIn (FR0 none) 0 P (KU P E w N B c₀ cs0 r m') a ({ c₀ with mode:=u }::cs0) w:=fun c E w fr a st m m' u r hY hr hfine hf hs hm=>by
  simp only[Q2] at hr
  obtain⟨hr,rfl⟩:=hr
  refine wpSIn_of_wpIn rfl (wpIn_mono (Ka hG c false none none (fun _=>rfl) B E w fr a st r hY trivial hr (by rintro rfl;cases hfine) hf hs) fun e a' w' h=>?_)
  refine⟨u,rfl,?_⟩
  cases r with
  | norm fr' st'=>obtain⟨h1,E',h2,h3,h4⟩:=h;exact⟨h1,E',h2,h3,h4,hm.mono h2⟩
  | ret fr' st'=>obtain⟨h1,E',h2,h3,h4⟩:=h;exact⟨h1,E',h2,h3,h4,hm.mono h2⟩
  | _=>cases hfine
 induction c with
 | seq c d ihc ihd=>
  intro E w fr a st m m' u r hY hr hfine hf hs hm
  simp only[VA,YI] at hr
  refine wpSIn_seq ?_
  cases hcr:YI Γ Y n (VA P N pol false c) fr st m with
  | mk r1 m1=>
   rw[hcr] at hr
   cases r1 with
   | norm fr1 st1=>
    simp only at hr
    refine KV (ihc E w fr a st m m1 u _ hY hcr rfl hf hs hm) fun e a' cs' w' ⟨u1,h1,he,E',h2,h3,h4,h5⟩=>?_
    subst he;subst h1
    exact KV (ihd E' w' fr1 a' st1 m1 m' u1 r (hY.mono h2) hr hfine h4 h3 h5) fun _ _ _ _ hq=>KU.mono h2 hq
   | ret fr1 st1=>
    simp only[Q2] at hr
    obtain⟨rfl,rfl⟩:=hr
    refine KV (ihc E w fr a st m m1 u _ hY hcr rfl hf hs hm) fun e a' cs' w' h=>?_
    obtain⟨u1,h1,he,h2⟩:=h
    subst he
    exact⟨u1,h1,rfl,h2⟩
   | exit _ _ _=>simp only[Q2] at hr;obtain⟨rfl,rfl⟩:=hr;cases hfine
   | pan _ _ _=>simp only[Q2] at hr;obtain⟨rfl,rfl⟩:=hr;cases hfine
   | stuck=>simp only[Q2] at hr;obtain⟨rfl,rfl⟩:=hr;cases hfine
 | cond co c d ihc ihd=>
  intro E w fr a st m m' u r hY hr hfine hf hs hm
  simp only[VA] at hr
  cases hco:cx co with
  | none=>simp only[hco,YI,Vh,Q2] at hr;obtain⟨rfl,rfl⟩:=hr;cases hfine
  | some x=>
   simp only[hco,YI] at hr
   have hx:=Vl hf.f hco
   cases hev:ev fr x<;>simp only[hev,Q2] at hr<;>try (obtain⟨rfl,rfl⟩:=hr;cases hfine;done)
   rename_i b
   rw[hev] at hx
   have hx:a.eval co=.bool b:=hx
   refine wpSIn_cond hx ?_
   cases b with
   | true=>exact ihc E w fr a st m m' u r hY hr hfine hf hs hm
   | false=>exact ihd E w fr a st m m' u r hY hr hfine hf hs hm
 | region id ops draw=>
  intro E w fr a st m m' u r hY hr hfine hf hs hm
  cases draw with
  | true=>
   refine plain (.region id ops true) E w fr a st m m' u r hY ?_ hfine hf hs hm
   rw[<-hr]
   simp only[VA]
   cases Yx P ops N false (pol id) 0 ops.toList with
   | none=>rfl
   | some ms=>
    simp only
    unfold cdraw
    cases (P.follows .mixedOrders&&drawB ops (ms.zip (ancsGo ops.toList []))&&Um ops.toList ms)<;>rfl
  | false=>
   simp only[VA] at hr
   cases hms:Yx P ops N false (pol id) 0 ops.toList with
   | none=>simp only[hms,YI,Vh,Q2] at hr;obtain⟨rfl,rfl⟩:=hr;cases hfine
   | some ms=>
    simp only[hms,YI] at hr
    cases hany:(ms.any fun o=>o.op.isRecov) with
    | false=>
     rw[hany] at hr
     refine plain (.region id ops false) E w fr a st m m' u r hY ?_ hfine hf hs hm
     simp only[VA,hms]
     exact hr
    | true=>
     rw[hany] at hr
     simp only[Qi] at hr
     cases har:arunS ms fr st m with
     | none=>rw[har] at hr;simp only[Q2] at hr;obtain⟨rfl,rfl⟩:=hr;cases hfine
     | some q=>
      obtain⟨fr1,st1,m1⟩:=q
      rw[har] at hr
      simp only[Q2] at hr
      obtain⟨rfl,rfl⟩:=hr
      refine wpSIn_region ?_
      have:=Jx (c₀:=c₀) (cs0:=cs0) ops.toList 0 ms E w fr fr1 a st st1 m m1 u (fun k _=>by simp) hms har hf hs hm
      rw[Zy]
      simpa using this
 | skip=>intro E w fr a st m m' u r hY hr hfine hf hs hm;exact plain _ E w fr a st m m' u r hY hr hfine hf hs hm
 | ret=>intro E w fr a st m m' u r hY hr hfine hf hs hm;exact plain _ E w fr a st m m' u r hY hr hfine hf hs hm
 | exit id=>intro E w fr a st m m' u r hY hr hfine hf hs hm;exact plain _ E w fr a st m m' u r hY hr hfine hf hs hm
 | block id c _=>intro E w fr a st m m' u r hY hr hfine hf hs hm;exact plain _ E w fr a st m m' u r hY hr hfine hf hs hm
 | loop c _=>
  intro E w fr a st m m' u r hY hr hfine hf hs hm
  refine plain _ E w fr a st m m' u r hY ?_ hfine hf hs hm
  simp only[VA] at hr ⊢
  rcases SE N c (VA P N pol false c) with h|⟨it,nx,more,out,mR,id,ops,cR,m1,m2,_,_,_,h⟩
  ·rw[h] at hr ⊢;exact hr
  ·rw[h] at hr ⊢;exact hr
 | rangeFunc g ps asg body _ _=>
  intro E w fr a st m m' u r hY hr hfine hf hs hm
  refine plain (.rangeFunc g ps asg body) E w fr a st m m' u r hY ?_ hfine hf hs hm
  rw[<-hr]
  simp only[VA]
  cases cx g with
  | none=>rfl
  | some x=>
   simp only
   cases (ps.toList.all fun p=>Nat.ble (p+1) N)<;>rfl
 | _=>intro E w fr a st m m' u r hY hr hfine;simp only[VA,YI,Vh,Q2] at hr;obtain⟨rfl,rfl⟩:=hr;cases hfine
theorem start_act{E:Env}{w:World}{args:List AV}{vs:Array Value}{N B:Nat}(ha:RvL E w args vs.toList)(hle:args.length<=N)(hB:B<=w.heap.size):
  RvA P E w N B (Vo 0 args Fr.nil) { tmps:=vs++Array.replicate (N - vs.size) undef,defers:=[] }:=by
 have hlen:=ha.length
 simp only[Xm] at hlen
 refine⟨frOf_sound ha,by simp;omega,?_,hB⟩
 have:∀(l:List AV) (i:Nat) (fr:Fr),(Vo i l fr).ds=fr.ds:=fun l=>by
  induction l with
  | nil=>intro i fr;rfl
  | cons x xs ih=>intro i fr;unfold Vo;rw[ih];rfl
 rw[this];rfl
theorem Kc{fn:Func}{mf:Vm}{pol:Nat->Nat->Bool}(hc:cfunc P pol fn=some mf):∃ c rs,fn.body=some c/\(fn.name== "runtime.NumGoroutine")=false/\cress P fn.results.toList=some rs/\mf={ N:=fn.ntmps,code:=VA P fn.ntmps pol false c,res:=rs }:=by
 simp only[cfunc,Qh] at hc
 obtain⟨c,hb,hc⟩:=hc
 cases hname:fn.name== "runtime.NumGoroutine"
 ·simp only[hname,Qq,Qf] at hc
  obtain⟨rs,hrs,rfl⟩:=hc
  exact⟨c,rs,hb,rfl,hrs,rfl⟩
 ·simp[hname] at hc
theorem Yo{f:Nat}{fn:Func}{c:Code}(hf:P.funcs[f]?=some fn)(hb:fn.body=some c)(hname:(fn.name== "runtime.NumGoroutine")=false):Yh P f:=fun args w=>by
 simp only[callFunc,Sem.run_bind,run_program,Result.andThen,hf,hname,hb,Q1,Xz,Option.isNone_some]
 rfl
theorem adef_sound{f n:Nat}{fn:Func}{mf:Vm}{pol:Nat->Nat->Bool}{Y:Vi}(hG:Jc P Γ)(hf:P.funcs[f]?=some fn)(hc:cfunc P pol fn=some mf){args:List AV}{st st':St}{m m':DM}{E:Env}{w:World}{vs:Array Value}{u:FrameMode}
  (hY:WX P Y E w) (ha:RvL E w args vs.toList) (hs:Sat E st w) (hm:DMR E w m u) (hr:adefF Γ Y n mf args st m=some (m',st')):
  CallsDIn (FR0 none) 0 P f vs u w fun e u' w'=>∃ v E',e=.returned v/\Ext E w E' w'/\Sat E' st' w'/\DMR E' w' m' (settle u'):=by
 obtain⟨c,rs,hb,hname,hrs,rfl⟩:=Kc hc
 unfold adefF at hr
 simp only at hr
 cases hle:args.length.ble fn.ntmps
 ·simp[hle] at hr
 ·simp only[hle,Qi] at hr
  have hle:=Qk hle
  have hstart:RvA P E w fn.ntmps 0 (Vo 0 args Fr.nil) { tmps:=vs++Array.replicate (fn.ntmps - vs.size) undef,defers:=[] }:=start_act ha hle (X3 _)
  have fin:∀(fr1:Fr) (st1:St) (m1:DM) (a':Act) (w':World) (E':Env) (u1:FrameMode),endD { N:=fn.ntmps,code:=VA P fn.ntmps pol false c,res:=rs } fr1 st1 m1=some (m',st')->Ext E w E' w'->Sat E' st1 w'->RvA P E' w' fn.ntmps 0 fr1 a'->DMR E' w' m1 u1 ->
    a'.defers=[]/\∃ v,(results fn a'.tmps).run P w'=.ok v w'/\∃ v' E',Ending.returned v=.returned v'/\Ext E w E' w'/\Sat E' st' w'/\DMR E' w' m' (settle u1):=fun fr1 st1 m1 a' w' E' u1 he hx hs' hf' hm'=>by
   unfold endD at he
   cases hds:fr1.ds with
   | cons _ _=>simp[hds] at he
   | nil=>
    cases hl:Vu fr1 st1 rs with
    | none=>simp[hds,hl] at he
    | some l=>
     simp only[hds,hl,Qa,Q2] at he
     obtain⟨rfl,rfl⟩:=he
     obtain⟨vs',h1,_⟩:=Sx hf'.f.part hs' _ _ l hrs hl
     have hd:=hf'.d
     rw[hds] at hd
     exact⟨hd,_,results_run h1,_,E',rfl,hx,hs',hm'.settle⟩
  refine callsDIn_of_wpSIn hf hb trivial fun c₀ cs hu=>?_
  have hc0:({ c₀ with mode:=u }:Frame)=c₀:=by subst hu;rfl
  rw[<-hc0]
  cases hcs:YI Γ Y n (VA P fn.ntmps pol false c) (Vo 0 args Fr.nil) st m with
  | mk r m1=>
   rw[hcs] at hr
   cases r with
   | norm fr1 st1=>
    refine KV (acodeS_sound hG c E w _ _ st m m1 u _ hY hcs rfl hstart hs hm) fun e a' cs' w' ⟨u1,h1,he,E',h2,h3,h4,h5⟩=>?_
    subst he
    obtain⟨q1,v,q2,q3⟩:=fin fr1 st1 m1 a' w' E' u1 hr h2 h3 h4 h5
    exact⟨q1,u1,h1,v,q2,q3⟩
   | ret fr1 st1=>
    refine KV (acodeS_sound hG c E w _ _ st m m1 u _ hY hcs rfl hstart hs hm) fun e a' cs' w' ⟨u1,h1,he,E',h2,h3,h4,h5⟩=>?_
    subst he
    obtain⟨q1,v,q2,q3⟩:=fin fr1 st1 m1 a' w' E' u1 hr h2 h3 h4 h5
    exact⟨q1,u1,h1,v,q2,q3⟩
   | _=>simp at hr
theorem RvD.shut{E E1:Env}{w w1:World}{B D:Nat}(hx:Ext0 E w E1 w1)(hD:∀ b o,b≠D->E.Dz b=some o->E1.Dz b=some o):∀{ds:List DA} {l:List Deferred} {U:Nat},U<=D->RvD P E w B U ds l->RvD P E1 w1 B U ds l
 | [],_,_,_,h=>h
 | .call n args::ds,_,_,hU,⟨d,l',vs,h1,h2,h3,h4,h5⟩=>⟨d,l',vs,h1,h2,h3,RvL.mono0 hx _ _ h4,RvD.shut hx hD hU h5⟩
 | .coll::ds,_,_,hU,⟨d,l',D',h1,h2,h3,h4,h5,h6⟩=>⟨d,l',D',h1,h2,h3,h4,hD _ _ (by omega) h5,RvD.shut hx hD (by omega) h6⟩
def DFOk(P:Program)(DF:Nat->List AV->St->DM->Option (DM × St))(E:Env)(w:World):Prop:=∀ E' w',Ext E w E' w'->∀(f:Nat) (args:List AV) (st st':St) (m m':DM) (vs:Array Value) (u:FrameMode),RvL E' w' args vs.toList->Sat E' st w'->DMR E' w' m u->DF f args st m=some (m',st') ->
 Yh P f/\CallsDIn (FR0 none) 0 P f vs u w' fun e u' w''=>∃ v E'',e=.returned v/\Ext E' w' E'' w''/\Sat E'' st' w''/\DMR E'' w'' m' (settle u')
theorem UG{DF:Nat->List AV->St->DM->Option (DM × St)}{fn:Func}{tmps:Array Value}{R:Ending->World->Prop}{Es:Env}{ws:World}{fr:Fr}{B:Nat}(hDF:DFOk P DF Es ws)(hEs:∀ b o,Es.Dz b=some o->b < B)(st':St)(m':DM)
  (hend:∀ E w u,Ext Es ws E w->Sat E st' w->DMR E w m' u->(∀ n v,fr.get n=some v->Rv E w v (tmps.getD n undef))->LeavesInM (FR0 none) 0 P fn tmps R [] u w):
  ∀(ds:List DA) (l:List Deferred) (U:Nat) (E:Env) (w:World) (st:St) (m:DM) (u:FrameMode),VO DF ds st m=some (m',st')->Ext Es ws E w->Sat E st w->DMR E w m u->RvD P E w B U ds l ->
   (∀ n v,fr.get n=some v->Rv E w v (tmps.getD n undef))->LeavesInM (FR0 none) 0 P fn tmps R l u w
 | [],l,U,E,w,st,m,u,hr,hx,hs,hm,hd,hf=>by
  simp only[VO,Qa,Q2] at hr
  obtain⟨rfl,rfl⟩:=hr
  have hd:l=[]:=hd
  subst hd
  exact hend E w u hx hs hm hf
 | .coll::ds,l,U,E,w,st,m,u,hr,hx,hs,hm,hd,hf=>by
  obtain⟨d,l',D,rfl,h1,h2,h3,h4,h5⟩:=hd
  simp only[VO] at hr
  obtain⟨hs1,hx1⟩:=hs.shutDz h4
  refine⟨hm.run,.inl ⟨D,_,h1,run_takeDeferred (hs.dz D _ h4).1,?_⟩⟩
  have hxs:Ext Es ws (E.pin D none) (w.putObj D (.deferred none)):=⟨hx.toExt0.trans hx1,hx.Rs,fun b o hb=>by
   have:=hEs b o hb
   show (if b=D then none else E.Dz b)=_
   rw[Qe (by omega)];exact hx.Dz b o hb⟩
  have hm1:DMR (E.pin D none) (w.putObj D (.deferred none)) m u:=by
   cases m with
   | ret=>exact hm
   | pan v=>obtain⟨x,h6,h7⟩:=hm;exact⟨x,h6,Rv.mono0 hx1 _ _ h7⟩
   | recd=>exact hm
  exact UG hDF hEs st' m' hend ds l' D _ _ st m u hr hxs hs1 hm1 (RvD.shut hx1 (fun b o hb h=>by show (if b=D then none else E.Dz b)=_;rw[Qe hb];exact h) (Qw _) h5) fun n v hn=>Rv.mono0 hx1 _ _ (hf n v hn)
 | .call f args::ds,l,U,E,w,st,m,u,hr,hx,hs,hm,hd,hf=>by
  obtain⟨d,l',vs,rfl,⟨fv,cap,h1⟩,h2,h3,h4⟩:=hd
  simp only[VO] at hr
  cases hdf:DF f args st m with
  | none=>rw[hdf] at hr;cases hr
  | some q=>
   obtain⟨m1,st1⟩:=q
   rw[hdf] at hr
   simp only at hr
   obtain⟨hen,hcall⟩:=hDF E w hx f args st st1 m m1 vs u h3 hs hm hdf
   refine⟨hm.run,.inr ⟨UX none,fv,cap,f,vs,h1,by rw[h2,hen],fun _ _=>trivial,?_⟩⟩
   refine CallsDIn.mono hcall fun e u' w' ⟨v,E',he,hx',hs',hm'⟩=>?_
   subst he
   exact UG hDF hEs st' m' hend ds l' U E' w' st1 m1 (settle u') hr (hx.trans hx') hs' hm' (h4.mono hx' (Qw _)) fun n v hn=>Rv.mono hx' _ _ (hf n v hn)
theorem abody_sound{f n:Nat}{fn:Func}{mf:Vm}{pol:Nat->Nat->Bool}{Y:Vi}{DF:Nat->List AV->St->DM->Option (DM × St)}(hG:Jc P Γ)(hf:P.funcs[f]?=some fn)(hc:cfunc P pol fn=some mf){args:List AV}{st:St}{E:Env}{w:World}{vs:Array Value}
  (hY:WX P Y E w) (hDF:DFOk P DF E w) (ha:RvL E w args vs.toList) (hs:Sat E st w):
  (∀ v st',WK Γ Y n DF mf args st=.ret v st'->Yh P f/\Calls P f vs w (YO E w v st'))/\(∀ v st',WK Γ Y n DF mf args st=.pan v st'->Yh P f/\Calls P f vs w (PanR E w v st')):=by
 obtain⟨c,rs,hb,hname,hrs,rfl⟩:=Kc hc
 have hen:Yh P f:=Yo hf hb hname
 have hEs:∀ b o,E.Dz b=some o->b < w.heap.size:=fun b o h=>(Qv.1 (hs.dz b o h).1).1
 -- the end of a function
 have fin:∀(R:Ending->World->Prop) (fr:Fr) (st1:St) (m:DM) (a':Act) (w':World) (E':Env) (u:FrameMode) (q:FR),WY DF { N:=fn.ntmps,code:=VA P fn.ntmps pol false c,res:=rs } fr st1 m=q ->
   (∀ v st',q=.ret v st'->∀ e w',YO E w v st' e w'->R e w')->(∀ v st',q=.pan v st'->∀ e w',PanR E w v st' e w'->R e w')->q≠.stuck ->
   Ext E w E' w'->Sat E' st1 w'->RvP P E' w' w.heap.size fr a'->DMR E' w' m u->LeavesInM (FR0 none) 0 P fn a'.tmps R a'.defers u w':=fun R fr st1 m a' w' E' u q hq h1 h2 h3 hx hs' hp hm=>by
  unfold WY at hq
  cases hl:VO DF fr.ds st1 m with
  | none=>rw[hl] at hq;exact absurd hq.symm h3
  | some p=>
   obtain⟨m',st'⟩:=p
   rw[hl] at hq
   simp only at hq
   refine UG (fr:=fr) hDF hEs st' m' (fun E2 w2 u2 g1 g2 g3 g4=>?_) fr.ds a'.defers w'.heap.size E' w' st1 m u hl hx hs' hm hp.d hp.f
   cases m' with
   | recd=>exact absurd hq.symm h3
   | ret=>
    simp only at hq
    have hu:u2=.returning:=g3
    subst hu
    cases q with
    | stuck=>exact absurd rfl h3
    | pan v st3=>unfold Vg at hq;split at hq<;>cases hq
    | ret v st3=>
     obtain⟨x,k1,k2,rfl⟩:=SM (a:={ tmps:=a'.tmps,defers:=[] }) g4 g2 hrs hq
     exact⟨x,k1,h1 v _ rfl _ _ ⟨x,E2,rfl,g1,g2,k2⟩⟩
   | pan v=>
    simp only at hq
    obtain⟨x,hu,hx2⟩:=g3
    subst hu
    exact h2 v st' hq.symm _ _ ⟨x,E2,rfl,g1,g2,hx2⟩
 have main:∀(q:FR) (R:Ending->World->Prop),WK Γ Y n DF { N:=fn.ntmps,code:=VA P fn.ntmps pol false c,res:=rs } args st=q->q≠.stuck ->
   (∀ v st',q=.ret v st'->∀ e w',YO E w v st' e w'->R e w')->(∀ v st',q=.pan v st'->∀ e w',PanR E w v st' e w'->R e w')->Calls P f vs w R:=fun q R hq h3 h1 h2=>by
  unfold WK at hq
  simp only at hq
  cases hle:args.length.ble fn.ntmps
  ·rw[hle] at hq;exact absurd hq.symm h3
  ·rw[hle] at hq
   simp only[Qi] at hq
   have hle:=Qk hle
   have hstart:RvA P E w fn.ntmps w.heap.size (Vo 0 args Fr.nil) { tmps:=vs++Array.replicate (fn.ntmps - vs.size) undef,defers:=[] }:=start_act ha hle (Qw _)
   refine (callsIn_wide (n:=0)).1 (callsIn_of_wp_marks (F:=Fence.wide) hf hb trivial ?_)
   cases hcr:Vh Γ Y n (VA P fn.ntmps pol false c) none (Vo 0 args Fr.nil) st with
   | stuck=>rw[hcr] at hq;exact absurd hq.symm h3
   | exit _ _ _=>rw[hcr] at hq;exact absurd hq.symm h3
   | norm fr1 st1=>
    rw[hcr] at hq
    refine wpIn_mono (Ka hG c false none none (fun _=>rfl) w.heap.size E w _ _ st _ hY trivial hcr (by simp) hstart hs) fun e a' w' ⟨he,E',k1,k2,k3⟩=>?_
    subst he
    exact fin R fr1 st1 .ret a' w' E' .returning q hq h1 h2 h3 k1 k2 k3.toP rfl
   | ret fr1 st1=>
    rw[hcr] at hq
    refine wpIn_mono (Ka hG c false none none (fun _=>rfl) w.heap.size E w _ _ st _ hY trivial hcr (by simp) hstart hs) fun e a' w' ⟨he,E',k1,k2,k3⟩=>?_
    subst he
    exact fin R fr1 st1 .ret a' w' E' .returning q hq h1 h2 h3 k1 k2 k3.toP rfl
   | pan fr1 v st1=>
    rw[hcr] at hq
    refine wpIn_mono (Ka hG c false none none (fun _=>rfl) w.heap.size E w _ _ st _ hY trivial hcr (by simp) hstart hs) fun e a' w' h=>?_
    obtain⟨x,E',he,k1,k2,k4,k3⟩:=h
    subst he
    exact fin R fr1 st1 (.pan v) a' w' E' _ q hq h1 h2 h3 k1 k2 k3 ⟨x,rfl,k4⟩
 exact⟨fun v st' hr=>⟨hen,main _ _ hr (by simp) (fun v' st'' h e w' hR=>by cases h;exact hR) (fun _ _ h=>by cases h)⟩,
  fun v st' hr=>⟨hen,main _ _ hr (by simp) (fun _ _ h=>by cases h) (fun v' st'' h e w' hR=>by cases h;exact hR)⟩⟩
theorem entT_enters{tbl:Nat->Option Vm}(ht:TblOk P tbl){f:Nat}(h:Kz tbl f=true):Yh P f:=by
 unfold Kz at h
 split at h
 ·rename_i mf hmf
  obtain⟨fn,pol,h1,h2⟩:=ht f mf hmf
  obtain⟨c,rs,hb,hname,_⟩:=Kc h2
  exact Yo h1 hb hname
 ·cases h
theorem defT_ok{tbl:Nat->Option Vm}(ht:TblOk P tbl)(hG:Jc P Γ){Y:Vi}{n:Nat}{E:Env}{w:World}(hY:WX P Y E w):DFOk P (defT tbl Γ Y n) E w:=by
 intro E' w' hx f args st st' m m' vs u ha hs hm hr
 unfold defT at hr
 split at hr
 ·rename_i mf hmf
  obtain⟨fn,pol,h1,h2⟩:=ht f mf hmf
  obtain⟨c,rs,hb,hname,_⟩:=Kc h2
  exact⟨Yo h1 hb hname,adef_sound hG h1 h2 (hY.mono hx) ha hs hm hr⟩
 ·cases hr
theorem SK{tbl:Nat->Option Vm}{hand:Gam->Nat->Vi->Nat->List AV->St->FR}(ht:TblOk P tbl)(hh:Kf P hand):∀ n,Jc P (Yt tbl hand n)
 | 0=>⟨fun Y E w _ f args st vs _ _=>⟨fun v st' h=>by simp[Yt,Ji] at h,fun v st' h=>by simp[Yt,Ji] at h⟩,fun f h=>entT_enters ht h⟩
 | n+1=>by
  have ih:=SK ht hh n
  refine⟨fun Y E w hY f args st vs ha hs=>?_,fun f h=>entT_enters ht h⟩
  cases htf:tbl f with
  | none=>
   have:=hh _ n ih Y E w hY f args st vs ha hs
   simp only[Yt,Ji,htf]
   exact this
  | some mf=>
   simp only[Yt,Ji,htf]
   obtain⟨fn,pol,h1,h2⟩:=ht f mf htf
   obtain⟨h3,h4⟩:=abody_sound (n:=n) ih h1 h2 hY (defT_ok ht ih hY) ha hs
   exact⟨fun v st' h=>.inl (h3 v st' h),fun v st' h=>.inl (h4 v st' h)⟩
theorem Y0_sound{E:Env}{w:World}(hg:JI P E w):WX P Y0 E w:=fun E' w' hx=>⟨fun _ _ _ _ _ _ _ _ _ _ h=>(nomatch h),hg E' w' hx⟩
end
end
end Go.AM
namespace Go.AM
noncomputable section
def extSem(k:Nat):Array Value->Sem Value:=
 match k with
 | 0=>Extern.BytealgIndexByte.indexByte
 | 1=>Extern.BytealgCount.count
 | _=>Extern.AbiNoEscape.same
def ExtOk(P:Program)(WS:Nat->Option Nat):Prop:=∀ f k,WS f=some k->k < 3/\∃ fn,P.funcs[f]?=some fn/\(fn.name== "runtime.NumGoroutine")=false/\fn.body=none/\Extern.findNext fn=none/\Extern.find fn=some (extSem k)
section
variable {E:Env} {st:St} {w:World} {P:Program}
theorem beq_u8(a:UInt8)(c:Nat)(hc:c < 256):(a==(UInt8.ofNat c))=a.toNat.beq c:=by
 by_cases h:a.toNat=c
 ·have:a=UInt8.ofNat c:=by rw[<-h];simp
  rw[this]
  simp[Ze hc]
 ·have h1:¬ a=UInt8.ofNat c:=fun e=>h (by rw[e];simp[Ze hc])
  have h2:a.toNat.beq c=false:=by
   cases hb:a.toNat.beq c
   ·rfl
   ·exact absurd (Qj hb) h
  rw[h2];simpa using h1
theorem bytes_loop{β:Type}(f:β->UInt8->β)(b:ByteArray)(stop:Nat)(h:stop<=b.size)(h':stop<=b.data.size):∀(i j:Nat) (n:β),
  (ByteArray.foldlM.loop (m:=_root_.Id) (fun x y=>pure (f x y)) b stop h i j n).run=(Array.foldlM.loop (m:=_root_.Id) (fun x y=>pure (f x y)) b.data stop h' i j n).run
 | 0,j,n=>by
  unfold ByteArray.foldlM.loop Array.foldlM.loop
  split<;>rfl
 | i+1,j,n=>by
  unfold ByteArray.foldlM.loop Array.foldlM.loop
  split
  ·exact bytes_loop f b stop h h' i (j+1) _
  ·rfl
theorem bytes_foldl{β:Type}(f:β->UInt8->β)(n:β)(b:ByteArray):b.foldl f n=b.data.toList.foldl f n:=by
 rw[Z4]
 unfold ByteArray.foldl ByteArray.foldlM Array.foldl Array.foldlM
 have h1:b.size<=b.size:=Qw _
 have h2:b.data.size<=b.data.size:=Qw _
 simp only[dif_pos h1,dif_pos h2]
 exact bytes_loop f b b.size h1 h2 _ _ _
theorem cntA_eq(c:Nat)(hc:c < 256):∀(l:List UInt8) (n:Nat),((cntA (l.map (·.toNat)) c n:Nat):Int)=l.foldl (fun (n:Int) x=>if x==UInt8.ofNat c then n+1 else n) (n:Int)
 | [],n=>rfl
 | a::l,n=>by
  simp only[Q4,cntA,Xt]
  rw[cntA_eq c hc l,beq_u8 a c hc]
  cases a.toNat.beq c<;>simp
theorem call_ext{WS:Nat->Option Nat}(he:ExtOk P WS){f k:Nat}(hk:WS f=some k){vs:Array Value}{v:Value}(hv:(extSem k vs).run P w=.ok v w):(callFunc f vs).run P w=.ok (.value v) w:=by
 obtain⟨_,fn,h1,h2,h3,h4,h5⟩:=he f k hk
 simp only[callFunc,Sem.run_bind,run_program,Result.andThen,h1,h2,h3,h4,h5,Q1,Xz,Option.isNone_none,Xj,run_mark,hv,Sem.run_pure]
theorem idxA_eq(b:ByteArray)(c:Nat)(hc:c < 256):∀(l:List UInt8) (i:Nat),(∀(j:Nat) (u:UInt8),l[j]?=some u->b[i+j]! = u) ->
  idxA (l.map (·.toNat)) c i=match (List.range' i l.length).find? fun j=>b[j]! == UInt8.ofNat c with | some j=>.int .i64 (.ofNat j) | none=>.int .i64 (.negSucc 0)
 | [],i,_=>rfl
 | a::l,i,h=>by
  have h0:b[i]! = a:=h 0 a rfl
  simp only[Q4,idxA,QC,ZU,List.find?_cons,h0,beq_u8 a c hc]
  cases a.toNat.beq c
  ·simp only[Qq]
   exact idxA_eq b c hc l (i+1) fun j u hj=>by
    have:=h (j+1) u (by simpa using hj)
    rwa [show i+(j+1)=i+1+j by omega] at this
  ·rfl
theorem extA_sound{k:Nat}{args:List AV}{v:AV}{vs:Array Value}(ha:RvL E w args vs.toList)(hr:extA k args=some v):∃ u,(extSem k vs).run P w=.ok u w/\Rv E w v u:=by
 unfold extA at hr
 split at hr<;>try (simp only[reduceCtorEq] at hr;done)
 ·rename_i l c
  obtain⟨x,xs,e1,⟨b,rfl,hb⟩,y,ys,rfl,h2,h3⟩:=ha
  cases h3
  have h2:y=.int .u8 (c:Int):=h2
  subst h2
  obtain rfl:vs=#[.string b,.int .u8 (c:Int)]:=by cases vs;simp_all
  cases hc:(c+1).ble 256
  ·simp[hc] at hr
  ·simp only[hc,Qi,Qa] at hr;subst hr
   have hc:=Qk hc
   have hl:b.data.toList.length=b.size:=by simp
   have hidx:=idxA_eq b c (by omega) b.data.toList 0 fun j u hj=>by
    have hlt:j < b.size:=by rw[<-hl];exact(Qt.1 hj).1
    have h5:b[j]?=some u:=by
     rw[ByteArray.getElem?_lt' b j hlt]
     have:b.data[j]?=some u:=by simpa using hj
     rw[QM (by simpa using hlt)] at this
     injection this with this
     exact Xn some this
    rw[Q7,getElem!_def,h5]
   rw[hl,<-Zy,hb] at hidx
   rw[hidx]
   have hcc:(c:Int).toNat.toUInt8=UInt8.ofNat c:=by simp[Nat.toUInt8]
   have hdef:extSem 0 #[.string b,.int .u8 (c:Int)]=(match (List.range b.size).find? fun i=>b[i]! == (c:Int).toNat.toUInt8 with
    | some i=>pure (goInt i)
    | none=>pure (goInt (-1)):Sem Value):=rfl
   rw[hdef,hcc]
   cases hq:(List.range b.size).find? fun i=>b[i]! == UInt8.ofNat c with
   | none=>exact⟨_,rfl,rfl⟩
   | some j=>exact⟨_,rfl,rfl⟩
 ·rename_i l c
  obtain⟨x,xs,e1,⟨b,rfl,hb⟩,y,ys,rfl,h2,h3⟩:=ha
  cases h3
  have h2:y=.int .u8 (c:Int):=h2
  subst h2
  obtain rfl:vs=#[.string b,.int .u8 (c:Int)]:=by cases vs;simp_all
  cases hc:(c+1).ble 256
  ·simp[hc] at hr
  ·simp only[hc,Qi,Qa] at hr;subst hr
   have hc:=Qk hc
   have hcc:(c:Int).toNat.toUInt8=UInt8.ofNat c:=by simp[Nat.toUInt8]
   have hfold:b.foldl (fun (n:Int) x=>if x==UInt8.ofNat c then n+1 else n) ((0:Nat):Int)=((cntA l c 0:Nat):Int):=by
    rw[<-hb,cntA_eq c (by omega)]
    exact bytes_foldl _ _ _
   refine⟨goInt (cntA l c 0:Nat),?_,rfl⟩
   have hdef:extSem 1 #[.string b,.int .u8 (c:Int)]=(pure (goInt (b.foldl (fun n x=>if x==(c:Int).toNat.toUInt8 then n+1 else n) (0:Nat))):Sem Value):=rfl
   rw[hdef,hcc,hfold];rfl
 ·rename_i x
  obtain⟨y,ys,e1,h1,h2⟩:=ha
  cases h2
  obtain rfl:vs=#[y]:=by cases vs;simp_all
  simp only[Qa] at hr;subst hr
  exact⟨y,rfl,h1⟩
theorem extR_sound{WS:Nat->Option Nat}(he:ExtOk P WS){f k:Nat}(hk:WS f=some k){args:List AV}{vs:Array Value}(ha:RvL E w args vs.toList)(hs:Sat E st w):
  (∀ v st',extR k args st=.ret v st'->Ya P f vs w fun e w'=>∃ u E',e=.returned u/\Ext E w E' w'/\Sat E' st' w'/\Rv E' w' v u) ∧
  (∀ v st',extR k args st=.pan v st'->Ya P f vs w fun e w'=>∃ u E',e=.panicked [{ v:=u,recovered:=false }]/\Ext E w E' w'/\Sat E' st' w'/\Rv E' w' v u):=by
 refine⟨fun v st' h=>?_,fun v st' h=>?_⟩
 ·unfold extR at h
  split at h
  ·rename_i v' hv
   injection h with e1 e2;subst e1;subst e2
   obtain⟨u,h1,h2⟩:=extA_sound (P:=P) ha hv
   exact .inr ⟨u,w,call_ext he hk h1,u,E,rfl,Ext.refl _ _,hs,h2⟩
  ·cases h
 ·unfold extR at h
  split at h<;>cases h
theorem handX_ok{WS:Nat->Option Nat}(he:ExtOk P WS):Kf P (handX WS):=by
 intro Γ n _ Y E w _ f args st vs ha hs
 unfold handX
 cases hk:WS f with
 | none=>exact⟨fun v st' h=>(by cases h),fun v st' h=>(by cases h)⟩
 | some k=>exact extR_sound he hk ha hs
end
end
end Go.AM
namespace Go.AM
theorem tblC_ok(P:Program)(pol:List (Nat × List (Nat × Nat))):TblOk P (tblC P pol):=fun f mf h=>by
 obtain⟨fn,h1,h2⟩:=Qh.1 h
 exact⟨fn,_,h1,h2⟩
end Go.AM
namespace Go.AM
noncomputable section
theorem Sat.grow{st:St}:∀(os:List Obj) {E:Env} {w:World},Sat E st w->∃ E',Sat E' st (Sort.grow w os.toArray)/\Ext E w E' (Sort.grow w os.toArray)
 | [],E,w,h=>⟨E,by rw[Sort.grow_empty];exact h,by rw[Sort.grow_empty];exact Ext.refl _ _⟩
 | o::os,E,w,h=>by
  obtain⟨h1,h2⟩:=h.allocFz o
  obtain⟨E',h3,h4⟩:=Sat.grow os h1
  have e:Sort.grow w (o::os).toArray=Sort.grow (w.alloc o) os.toArray:=by
   rw[Sort.alloc_eq_grow,Sort.grow_grow];simp
  rw[e]
  exact⟨E',h3,h2.trans h4⟩
theorem Sat.drewN{E:Env}{st:St}{w:World}(h:Sat E st w):∀ k:Nat,Sat E st (w.drewN k)/\Ext E w E (w.drewN k)
 | k=>by
  have hx:Ext E w E (w.drewN k):=⟨⟨fun _ _ h=>h,fun _ h=>h,fun _ _=>rfl,Qw _,fun _ _ h=>h,rfl,rfl,rfl,fun _ _=>rfl⟩,fun _ h=>h,fun _ _ h=>h⟩
  exact⟨⟨h.dom,h.fz,fun id o b h1 h2=>Wv.mono hx rfl (h.obj id o b h1 h2),h.sep,h.lv,h.rs,h.dz,JW.mono h.bt hx.toExt0 rfl⟩,hx⟩
theorem in64_iff{n:Int}(h:in64 n=true):-9223372036854775808<=n/\n<=9223372036854775807:=by
 cases n with
 | ofNat u=>have h1:u<=9223372036854775807:=Qk h;simp;omega
 | negSucc u=>have h1:u<=9223372036854775807:=Qk h;omega
end
end Go.AM
namespace Go.AM
noncomputable section
theorem insI_perm(x:Int):∀ l:List Int,(insI x l).Perm (x::l)
 | []=>Xp _
 | y::ys=>by
  unfold insI
  cases decide (x<=y)
  ·simp only[Qq]
   exact((insI_perm x ys).cons y).trans (List.Perm.swap x y ys)
  ·exact Xp _
theorem WA:∀ l:List Int,(Wn l).Perm l
 | []=>Xp _
 | x::xs=>by
  unfold Wn
  exact(insI_perm x _).trans ((WA xs).cons x)
theorem Kv:∀ l:List Int,ascI l=true->l.Pairwise (· < ·)
 | [],_=>List.Pairwise.nil
 | [x],_=>by simp
 | x::y::l,h=>by
  simp only[ascI,Qd,QF] at h
  have ih:=Kv (y::l) h.2
  refine X8.2 ⟨fun z hz=>?_,ih⟩
  rcases Qx.1 hz with rfl | hz
  ·exact h.1
  ·have:=(X8.1 ih).1 z hz
   omega
theorem sortI_eq{l:List Int}(h:ascI (Wn l)=true):Wn l=l.mergeSort (fun x y=>decide (x<=y))/\l.Nodup:=by
 have hp:=Kv _ h
 refine⟨?_,(WA l).nodup_iff.1 (hp.imp fun h=>by omega)⟩
 refine List.Perm.eq_of_pairwise (le:=fun a b=>decide (a<=b)=true) (fun a b _ _ h1 h2=>?_) (hp.imp fun h=>by simp;omega) (List.pairwise_mergeSort (fun a b c h1 h2=>by simp at *;omega) (fun a b=>by simp;omega) l) ((WA l).trans (List.mergeSort_perm l _).symm)
 simp at h1 h2;omega
section
variable {P:Program} {E:Env} {w:World} {st:St}
theorem Sat.adopt{w':World}(h:Sat E st w)(hb:Go.RowKit.Below w.heap.size w w'){g:Nat}(hg:w.heap.size<=g)(hg':g < w'.heap.size)(ao:AO)(hobj:Ext E w (E.link st.next g) w'->Wv (E.link st.next g) w' g ao):
  Sat (E.link st.next g) (st.new ao) w'/\Ext E w (E.link st.next g) w':=by
 have hshape:∀ b s,w.shape? b=some s->w'.shape? b=some s:=fun b s hs=>by
  have hlt:b < w.heap.size:=by
   unfold World.shape? at hs
   cases hh:w.heap[b]? with
   | none=>rw[hh] at hs;simp at hs
   | some x=>exact(Qv.1 hh).1
  rw[YA (hb.block b hlt)];exact hs
 have hx:Ext E w (E.link st.next g) w':=⟨⟨fun id b hid=>by
  show (if id=st.next then some g else E.β id)=some b
  rw[Qe (by have:=(h.dom id b hid).1;omega)];exact hid,fun _ h=>h,fun b hf=>hb.block b (h.fz b hf),hb.size,hshape,hb.os,hb.tape,hb.output,fun _ _=>rfl⟩,fun _ h=>h,fun _ _ h=>h⟩
 have hlink:∀ i b,(E.link st.next g).β i=some b->(i=st.next/\b=g)\/(i≠st.next/\E.β i=some b):=fun i b hb=>by
  have:(if i=st.next then some g else E.β i)=some b:=hb
  by_cases hi:i=st.next
  ·rw[Qm hi] at this;injection this with this;exact .inl ⟨hi,this.symm⟩
  ·rw[Qe hi] at this;exact .inr ⟨hi,this⟩
 have hget:∀ i o,(st.new ao).get i=some o->(i=st.next/\o=ao)\/(i≠st.next/\st.get i=some o):=fun i o hi=>by
  rw[St.get_new] at hi
  by_cases he:i=st.next
  ·rw[Qm he] at hi;injection hi with hi;exact .inl ⟨he,hi.symm⟩
  ·rw[Qe he] at hi;exact .inr ⟨he,hi⟩
 refine⟨⟨fun i b hib=>?_,fun b hf=>Qz (h.fz b hf) hb.size,fun i o b h1 h2=>?_,fun i i' o o' b h1 h2 l1 l2 b1 b2=>?_,fun i o b h1 l1 b1 hf=>?_,fun i hi=>?_,fun b o hd=>?_,JW.mono h.bt hx.toExt0 rfl⟩,hx⟩
 ·rcases hlink i b hib with⟨rfl,rfl⟩|⟨_,hib⟩
  ·exact⟨by simp,hg'⟩
  ·have:=h.dom i b hib;exact⟨by simp;omega,Qz this.2 hb.size⟩
 ·rcases hget i o h1 with⟨rfl,rfl⟩|⟨hi,h3⟩
  ·rcases hlink _ b h2 with⟨_,rfl⟩|⟨hn,_⟩
   ·exact hobj hx
   ·exact absurd rfl hn
  ·rcases hlink i b h2 with⟨hn,_⟩|⟨_,h2⟩
   ·exact absurd hn hi
   ·exact Wv.mono hx (hb.block b (h.dom i b h2).2) (h.obj i o b h3 h2)
 ·rcases hlink i b b1 with⟨e1,e2⟩|⟨n1,b1⟩
  ·rcases hlink i' b b2 with⟨e3,_⟩|⟨n2,b2⟩
   ·rw[e1,e3]
   ·have:=(h.dom i' b b2).2;omega
  ·rcases hlink i' b b2 with⟨e3,e4⟩|⟨n2,b2⟩
   ·have:=(h.dom i b b1).2;omega
   ·rcases hget i o h1 with⟨e,_⟩|⟨_,h1⟩
    ·exact absurd e n1
    ·rcases hget i' o' h2 with⟨e,_⟩|⟨_,h2⟩
     ·exact absurd e n2
     ·exact h.sep i i' o o' b h1 h2 l1 l2 b1 b2
 ·rcases hlink i b b1 with⟨e1,rfl⟩|⟨n1,b1⟩
  ·have:=h.fz _ hf;omega
  ·rcases hget i o h1 with⟨e,_⟩|⟨_,h1⟩
   ·exact absurd e n1
   ·exact h.lv i o b h1 l1 b1 hf
 ·have:=h.rs i hi
  refine⟨?_,by simp;omega⟩
  show (if i=st.next then some g else E.β i)=none
  rw[Qe (by omega)];exact this.1
 ·obtain⟨h1,h2⟩:=h.dz b o hd
  exact⟨by rw[hb.block b (Qv.1 h1).1];exact h1,h2⟩
theorem Sat.below{w':World}(h:Sat E st w)(hb:Go.RowKit.Below w.heap.size w w'):Sat E st w'/\Ext E w E w':=by
 have hshape:∀ b s,w.shape? b=some s->w'.shape? b=some s:=fun b s hs=>by
  have hlt:b < w.heap.size:=by
   unfold World.shape? at hs
   cases hh:w.heap[b]? with
   | none=>rw[hh] at hs;simp at hs
   | some x=>exact(Qv.1 hh).1
  rw[YA (hb.block b hlt)];exact hs
 have hx:Ext E w E w':=⟨⟨fun _ _ h=>h,fun _ h=>h,fun b hf=>hb.block b (h.fz b hf),hb.size,hshape,hb.os,hb.tape,hb.output,fun _ _=>rfl⟩,fun _ h=>h,fun _ _ h=>h⟩
 exact⟨⟨fun i b hib=>⟨(h.dom i b hib).1,Qz (h.dom i b hib).2 hb.size⟩,fun b hf=>Qz (h.fz b hf) hb.size,fun i o b h1 h2=>Wv.mono hx (hb.block b (h.dom i b h2).2) (h.obj i o b h1 h2),h.sep,h.lv,h.rs,fun b o hd=>by
  obtain⟨h1,h2⟩:=h.dz b o hd
  exact⟨by rw[hb.block b (Qv.1 h1).1];exact h1,h2⟩,JW.mono h.bt hx.toExt0 rfl⟩,hx⟩
def SortedOk(P:Program)(S K:Nat):Prop:=Yh P S/\∀(w:World) (Bm bm:Nat) (l:Array MapEntry) (clock:Nat) (ks:List Int),Bm < w.heap.size->w.cell? ⟨Bm,0,none⟩=some (.map (some bm))->w.heap[bm]?=some (.map l clock)->Je l clock ->
 l.toList.map (·.key)=ks.map (Value.int .i64)->ks.Nodup->(∀ k∈ks,in64 k=true)->ks.length<=1000000 ->
 Calls P S #[.func (.func K) #[] #[.pointer (some ⟨Bm,0,none⟩)]] w fun e w'=>∃ v t,e=.returned v/\w'.ownsRow w.heap.size t 1 v ks.length ((ks.mergeSort (fun x y=>decide (x<=y))).map (Value.int .i64))/\(v=.slice none 0 0 ↔ ks=[])/\Go.RowKit.Below w.heap.size w w'
theorem keysI_sound:∀(es:List (AV × AV)) (l:List MapEntry) (ks:List Int),RvEs E w es l->keysI es=some ks->l.map (·.key)=ks.map (Value.int .i64)/\∀ k∈ks,in64 k=true
 | [],l,ks,hl,hk=>by
  have hl:l=[]:=hl
  simp only[keysI,Qa] at hk
  subst hl;subst hk
  exact⟨rfl,by simp⟩
 | (k,v)::es,_,ks,⟨x,xs,rfl,h1,_,h3⟩,hk=>by
  simp only[keysI] at hk
  split at hk<;>try (cases hk;done)
  rename_i n
  have h1:x.key=.int .i64 n:=h1
  cases hn:in64 n with
  | false=>rw[hn] at hk;cases hk
  | true=>
   rw[hn] at hk
   simp only[Qi,Qf] at hk
   obtain⟨ks',hk',rfl⟩:=hk
   obtain⟨h4,h5⟩:=keysI_sound es xs ks' h3 hk'
   refine⟨by simp only[Q4,h1,h4],fun k hk=>?_⟩
   rcases Qx.1 hk with rfl | hk
   ·exact hn
   ·exact h5 k hk
theorem sortedR_sound{S K:Nat}(hS:SortedOk P S K){args:List AV}{vs:Array Value}(ha:RvL E w args vs.toList)(hs:Sat E st w):
  (∀ v st',Ui K args st=.ret v st'->Ya P S vs w (YO E w v st'))/\(∀ v st',Ui K args st=.pan v st'->Ya P S vs w (PanR E w v st')):=by
 have fin:∀ r,Ui K args st=r->(∀ v st',r=.ret v st'->Ya P S vs w (YO E w v st'))/\(∀ v st',r=.pan v st'->Ya P S vs w (PanR E w v st')):=fun r hr=>by
  unfold Ui at hr
  split at hr<;>try (subst hr;exact⟨(fun v st' h=>by cases h),(fun v st' h=>by cases h)⟩)
  rename_i g cid
  cases hgk:g.beq K with
  | false=>rw[hgk] at hr;subst hr;exact⟨(fun v st' h=>by cases h),(fun v st' h=>by cases h)⟩
  | true=>
  rw[hgk] at hr
  obtain rfl:=Qj hgk
  simp only[Qi] at hr
  split at hr<;>try (subst hr;exact⟨(fun v st' h=>by cases h),(fun v st' h=>by cases h)⟩)
  rename_i id hcid
  split at hr<;>try (subst hr;exact⟨(fun v st' h=>by cases h),(fun v st' h=>by cases h)⟩)
  rename_i ks hks
  cases hc:ascI (Wn ks)&&ks.length.ble 1000000 with
  | false=>rw[hc] at hr;subst hr;exact⟨(fun v st' h=>by cases h),(fun v st' h=>by cases h)⟩
  | true=>
  rw[hc] at hr
  simp only[Qd] at hc
  simp only[Qi] at hr
  obtain⟨hsort,hnd⟩:=sortI_eq hc.1
  -- the arguments
  obtain⟨u,us,hvs,hu,hus⟩:∃ u us,vs.toList=u::us/\Rv E w (.func (.func g) [] [.ptr cid 0]) u/\RvL E w [] us:=ha
  obtain⟨x1,x2,rfl,hx1,hx2⟩:=hu
  have hx1:x1.toList=[]:=hx1
  obtain⟨p,ps,hp1,⟨Bm,hB,hp2⟩,hp3⟩:=hx2
  have hp3:ps=[]:=hp3
  have hus:us=[]:=hus
  subst hp3;subst hus;subst hp2
  have e1:x1=#[]:=by apply XN;rw[hx1]
  have e2:x2=#[.pointer (some ⟨Bm,0,none⟩)]:=by apply XN;rw[hp1]
  subst e1;subst e2
  have hv:vs=#[.func (.func g) #[] #[.pointer (some ⟨Bm,0,none⟩)]]:=by apply XN;rw[hvs]
  subst hv
  -- the cell and the map
  obtain⟨_,hmem⟩:=hs.obj cid _ Bm hcid hB
  obtain⟨⟨cv,hcell,⟨bm,hbm,rfl⟩⟩,_⟩:=hmem
  have hcell:w.cell? ⟨Bm,0,none⟩=some (.map (some bm)):=by rw[Wb] at hcell;simpa using hcell
  obtain⟨es,hes,hkeys⟩:∃ es,esOf st id=some es/\keysI es=some ks:=by
   simp only[Qh] at hks;exact hks
  have hmap:∃ l clock,w.heap[bm]?=some (.map l clock)/\RvEs E w es l.toList/\Je l clock:=by
   unfold esOf at hes
   split at hes<;>try (cases hes;done)
   ·rename_i es' hg;injection hes with hes;subst hes
    exact hs.obj id _ bm hg hbm
   ·rename_i es' hg;injection hes with hes;subst hes
    exact(hs.obj id _ bm hg hbm).2
  obtain⟨l,clock,hl1,hl2,hl3⟩:=hmap
  obtain⟨hk1,hk2⟩:=keysI_sound es l.toList ks hl2 hkeys
  have hcalls:=hS.2 w Bm bm l clock ks (hs.dom cid Bm hB).2 hcell hl1 hl3 hk1 hnd hk2 (Qk hc.2)
  have hlen:(Wn ks).length=ks.length:=(WA ks).length_eq
  split at hr
  ·rename_i hnil
   subst hr
   refine⟨fun v st' h=>?_,fun v st' h=>by cases h⟩
   injection h with e1 e2;subst e1;subst e2
   refine .inl ⟨hS.1,hcalls.mono ?_⟩
   rintro e w' ⟨v,t,rfl,_,hn,hbl⟩
   have hks0:ks=[]:=by
    rw[hnil] at hlen
    exact XY (by simpa using hlen.symm)
   have:=hn.2 hks0
   subst this
   obtain⟨h1,h2⟩:=hs.below hbl
   exact⟨_,E,rfl,h2,h1,rfl⟩
  ·rename_i hne
   subst hr
   refine⟨fun v st' h=>?_,fun v st' h=>by cases h⟩
   injection h with e1 e2;subst e1;subst e2
   refine .inl ⟨hS.1,hcalls.mono ?_⟩
   rintro e w' ⟨v,t,rfl,⟨hxl,hrow⟩,hn,hbl⟩
   rcases hrow with⟨rfl,h0⟩|⟨gb,cap,cur,rfl,hgb,hheap,hncap,_,hcs,htake⟩
   ·exact absurd (by
     have:ks=[]:=XY h0
     rw[this];rfl) hne
   ·rw[<-hsort] at htake
    obtain⟨h1,h2⟩:=hs.adopt hbl hgb (Qv.1 hheap).1 (.row ((Wn ks).map (AV.int .i64))) fun hx=>⟨⟨cur,t,(0,0),hheap,by rw[Qu,hlen,hcs];omega,.inl rfl⟩,V3.of_get fun j d hd=>by
     rw[Q5,Qf] at hd
     obtain⟨k,hk,rfl⟩:=hd
     refine⟨.int .i64 k,?_,rfl⟩
     rw[Wb,Q7,Q7,cell_of_row w' gb j cur t (0,0) hheap]
     have hj:j < ks.length:=by rw[<-hlen];exact(Qt.1 hk).1
     have h3:(cur.toList.take (ks.length*1))[j]?=some (.int .i64 k):=by rw[htake,Q5,hk];rfl
     rw[X6,Qm (by omega)] at h3
     rw[<-X7];exact h3⟩
    refine⟨_,_,rfl,h2,h1,gb,cap,t,cur.size,by simp[Env.link],by rw[hlen],by rw[hlen];exact hncap,by simp,?_,by rw[hcs];omega,by rw[hlen];exact hncap⟩
    unfold World.shape?;rw[hheap]
 exact fin _ rfl
structure InsertOk(P:Program)(I:Nat):Prop where
 ent:Yh P I
 nil:∀(w:World) (vb vc:Nat) (v:Value),w.cell? ⟨vb,0,none⟩=some v->v.oneCell'=true ->
  Calls P I #[.slice none 0 0,.int .i64 0,.slice (some ⟨vb,0,none⟩) 1 vc] w fun e w'=>∃ c X t,e=.returned (.slice (some ⟨w.heap.size,0,none⟩) 1 c) ∧
   w'.heap[w.heap.size]?=some (.cells X t)/\Go.RowKit.Below w.heap.size w w'/\c<=X.size/\1<=c/\X[0]?=some v
 grow:∀(w:World) (b vb vc:Nat) (x v:Value),w.cell? ⟨b,0,none⟩=some x->w.cell? ⟨vb,0,none⟩=some v->x.oneCell'=true->v.oneCell'=true ->
  Calls P I #[.slice (some ⟨b,0,none⟩) 1 1,.int .i64 0,.slice (some ⟨vb,0,none⟩) 1 vc] w fun e w'=>∃ c X t,e=.returned (.slice (some ⟨w.heap.size,0,none⟩) 2 c) ∧
   w'.heap[w.heap.size]?=some (.cells X t)/\Go.RowKit.Below w.heap.size w w'/\c<=X.size/\2<=c/\X[0]?=some v/\X[1]?=some x
 shift:∀(w:World) (b c vb vc:Nat) (x v:Value) (cur curv:Array Value) (t tv:TypeId) (f:Nat × Nat),2<=c->c<=cur.size->vb≠b ->
  w.heap[b]?=some (.cells cur t f)->(f=(0,0)\/cur.size<=f.1)->w.heap[vb]?=some (.cells curv tv (0,0))->cur[0]?=some x->curv[0]?=some v->x.oneCell'=true->v.oneCell'=true ->
  Calls P I #[.slice (some ⟨b,0,none⟩) 1 c,.int .i64 0,.slice (some ⟨vb,0,none⟩) 1 vc] w fun e w'=>e=.returned (.slice (some ⟨b,0,none⟩) 2 c) ∧
   w'=(w.drew.setCell ⟨b,1,none⟩ x).setCell ⟨b,0,none⟩ v
theorem insertR_sound{I:Nat}(hI:InsertOk P I){args:List AV}{vs:Array Value}(ha:RvL E w args vs.toList)(hs:Sat E st w):
  (∀ v st',insertR args st=.ret v st'->Ya P I vs w (YO E w v st'))/\(∀ v st',insertR args st=.pan v st'->Ya P I vs w (PanR E w v st')):=by
 have stk:(∀ v st',FR.stuck=.ret v st'->Ya P I vs w (YO E w v st'))/\(∀ v st',FR.stuck=.pan v st'->Ya P I vs w (PanR E w v st')):=⟨(fun v st' h=>by cases h),(fun v st' h=>by cases h)⟩
 unfold insertR
 split
 ·rename_i v oc lo
  obtain⟨u0,us,hvs,hu0,u1,us1,hus,hu1,u2,us2,hus1,hu2,hus2⟩:=ha
  have hus2:us2=[]:=hus2
  have hu0:u0=.slice none 0 0:=hu0
  have hu1:u1=.int .i64 (.ofNat 0):=hu1
  obtain⟨vb,vc,ev,mv,hvb,hu2,_⟩:=hu2
  subst hus2 hu0 hu1 hu2 hus1 hus
  have hv:vs=#[.slice none 0 0,.int .i64 0,.slice (some ⟨vb,0,none⟩) 1 vc]:=by apply XN;rw[hvs];rfl
  subst hv
  split
  ·rename_i y d hgv
   obtain⟨_,hm⟩:=hs.obj v _ vb hgv hvb
   obtain⟨⟨yv,hc,hy⟩,_⟩:=hm
   have hc:w.cell? ⟨vb,0,none⟩=some yv:=by rw[Wb] at hc;simpa using hc
   have hone:yv.oneCell'=true:=Rv.oneCell hy rfl
   refine⟨fun v' st' h=>?_,fun v st' h=>by cases h⟩
   injection h with e1 e2;subst e1;subst e2
   refine .inl ⟨hI.ent,(hI.nil w vb vc yv hc hone).mono ?_⟩
   rintro e w' ⟨c,X,t,rfl,hh,hb,h1,h2,h3⟩
   obtain⟨q1,q2⟩:=hs.adopt hb (Qw _) (Qv.1 hh).1 (.row [.ptr y d]) fun hx=>⟨⟨X,t,(0,0),hh,by simp;omega,.inl rfl⟩,V3.of_get fun j a hj=>by
    rw[Wb,Q7,Q7,cell_of_row w' _ j X t (0,0) hh]
    match j,hj with
    | 0,hj=>simp only[Q0,Qa] at hj;subst hj;exact⟨yv,h3,Rv.mono hx _ _ hy⟩
    | j+1,hj=>simp at hj⟩
   exact⟨_,_,rfl,q2,q1,_,c,t,X.size,by simp[Env.link],rfl,h2,by simp,by unfold World.shape?;rw[hh],by omega,h2⟩
  ·exact stk
 ·rename_i id o1 l1 v o2 l2
  obtain⟨u0,us,hvs,hu0,u1,us1,hus,hu1,u2,us2,hus1,hu2,hus2⟩:=ha
  have hus2:us2=[]:=hus2
  have hu1:u1=.int .i64 (.ofNat 0):=hu1
  obtain⟨b,c,eb,mb,hb,hu0,hc1,_,hshb,hcm,_⟩:=hu0
  obtain⟨vb,vc,ev,mv,hvb,hu2,_⟩:=hu2
  subst hus2 hu0 hu1 hu2 hus1 hus
  have hv:vs=#[.slice (some ⟨b,0,none⟩) 1 c,.int .i64 0,.slice (some ⟨vb,0,none⟩) 1 vc]:=by apply XN;rw[hvs];rfl
  subst hv
  split
  ·rename_i x xc y d t hgi hgv hbt
   cases hcond:t.beq Uf&&!id.beq v with
   | false=>exact stk
   | true=>
   simp only[Qi]
   rw[Qd] at hcond
   obtain rfl:=Qj hcond.1
   have hne:id≠v:=fun h=>by subst h;simp at hcond
   obtain⟨⟨curv,ev',fv,hhv,hlv,hfv⟩,hmv⟩:=hs.obj v _ vb hgv hvb
   obtain⟨⟨cur,eb',fb,hhb,hlb,hfb⟩,hmb⟩:=hs.obj id _ b hgi hb
   have hshb':w.shape? b=some (eb',cur.size):=by unfold World.shape?;rw[hhb]
   rw[hshb'] at hshb;injection hshb with hshb;injection hshb with k1 k2;subst k1;subst k2
   obtain⟨⟨yv,hcv,hy⟩,_⟩:=hmv
   obtain⟨⟨xv,hcx,hx⟩,_⟩:=hmb
   have hcv:w.cell? ⟨vb,0,none⟩=some yv:=by rw[Wb] at hcv;simpa using hcv
   have hcx:w.cell? ⟨b,0,none⟩=some xv:=by rw[Wb] at hcx;simpa using hcx
   have oy:yv.oneCell'=true:=Rv.oneCell hy rfl
   have ox:xv.oneCell'=true:=Rv.oneCell hx rfl
   obtain⟨b',m',h7,h8⟩:=hs.bt v _ hbt
   rw[hvb] at h7;injection h7 with h7;subst h7
   have hshv:w.shape? vb=some (ev',curv.size):=by unfold World.shape?;rw[hhv]
   rw[hshv] at h8;injection h8 with h8;injection h8 with k1 k2;subst k1
   have hfv:fv=(0,0):=hfv.resolve_right fun h=>h.2 rfl
   subst hfv
   have hvbb:vb≠b:=fun h=>by subst h;exact hne (hs.sep id v _ _ _ hgi hgv rfl rfl hb hvb)
   refine⟨fun v' st' h=>?_,fun v st' h=>by cases h⟩
   injection h with e1 e2;subst e1;subst e2
   refine .inl ⟨hI.ent,?_⟩
   by_cases h1:c=1
   ·subst h1
    refine (hI.grow w b vb vc xv yv hcx hcv ox oy).mono ?_
    rintro e w' ⟨c',X,t,rfl,hh,hbl,h1,h2,h3,h4⟩
    obtain⟨q1,q2⟩:=(hs.del id).adopt hbl (Qw _) (Qv.1 hh).1 (.row [.ptr y d,.ptr x xc]) fun hx'=>⟨⟨X,t,(0,0),hh,by simp;omega,.inl rfl⟩,V3.of_get fun j a hj=>by
     rw[Wb,Q7,Q7,cell_of_row w' _ j X t (0,0) hh]
     match j,hj with
     | 0,hj=>simp only[Q0,Qa] at hj;subst hj;exact⟨yv,h3,Rv.mono hx' _ _ hy⟩
     | 1,hj=>simp only[QE,Q0,Qa] at hj;subst hj;exact⟨xv,h4,Rv.mono hx' _ _ hx⟩
     | j+2,hj=>simp at hj⟩
    exact⟨_,_,rfl,q2,q1,_,c',t,X.size,by simp[Env.link],rfl,h2,by simp,by unfold World.shape?;rw[hh],by omega,h2⟩
   ·have c0:cur[0]?=some xv:=by rw[<-cell_of_row w b 0 cur eb' fb hhb];exact hcx
    have v0:curv[0]?=some yv:=by rw[<-cell_of_row w vb 0 curv Uf (0,0) hhv];exact hcv
    refine (hI.shift w b c vb vc xv yv cur curv eb' Uf fb (by omega) (by omega) hvbb hhb (hfb.imp_right And.left) hhv c0 v0 ox oy).mono ?_
    rintro e w' ⟨rfl,rfl⟩
    obtain⟨hd1,hd2⟩:=hs.drew
    have g1:w.drew.heap[b]?=some (.cells cur eb' fb):=hhb
    have g2:=Yr w.drew b 1 cur eb' fb xv g1
    have g3:=Yr _ b 0 _ eb' fb yv g2
    have hoth:∀ k,k≠b->((w.drew.setCell ⟨b,1,none⟩ xv).setCell ⟨b,0,none⟩ yv).heap[k]?=w.drew.heap[k]?:=fun k hk=>by
     rw[heap_setCell_other _ _ k yv hk,heap_setCell_other _ _ k xv hk]
    have hsh:∀ s,w.drew.shape? b=some s->((w.drew.setCell ⟨b,1,none⟩ xv).setCell ⟨b,0,none⟩ yv).shape? b=some s:=fun s h=>by
     unfold World.shape? at h ⊢;rw[g1] at h;rw[g3];simpa using h
    obtain⟨q1,q2⟩:=Sat.write hd1 id b _ (.row [.ptr y d,.ptr x xc]) hgi rfl hb hoth (by simp[World.setCell]) hsh rfl rfl rfl rfl fun hx'=>⟨⟨_,eb',fb,g3,by simp;omega,by simpa using hfb⟩,V3.of_get fun j a hj=>by
     rw[Wb,Q7,Q7,cell_of_row _ _ j _ eb' fb g3]
     match j,hj with
     | 0,hj=>simp only[Q0,Qa] at hj;subst hj;exact⟨yv,by rw[XI,Qm rfl,Qm (by simp;omega)],Rv.mono (hd2.trans hx') _ _ hy⟩
     | 1,hj=>simp only[QE,Q0,Qa] at hj;subst hj;exact⟨xv,by rw[XI,Qe (by omega),XI,Qm rfl,Qm (by omega)],Rv.mono (hd2.trans hx') _ _ hx⟩
     | j+2,hj=>simp at hj⟩
    obtain⟨q3,q4⟩:=q1.rename (id:=id) (b:=b) (o:=.row [.ptr y d,.ptr x xc]) (by simp) rfl hb
    refine⟨_,E.link st.next b,rfl,(hd2.trans q2).trans q4,?_,b,c,eb',cur.size,by simp[Env.link],rfl,by omega,by simp,hsh _ hshb',by omega,by omega⟩
    refine q3.congr (fun j=>?_) (by simp) rfl
    simp only[St.get_new,St.get_del,St.get_put,St.next_del,St.next_put]
    by_cases hj:j=st.next
    ·simp[hj]
    ·by_cases hj2:j=id<;>simp[hj,hj2]
  ·exact stk
 ·exact stk
theorem handW_ok{WS:Nat->Option Nat}{S K I:Nat}(he:ExtOk P WS)(hS:SortedOk P S K)(hI:InsertOk P I):Kf P (handW WS S K I):=by
 intro Γ n hG Y E w hY f args st vs ha hs
 unfold handW
 cases hf:f.beq S with
 | true=>
  obtain rfl:=Qj hf
  exact sortedR_sound hS ha hs
 | false=>
  cases hi:f.beq I with
  | true=>
   obtain rfl:=Qj hi
   exact insertR_sound hI ha hs
  | false=>exact handX_ok he Γ n hG Y E w hY f args st vs ha hs
end
end
end Go.AM
namespace Go.AM
noncomputable section
def Kl(l:List (Int × Int)):List Value:=l.flatMap fun p=>[.int .i64 p.1,.int .i64 p.2]
theorem insP_perm(x:Int × Int):∀ l,(insP x l).Perm (x::l)
 | []=>Xp _
 | y::ys=>by
  unfold insP
  cases decide (x.1<=y.1)
  ·simp only[Qq]
   exact((insP_perm x ys).cons y).trans (List.Perm.swap x y ys)
  ·exact Xp _
theorem Ug:∀ l,(VY l).Perm l
 | []=>Xp _
 | x::xs=>by
  unfold VY
  exact(insP_perm x _).trans ((Ug xs).cons x)
theorem asc_uniq{l l':List (Int × Int)}(h:l.Pairwise fun x y=>x.1 < y.1)(h':l'.Pairwise fun x y=>x.1 < y.1)(hp:l.Perm l'):l=l':=
 List.Perm.eq_of_pairwise (le:=fun x y=>x=y\/x.1 < y.1) (fun a b _ _ h1 h2=>by
  rcases h1 with h1 | h1
  ·exact h1
  ·rcases h2 with h2 | h2
   ·exact h2.symm
   ·omega) (h.imp .inr) (h'.imp .inr) hp
theorem pairsI_eq:∀{cs:List AV} {ps:List (Int × Int)},Jt cs=some ps->cs=V9 ps
 | [],ps,h=>by simp only[Jt,Qa] at h;subst h;rfl
 | [x],ps,h=>by unfold Jt at h;split at h<;>simp_all
 | x::y::l,ps,h=>by
  cases x<;>try (simp[Jt] at h;done)
  rename_i k a
  cases y<;>try (cases k<;>simp[Jt] at h;done)
  rename_i k' b
  cases k<;>try (simp[Jt] at h;done)
  cases k'<;>try (simp[Jt] at h;done)
  simp only[Jt,Qf] at h
  obtain⟨qs,h1,rfl⟩:=h
  rw[pairsI_eq h1];rfl
theorem SB:∀ ps,Jt (V9 ps)=some ps
 | []=>rfl
 | p::ps=>by
  have:V9 (p::ps)=.int .i64 p.1::.int .i64 p.2::V9 ps:=rfl
  rw[this,Jt,SB ps];rfl
theorem Uv(ps:List (Int × Int)):(V9 ps).length=2*ps.length:=by
 induction ps with
 | nil=>rfl
 | cons p ps ih=>
  have:V9 (p::ps)=.int .i64 p.1::.int .i64 p.2::V9 ps:=rfl
  rw[this];simp only[QC,ih];omega
theorem pairsV_len(ps:List (Int × Int)):(Kl ps).length=2*ps.length:=by
 induction ps with
 | nil=>rfl
 | cons p ps ih=>
  have:Kl (p::ps)=.int .i64 p.1::.int .i64 p.2::Kl ps:=rfl
  rw[this];simp only[QC,ih];omega
section
variable {P:Program} {E:Env} {w:World} {st:St}
theorem SG:∀ ps:List (Int × Int),RvL E w (V9 ps) (Kl ps)
 | []=>rfl
 | p::ps=>⟨_,_,rfl,rfl,_,_,rfl,rfl,SG ps⟩
def SortFOk(P:Program)(T C:Nat):Prop:=Yh P T/\∀(w:World) (b cap t:Nat) (d:List (Int × Int)) (c:Array Value) (f:Nat × Nat),w.heap[b]?=some (.cells c t f)->2*d.length<=c.size->(f=(0,0)\/c.size<=f.1) ->
 (∀(j:Nat) v,(Kl d)[j]?=some v->c[j]?=some v)->d.length < 1000000000000 ->
 Calls P T #[.slice (some ⟨b,0,none⟩) d.length cap,.func (.func C) #[] #[]] w fun e w'=>e=.returned (.tuple #[])/\∃ (w1:World) (d':List (Int × Int)) (c':Array Value),d'.Perm d/\d'.Pairwise (fun x y=>x.1<=y.1)/\(∀ k,k≠b->w1.heap[k]?=w.heap[k]?)/\w1.heap.size=w.heap.size ∧
  w1.heap[b]?=some (.cells c' t f)/\c'.size=c.size/\(∀(j:Nat) v,(Kl d')[j]?=some v->c'[j]?=some v)/\w1.os=w.os/\w1.tape=w.tape/\w1.output=w.output/\Go.RowKit.Below w1.heap.size w1 w'
theorem sortFuncR_sound{T C:Nat}(hS:SortFOk P T C){args:List AV}{vs:Array Value}(ha:RvL E w args vs.toList)(hs:Sat E st w):
  (∀ v st',KJ C args st=.ret v st'->Ya P T vs w (YO E w v st'))/\(∀ v st',KJ C args st=.pan v st'->Ya P T vs w (PanR E w v st')):=by
 have stk:(∀ v st',FR.stuck=.ret v st'->Ya P T vs w (YO E w v st'))/\(∀ v st',FR.stuck=.pan v st'->Ya P T vs w (PanR E w v st')):=⟨(fun v st' h=>by cases h),(fun v st' h=>by cases h)⟩
 unfold KJ
 split
 ·rename_i id n cap lo g
  cases hg:g.beq C with
  | false=>exact stk
  | true=>
  obtain rfl:=Qj hg
  simp only[Qi]
  split
  ·rename_i cs hgi
   split
   ·rename_i ps hps
    cases hc0:ps.length.beq n&&ps.length.ble 1000000000&&ascI ((VY ps).map Prod.fst) with
    | false=>exact stk
    | true=>
    rw[Qd,Qd] at hc0
    obtain rfl:=Qj hc0.1.1
    have hbig:ps.length < 1000000000000:=Nat.lt_of_le_of_lt (Qk hc0.1.2) (by decide)
    obtain⟨u0,us,hvs,hu0,u1,us1,hus,hu1,hus1⟩:=ha
    have hus1:us1=[]:=hus1
    obtain⟨b,cc,eb,mb,hb,hu0,hc1,_,hshb,hcm,_⟩:=hu0
    obtain⟨x1,x2,hu1,hx1,hx2⟩:=hu1
    have hx1:x1.toList=[]:=hx1
    have hx2:x2.toList=[]:=hx2
    have e1:x1=#[]:=by apply XN;rw[hx1]
    have e2:x2=#[]:=by apply XN;rw[hx2]
    subst e1;subst e2;subst hus1 hu0 hu1 hus
    have hv:vs=#[.slice (some ⟨b,0,none⟩) ps.length cc,.func (.func g) #[] #[]]:=by apply XN;rw[hvs]
    subst hv
    have hcs:=pairsI_eq hps
    obtain⟨⟨c,t,f,hh,hl,hf⟩,hm⟩:=hs.obj id _ b hgi hb
    subst hcs
    rw[Uv] at hl
    have hcv:∀(j:Nat) v,(Kl ps)[j]?=some v->c[j]?=some v:=fun j v hj=>by
     have hjl:=(Qt.1 hj).1
     rw[pairsV_len] at hjl
     obtain⟨a,ha⟩:∃ a,(V9 ps)[j]?=some a:=⟨_,Qn (by rw[Uv];exact hjl)⟩
     obtain⟨x,hx1,hx2⟩:=V3.get j hm ha
     rw[Wb,Q7,Q7,cell_of_row w b j c t f hh] at hx1
     obtain⟨y,hy1,hy2⟩:=(SG (E:=E) (w:=w) ps).get j ha
     rw[hj] at hy1;injection hy1 with hy1;subst hy1
     have:x=v:=by
      have hav:∃ i,a=.int .i64 i:=by
       have hmem:=Qr ha
       unfold V9 at hmem
       obtain⟨p,_,hp⟩:=QO.1 hmem
       simp only[Qx,QI,Xh] at hp
       rcases hp with hp | hp<;>exact⟨_,hp⟩
      obtain⟨i,rfl⟩:=hav
      have hx2:x=.int .i64 i:=hx2
      have hy2:v=.int .i64 i:=hy2
      rw[hx2,hy2]
     rw[<-this];exact hx1
    have hsort:(VY ps).Pairwise fun x y=>x.1 < y.1:=List.pairwise_map.1 (Kv _ hc0.2)
    have hnd:(ps.map Prod.fst).Nodup:=((Ug ps).map Prod.fst).nodup_iff.1 ((Kv _ hc0.2).imp fun h=>by omega)
    refine⟨fun v st' h=>?_,fun v st' h=>by cases h⟩
    injection h with e1 e2;subst e1;subst e2
    ·refine .inl ⟨hS.1,(hS.2 w b cc t ps c f hh hl (hf.imp (fun h=>h) fun h=>h.1) hcv hbig).mono ?_⟩
     rintro e w' ⟨rfl,w1,d',c',hp,hso,ho1,ho2,ho3,ho4,ho5,ho6,ho7,ho8,hbl⟩
     have hso':d'.Pairwise fun x y=>x.1 < y.1:=by
      have hnd':(d'.map Prod.fst).Nodup:=(hp.map Prod.fst).nodup_iff.2 hnd
      have:=hso.and (List.pairwise_map.1 hnd')
      exact this.imp fun⟨h1,h2⟩=>by omega
     have hd:d'=VY ps:=asc_uniq hso' hsort (hp.trans (Ug ps).symm)
     subst hd
     obtain⟨q1,q2⟩:=hs.write (w':=w1) id b (.row (V9 ps)) (.row (V9 (VY ps))) hgi rfl hb ho1 ho2 (fun s hs'=>by
       unfold World.shape? at hs' ⊢
       rw[hh] at hs';rw[ho3]
       simp only[Qa] at hs' ⊢
       rw[<-hs',ho4]) ho6 ho7 ho8 rfl fun hx=>⟨⟨c',t,f,ho3,by rw[Uv,ho4,(Ug ps).length_eq];exact hl,by rw[ho4];exact hf⟩,V3.of_get fun j a hj=>by
      rw[Wb,Q7,Q7,cell_of_row w1 _ j c' t f ho3]
      obtain⟨y,hy1,hy2⟩:=(SG (E:=E) (w:=w1) (VY ps)).get j hj
      exact⟨y,ho5 j y hy1,hy2⟩⟩
     obtain⟨q3,q4⟩:=q1.below hbl
     exact⟨_,_,rfl,q2.trans q4,q3,_,rfl,rfl⟩
   ·exact stk
  ·exact stk
 ·exact stk
theorem handV_ok{WS:Nat->Option Nat}{S K I T C:Nat}(he:ExtOk P WS)(hS:SortedOk P S K)(hI:InsertOk P I)(hT:SortFOk P T C):Kf P (handV WS S K I T C):=by
 intro Γ n hG Y E w hY f args st vs ha hs
 unfold handV
 cases hf:f.beq T with
 | true=>
  obtain rfl:=Qj hf
  exact sortFuncR_sound hT ha hs
 | false=>exact handW_ok he hS hI Γ n hG Y E w hY f args st vs ha hs
end
end
end Go.AM
